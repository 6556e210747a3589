/- The statement TopCounter. -/
import Derived.Test.YtiopopplbehieaaCelU
import Derived.Deep.RegionHeld3
namespace Go.Proofs.Ytiopopplbehieaa.Cel
open Go.RowKit
set_option linter.unusedSimpArgs false
set_option linter.unusedVariables false

def Bools (w : World) (a : Option Addr) (len : Nat) : Prop :=
  len ≤ 9223372036854775807 ∧ (len = 0 ∨ ∃ b off, a = some ⟨b, off, none⟩ ∧ ∀ i, i < len → ∃ p : Bool, w.cell? ⟨b, off + i, none⟩ = some (.bool p))
theorem bools_of {H : Type} {enc : TypeId × Value → H} {w : World} {a : Option Addr} {len cap : Nat} (h : Fits enc Try.prog w 60 [.slice a len cap]) : Bools w a len := by
  have hC : Try.prog.cellsOf 4 = 1 := by kernel_rfl
  obtain ⟨hm, hh⟩ := h.slice Try.underlying60 (by rw [hC]; decide)
  refine ⟨hm, ?_⟩
  rcases hh with hh | ⟨b, off, rfl, hh⟩
  · exact .inl hh
  refine .inr ⟨b, off, rfl, fun i hi => ?_⟩
  obtain ⟨cs, hl, hc, hf⟩ := hh i hi
  obtain ⟨p, rfl⟩ := hf.bool (by kernel_rfl)
  rw [hC] at hc
  have := hc 0 (by decide)
  rw [Nat.mul_one, Nat.add_zero] at this
  exact ⟨p, this⟩
theorem two8_of {H : Type} {enc : TypeId × Value → H} {w : World} {cs : List Value} (h : Fits enc Try.prog w 61 cs) : ∃ x y, (0 ≤ x ∧ x ≤ 255) ∧ (0 ≤ y ∧ y ≤ 255) ∧ cs = [.int .u8 x, .int .u8 y] := by
  obtain ⟨hl, hf⟩ := h.array Try.underlying61
  rw [show Try.prog.cellsOf 61 = 2 by kernel_rfl] at hl
  rw [show Try.prog.cellsOf 5 = 1 by kernel_rfl] at hf
  match cs, hl with
  | [c0, c1], _ =>
    obtain ⟨x, h0, w0⟩ := (hf 0 (by decide)).int (k := .u8) (by kernel_rfl)
    obtain ⟨y, h1, w1⟩ := (hf 1 (by decide)).int (k := .u8) (by kernel_rfl)
    simp at h0 h1
    exact ⟨x, y, bounds_u8 w0, bounds_u8 w1, by rw [h0, h1]⟩

/-- between two rounds -/
structure Cnt (w wr : World) (c ab sb hb : Nat) (a0 a1 : Int) (k : Nat) (F : Nat → Prop) (s : CSt) (x : Int) (x0 x1 : Int) (b0 b1 : Bool) : Prop where
  c : CellsAt 66 wr c F s
  p : Played 1 s k
  x : s.at 0 = x
  add : wr.heap[ab]? = some (.cells #[.int .u8 a0, .int .u8 a1] 61 (0, 0))
  seen : wr.heap[sb]? = some (.cells #[.int .u64 x0, .int .u64 x1] 24 (0, 0))
  has : wr.heap[hb]? = some (.cells #[.bool b0, .bool b1] 62 (0, 0))
  u0 : U64 x0
  u1 : U64 x1
  f : ∀ i, F i → w.heap.size ≤ i ∧ i ≠ ab ∧ i ≠ sb ∧ i ≠ hb
  ne1 : ab ≠ sb
  ne2 : ab ≠ hb
  ne3 : sb ≠ hb
  blo : w.heap.size ≤ ab ∧ w.heap.size ≤ sb ∧ w.heap.size ≤ hb
  lo : Below w.heap.size w wr

section
variable {w wr w3 : World} {c ab sb hb : Nat} {a0 a1 : Int} {k : Nat} {F : Nat → Prop} {s : CSt} {x x0 x1 : Int} {b0 b1 : Bool}
theorem Cnt.step (h : Cnt w wr c ab sb hb a0 a1 k F s x x0 x1 b0 b1) {o : OpV} (ho : o.Fit) (hc : CellsAt 66 w3 c (Grow F wr w3) (s.doS o)) (o3 : Only F wr w3) :
    Cnt w w3 c ab sb hb a0 a1 (k + 1) (Grow F wr w3) (s.doS o) ((s.doS o).at 0) x0 x1 b0 b1 := by
  have q1 := blk_lt h.add; have q2 := blk_lt h.seen; have q3 := blk_lt h.has
  refine ⟨hc, h.p.step o ho, rfl, o3.blk h.add (fun hF => (h.f _ hF).2.1 rfl), o3.blk h.seen (fun hF => (h.f _ hF).2.2.1 rfl), o3.blk h.has (fun hF => (h.f _ hF).2.2.2 rfl), h.u0, h.u1, ?_, h.ne1, h.ne2, h.ne3, h.blo, ?_⟩
  · rintro i (hi | ⟨hi, _⟩)
    · exact h.f i hi
    · exact ⟨Nat.le_trans h.lo.size hi, by omega, by omega, by omega⟩
  · exact h.lo.trans (o3.lo (fun i hi => (h.f i hi).1) h.lo.size)
theorem Cnt.below (h : Cnt w wr c ab sb hb a0 a1 k F s x x0 x1 b0 b1) (hb' : Below wr.heap.size wr w3) : Cnt w w3 c ab sb hb a0 a1 k F s x x0 x1 b0 b1 :=
  ⟨h.c.below hb', h.p, h.x, bblk hb' h.add, bblk hb' h.seen, bblk hb' h.has, h.u0, h.u1, h.f, h.ne1, h.ne2, h.ne3, h.blo, h.lo.trans (hb'.mono h.lo.size)⟩
theorem Cnt.keep {bx : Nat} (h : Cnt w wr c ab sb hb a0 a1 k F s x x0 x1 b0 b1) (ho : Only (fun j => j = bx) wr w3) (n0 : w.heap.size ≤ bx) (n1 : ab ≠ bx) (n2 : sb ≠ bx) (n3 : hb ≠ bx) (n4 : ¬ F bx) : Cnt w w3 c ab sb hb a0 a1 k F s x x0 x1 b0 b1 :=
  ⟨h.c.keep ho (fun j hj hj' => n4 (hj' ▸ hj)), h.p, h.x, ho.blk h.add n1, ho.blk h.seen n2, ho.blk h.has n3, h.u0, h.u1, h.f, h.ne1, h.ne2, h.ne3, h.blo, h.lo.trans (ho.below h.lo.size (fun j hj hj' => by omega))⟩
theorem Cnt.seen0 (h : Cnt w wr c ab sb hb a0 a1 k F s x x0 x1 b0 b1) {v : Int} (hv : U64 v) : Cnt w (wr.setCell ⟨sb, 0, none⟩ (.int .u64 v)) c ab sb hb a0 a1 k F s x v x1 b0 b1 := by
  have ho : Only (fun j => j = sb) wr (wr.setCell ⟨sb, 0, none⟩ (.int .u64 v)) := (Only.refl (fun j => j = sb) wr).setCell (.inr rfl) _
  have hs := blk_set h.seen 0 (.int .u64 v)
  simp only [List.setIfInBounds_toArray, List.set_cons_zero] at hs
  exact ⟨h.c.keep ho (fun j hj hj' => (h.f j hj).2.2.1 hj'), h.p, h.x, ho.blk h.add h.ne1, hs, ho.blk h.has (fun e => h.ne3 e.symm), hv, h.u1, h.f, h.ne1, h.ne2, h.ne3, h.blo, h.lo.setCell h.blo.2.1 _⟩
theorem Cnt.seen1 (h : Cnt w wr c ab sb hb a0 a1 k F s x x0 x1 b0 b1) {v : Int} (hv : U64 v) : Cnt w (wr.setCell ⟨sb, 1, none⟩ (.int .u64 v)) c ab sb hb a0 a1 k F s x x0 v b0 b1 := by
  have ho : Only (fun j => j = sb) wr (wr.setCell ⟨sb, 1, none⟩ (.int .u64 v)) := (Only.refl (fun j => j = sb) wr).setCell (.inr rfl) _
  have hs := blk_set h.seen 1 (.int .u64 v)
  simp only [List.setIfInBounds_toArray, List.set_cons_zero, List.set_cons_succ] at hs
  exact ⟨h.c.keep ho (fun j hj hj' => (h.f j hj).2.2.1 hj'), h.p, h.x, ho.blk h.add h.ne1, hs, ho.blk h.has (fun e => h.ne3 e.symm), h.u0, hv, h.f, h.ne1, h.ne2, h.ne3, h.blo, h.lo.setCell h.blo.2.1 _⟩
theorem Cnt.has0 (h : Cnt w wr c ab sb hb a0 a1 k F s x x0 x1 b0 b1) (v : Bool) : Cnt w (wr.setCell ⟨hb, 0, none⟩ (.bool v)) c ab sb hb a0 a1 k F s x x0 x1 v b1 := by
  have ho : Only (fun j => j = hb) wr (wr.setCell ⟨hb, 0, none⟩ (.bool v)) := (Only.refl (fun j => j = hb) wr).setCell (.inr rfl) _
  have hs := blk_set h.has 0 (.bool v)
  simp only [List.setIfInBounds_toArray, List.set_cons_zero] at hs
  exact ⟨h.c.keep ho (fun j hj hj' => (h.f j hj).2.2.2 hj'), h.p, h.x, ho.blk h.add h.ne2, ho.blk h.seen h.ne3, hs, h.u0, h.u1, h.f, h.ne1, h.ne2, h.ne3, h.blo, h.lo.setCell h.blo.2.2 _⟩
theorem Cnt.has1 (h : Cnt w wr c ab sb hb a0 a1 k F s x x0 x1 b0 b1) (v : Bool) : Cnt w (wr.setCell ⟨hb, 1, none⟩ (.bool v)) c ab sb hb a0 a1 k F s x x0 x1 b0 v := by
  have ho : Only (fun j => j = hb) wr (wr.setCell ⟨hb, 1, none⟩ (.bool v)) := (Only.refl (fun j => j = hb) wr).setCell (.inr rfl) _
  have hs := blk_set h.has 1 (.bool v)
  simp only [List.setIfInBounds_toArray, List.set_cons_zero, List.set_cons_succ] at hs
  exact ⟨h.c.keep ho (fun j hj hj' => (h.f j hj).2.2.2 hj'), h.p, h.x, ho.blk h.add h.ne2, ho.blk h.seen h.ne3, hs, h.u0, h.u1, h.f, h.ne1, h.ne2, h.ne3, h.blo, h.lo.setCell h.blo.2.2 _⟩
end
theorem load_facts (s : CSt) (hi : 0 < s.ws.length) : s.doE ⟨1, 0, 0, 0⟩ = 0 ∧ s.doD ⟨1, 0, 0, 0⟩ = ⟨⟨1, 0, 0, 0⟩, s.at 0, true⟩ ∧ (s.doS ⟨1, 0, 0, 0⟩).at 0 = s.at 0 := by
  have hr : s.inr 0 = true := by simp [CSt.inr, hi]
  have hb : ∀ q, becV ⟨1, 0, 0, 0⟩ q = (q, true, 0) := fun q => by simp [becV]
  have hE : s.doE ⟨1, 0, 0, 0⟩ = 0 := by simp only [CSt.doE, hr, if_true, hb]
  refine ⟨hE, by simp only [CSt.doD, hE, if_true, hb], ?_⟩
  simp only [CSt.doS, hE, if_true, hb, CSt.at]
  simp [hi]

theorem cas0_facts (s : CSt) (x y : Int) (hi : 0 < s.ws.length) :
    s.doE ⟨3, 0, x, y⟩ = 0 ∧ s.doD ⟨3, 0, x, y⟩ = ⟨⟨3, 0, x, y⟩, s.at 0, decide (s.at 0 = x)⟩ ∧ (s.doS ⟨3, 0, x, y⟩).at 0 = (if s.at 0 = x then y else s.at 0) := by
  have h := cas_facts s 0 x y hi
  exact ⟨h.1, h.2.1, h.2.2.1⟩
set_option maxRecDepth 50000 in
set_option maxHeartbeats 4000000 in
theorem counter {H : Type} (enc : TypeId × Value → H) (w : World) (a : Option Addr) (len cap : Nat) (h : Fits enc Try.prog w 60 [.slice a len cap])
    (c1 : Array Value) (h1 : Fits enc Try.prog w 61 c1.toList) :
    Calls Try.prog 9 #[.slice a len cap, .agg c1] w fun e w' => e = .returned (.bool true) ∧ Below w.heap.size w w' := by
  obtain ⟨a0, a1, ha0, ha1, he⟩ := two8_of h1
  obtain rfl : c1 = #[.int .u8 a0, .int .u8 a1] := by rw [← Array.toList_inj, he]
  have hbl := bools_of h
  have hm := hbl.1
  have HD := Lib.hid hbl.2
  clear h h1 he hbl
  go_enter Try.func9, Try.ntmps9
  go_wp2_with fail
  have hab := blk_new w (.cells #[.int .u8 a0, .int .u8 a1] 61)
  have lab : Below w.heap.size w (w.alloc (.cells #[.int .u8 a0, .int .u8 a1] 61)) := by repeat (first | (with_reducible exact Below.refl _ _) | (with_reducible apply Below.drew) | (with_reducible refine below_drewN ?_ _) | (with_reducible refine below_alloc' ?_ ?_ _; (focus ((try simp) <;> omega))) | (with_reducible refine below_set' ?_ ?_ _; (focus ((try simp) <;> omega))))
  have nab : (w.alloc (.cells #[.int .u8 a0, .int .u8 a1] 61)).heap.size = w.heap.size + 1 := by simp
  generalize w.alloc (.cells #[.int .u8 a0, .int .u8 a1] 61) = w0 at *
  refine (new_to w0 1 (by decide)).mono ?_
  rintro e w1 ⟨rfl, hc, l1⟩
  have HC := Lib.hid hc; have L1 := Lib.hid l1; have HAB := Lib.hid (bblk l1 hab)
  have s1 := l1.size
  clear hc l1 hab
  go_wp2_with fail
  have hW : Cnt w ((w1.alloc (.cells #[.int .u64 0, .int .u64 0] 24)).alloc (.cells #[.bool false, .bool false] 62)) (w0.heap.size + 1) w.heap.size w1.heap.size (w1.heap.size + 1) a0 a1 0 (Grow (fun _ => False) w0 w1) ⟨List.replicate 1 0, []⟩ 0 0 0 false false := by
    have lz : Below w1.heap.size w1 ((w1.alloc (.cells #[.int .u64 0, .int .u64 0] 24)).alloc (.cells #[.bool false, .bool false] 62)) := by repeat (first | (with_reducible exact Below.refl _ _) | (with_reducible apply Below.drew) | (with_reducible refine below_drewN ?_ _) | (with_reducible refine below_alloc' ?_ ?_ _; (focus ((try simp) <;> omega))) | (with_reducible refine below_set' ?_ ?_ _; (focus ((try simp) <;> omega))))
    refine ⟨HC.out.below lz, Played.nil, rfl, bblk lz HAB.out, by simp [↓heap_alloc_eq, ↓heap_set_eq, ↓heap_drew_eq, ↓heap_drewN_eq, setObj, size_drewN], by simp [↓heap_alloc_eq, ↓heap_set_eq, ↓heap_drew_eq, ↓heap_drewN_eq, setObj, size_drewN], ⟨by decide, by decide⟩, ⟨by decide, by decide⟩, ?_, by omega, by omega, by omega, ⟨by omega, by omega, by omega⟩, ?_⟩
    · rintro i (hi | ⟨h1, h2⟩)
      · exact hi.elim
      · exact ⟨by omega, by omega, by omega, by omega⟩
    · exact (lab.trans (L1.out.mono (by omega))).trans (lz.mono (by omega))
  have HW := Lib.hid hW
  clear hW HC L1 HAB lab
  rw [nab] at HW
  generalize ((w1.alloc (.cells #[.int .u64 0, .int .u64 0] 24)).alloc (.cells #[.bool false, .bool false] 62)) = w2 at *
  generalize w1.heap.size + 1 = hb at *
  generalize w1.heap.size = sb at *
  generalize w.heap.size + 1 + 1 = c at *
  go_loopw [8, 9] (fun v i wr => ∃ (k : Nat) (F : Nat → Prop) (s : CSt) (x x0 x1 : Int) (b0 b1 : Bool), i = .int .i64 k ∧ v = .int .u64 x ∧ k ≤ len ∧ k ≤ 80 ∧ Cnt w wr c w.heap.size sb hb a0 a1 k F s x x0 x1 b0 b1) (fun _ i _ => len - (intOf i).toNat)
  case atStart => exact ⟨0, _, _, _, _, _, _, _, rfl, rfl, Nat.zero_le _, Nat.zero_le _, HW.out⟩
  case round =>
    obtain ⟨k, F, s, x, x0, x1, b0, b1, rfl, rfl, hk, hk8, hR⟩ := hrel
    have H := Lib.hid hR; clear hR HW
    have HI := Lib.hid (H.out.p.facts (by decide) (by omega))
    by_cases hgo : k < len ∧ k < 80
    · obtain ⟨hlt, h80⟩ := hgo
      obtain ⟨b, off, rfl, hc⟩ := HD.out.resolve_left (by omega)
      obtain ⟨p, hp⟩ := hc k hlt
      replace hp := bkeep H.out.lo hp
      have e0 := blk_cell H.out.add 0; have e1 := blk_cell H.out.add 1; have e2 := blk_cell H.out.seen 0; have e3 := blk_cell H.out.seen 1; have e4 := blk_cell H.out.has 0; have e5 := blk_cell H.out.has 1
      have f1 := blk_free H.out.seen; have f2 := blk_free H.out.has
      simp only [List.getElem?_toArray, List.getElem?_cons_zero, List.getElem?_cons_succ] at e0 e1 e2 e3 e4 e5
      clear hc
      cases p
      · skip
        rcases Bool.eq_false_or_eq_true b0 with hb | hb
        · subst hb
          have hwa : IntKind.u64.wrap a0 = a0 := by rw [IntKind.wrap_u64]; omega
          obtain ⟨y, hy⟩ : ∃ y, IntKind.u64.wrap (x0 + a0) = y := ⟨_, rfl⟩
          have hyf : U64 y := by rw [← hy, IntKind.wrap_u64]; exact ⟨by omega, by omega⟩
          have hcf := cas0_facts s x0 y (by have := HI.out.2.1; omega)
          rw [H.out.x] at hcf
          have HCF := Lib.hid hcf; have HYF := Lib.hid hyf; clear hcf hyf
          have Hd := Lib.hid (H.out.below ((Below.refl _ _).drew))
          have ha0' := ha0.1; have ha1' := ha0.2
          go_wp2_with fail
          have HBX := Lib.hid (blk_drew (blk_new wr (.cells #[.int .u8 0, .int .i64 0, .int .u64 0, .int .u64 0, .int .u64 0, .bool false] 37)))
          have Hd2 := Lib.hid (H.out.below (w3 := (wr.alloc (.cells #[.int .u8 0, .int .i64 0, .int .u64 0, .int .u64 0, .int .u64 0, .bool false] 37)).drew) (by repeat (first | (with_reducible exact Below.refl _ _) | (with_reducible apply Below.drew) | (with_reducible refine below_drewN ?_ _) | (with_reducible refine below_alloc' ?_ ?_ _; (focus ((try simp) <;> omega))) | (with_reducible refine below_set' ?_ ?_ _; (focus ((try simp) <;> omega))))))
          have KWx := Lib.hid (show ∀ w', Below wr.heap.size wr w' → (w'.cell? ⟨sb, 0, none⟩ = some (.int .u64 x0) ∧ w'.cell? ⟨w.heap.size, 0, none⟩ = some (.int .u8 a0)) from fun w' h => ⟨bkeep h e2, bkeep h e0⟩)
          have QA := KWx.out wr.drew ((Below.refl _ _).drew)
          have QB := KWx.out (wr.alloc (.cells #[.int .u8 0, .int .i64 0, .int .u64 0, .int .u64 0, .int .u64 0, .bool false] 37)).drew (((Below.refl _ _).alloc (Nat.le_refl _) _).drew)
          have HLG : s.log.length < 1000 := by have := HI.out.2.2; omega
          have HNF := Lib.hid (show ¬ F wr.heap.size from fun h => by have := H.out.c.within _ h; omega)
          have r1 := blk_lt H.out.add; have r2 := blk_lt H.out.seen; have r3 := blk_lt H.out.has; have r4 := H.out.lo.size
          have u1 : wr.heap.size ≠ sb := by omega
          have u2 : wr.heap.size ≠ w.heap.size := by omega
          have u3 : wr.heap.size ≠ hb := by omega
          go_region_held3 (fun w' => w'.cell? ⟨sb, 0, none⟩ = some (.int .u64 x0) ∧ w'.cell? ⟨w.heap.size, 0, none⟩ = some (.int .u8 a0)) (first | (with_reducible exact QA) | (with_reducible exact QB) | (with_reducible exact ⟨k2, k1⟩) | ((with_reducible refine KO.out _ ?_); (repeat (first | (with_reducible exact Only.refl _ _) | (with_reducible apply Only.drew) | (with_reducible apply Only.drewN) | (with_reducible apply Only.alloc) | (with_reducible refine only_set' ?_ ?_ _; (focus ((try simp) <;> omega))))); done)) (first | (go_at_call 13; (with_reducible refine Calls.mono (do_to HI.out.1 HLG Hd.out.c ⟨3, 0, x0, y⟩ (fit3 (Hd.out.u0) HYF.out) HCF.out.1 HCF.out.2.1 rfl) ?_); rintro e w3 ⟨rfl, h3, o3⟩; have hS := Hd.out.step (fit3 (Hd.out.u0) HYF.out) h3 o3; have k1 := blk_cell hS.add 0; have k2 := blk_cell hS.seen 0; simp only [List.getElem?_toArray, List.getElem?_cons_zero, List.getElem?_cons_succ] at k1 k2; have KO := Lib.hid (show ∀ w', Only (fun j => j ≠ sb ∧ j ≠ w.heap.size) w3 w' → (w'.cell? ⟨sb, 0, none⟩ = some (.int .u64 x0) ∧ w'.cell? ⟨w.heap.size, 0, none⟩ = some (.int .u8 a0)) from fun w' ho => ⟨ho.cell k2 (fun h => h.1 rfl), ho.cell k1 (fun h => h.2 rfl)⟩); have HS := Lib.hid hS; clear hS h3 o3) | (go_at_call 13; (with_reducible refine Calls.mono (do_to HI.out.1 HLG Hd2.out.c ⟨3, 0, x0, y⟩ (fit3 (Hd2.out.u0) HYF.out) HCF.out.1 HCF.out.2.1 rfl) ?_); rintro e w3 ⟨rfl, h3, o3⟩; have hS := Hd2.out.step (fit3 (Hd2.out.u0) HYF.out) h3 o3; have k1 := blk_cell hS.add 0; have k2 := blk_cell hS.seen 0; have hbx := o3.blk HBX.out HNF.out; have fbx := blk_free hbx; have z0 := blk_cell hbx 0; have z1 := blk_cell hbx 1; have z2 := blk_cell hbx 2; have z3 := blk_cell hbx 3; have z4 := blk_cell hbx 4; have z5 := blk_cell hbx 5; have HNF3 := Lib.hid (show ¬ Grow F _ w3 wr.heap.size from fun h => h.elim HNF.out (fun h => by have h1 : (wr.alloc (.cells #[.int .u8 0, .int .i64 0, .int .u64 0, .int .u64 0, .int .u64 0, .bool false] 37)).heap.size ≤ wr.heap.size := h.1; rw [World.size_alloc] at h1; omega)); simp only [List.getElem?_toArray, List.getElem?_cons_zero, List.getElem?_cons_succ] at k1 k2; simp only [List.getElem?_toArray, List.getElem?_cons_zero, List.getElem?_cons_succ] at z0 z1 z2 z3 z4 z5; clear hbx; have KO := Lib.hid (show ∀ w', Only (fun j => j ≠ sb ∧ j ≠ w.heap.size) w3 w' → (w'.cell? ⟨sb, 0, none⟩ = some (.int .u64 x0) ∧ w'.cell? ⟨w.heap.size, 0, none⟩ = some (.int .u8 a0)) from fun w' ho => ⟨ho.cell k2 (fun h => h.1 rfl), ho.cell k1 (fun h => h.2 rfl)⟩); have HS := Lib.hid hS; clear hS h3 o3))
          · by_cases hx : x = x0
            · subst hx
              have hat := HCF.out.2.2
              rw [if_pos rfl] at hat
              have hS := HS.out
              rw [hat] at hS
              have g1 := blk_cell hS.add 0; have g3 := blk_cell hS.has 0; have g4 := blk_cell hS.has 1
              have g5 := blk_free hS.has
              simp only [List.getElem?_toArray, List.getElem?_cons_zero, List.getElem?_cons_succ] at g1 g3 g4
              have q1 := blk_lt hS.add; have q2 := blk_lt hS.has
              have HS' := Lib.hid hS
              clear hS
              go_wp2_with fail
              have hS := HS'.out
              exact ⟨⟨k + 1, _, _, y, _, _, _, _, by go_num, rfl, by omega, by omega, (hS.has0 false).below (by repeat (first | (with_reducible exact Below.refl _ _) | (with_reducible apply Below.drew) | (with_reducible refine below_drewN ?_ _) | (with_reducible refine below_alloc' ?_ ?_ _; (focus ((try simp) <;> omega))) | (with_reducible refine below_set' ?_ ?_ _; (focus ((try simp) <;> omega)))))⟩, by simp [intOf]; omega⟩
            · have hd : decide (x = x0) = false := by simpa using hx
              have hat := HCF.out.2.2
              rw [if_neg hx] at hat
              have hS := HS.out
              rw [hat] at hS
              have g1 := blk_cell hS.add 0; have g3 := blk_cell hS.has 0; have g4 := blk_cell hS.has 1
              have g5 := blk_free hS.has
              simp only [List.getElem?_toArray, List.getElem?_cons_zero, List.getElem?_cons_succ] at g1 g3 g4
              have q1 := blk_lt hS.add; have q2 := blk_lt hS.has
              have HS' := Lib.hid hS
              clear hS
              go_wp2_with fail
              have hS := HS'.out
              exact ⟨⟨k + 1, _, _, x, _, _, _, _, by go_num, rfl, by omega, by omega, (hS.has0 false).below (by repeat (first | (with_reducible exact Below.refl _ _) | (with_reducible apply Below.drew) | (with_reducible refine below_drewN ?_ _) | (with_reducible refine below_alloc' ?_ ?_ _; (focus ((try simp) <;> omega))) | (with_reducible refine below_set' ?_ ?_ _; (focus ((try simp) <;> omega)))))⟩, by simp [intOf]; omega⟩
          · by_cases hx : x = x0
            · subst hx
              have hat := HCF.out.2.2
              rw [if_pos rfl] at hat
              have hS := HS.out
              rw [hat] at hS
              have g1 := blk_cell hS.add 0; have g3 := blk_cell hS.has 0; have g4 := blk_cell hS.has 1
              have g5 := blk_free hS.has
              simp only [List.getElem?_toArray, List.getElem?_cons_zero, List.getElem?_cons_succ] at g1 g3 g4
              have q1 := blk_lt hS.add; have q2 := blk_lt hS.has
              have HS' := Lib.hid hS
              clear hS
              go_wp2_with fail
              have hS := HS'.out
              exact ⟨⟨k + 1, _, _, y, _, _, _, _, by go_num, rfl, by omega, by omega, (hS.keep (bx := wr.heap.size) (by repeat (first | (with_reducible exact Only.refl _ _) | (with_reducible apply Only.drew) | (with_reducible apply Only.drewN) | (with_reducible apply Only.alloc) | (with_reducible refine only_set' ?_ ?_ _; (focus ((try simp) <;> omega))))) (by omega) (by omega) (by omega) (by omega) HNF3.out).has0 false⟩, by simp [intOf]; omega⟩
            · have hd : decide (x = x0) = false := by simpa using hx
              have hat := HCF.out.2.2
              rw [if_neg hx] at hat
              have hS := HS.out
              rw [hat] at hS
              have g1 := blk_cell hS.add 0; have g3 := blk_cell hS.has 0; have g4 := blk_cell hS.has 1
              have g5 := blk_free hS.has
              simp only [List.getElem?_toArray, List.getElem?_cons_zero, List.getElem?_cons_succ] at g1 g3 g4
              have q1 := blk_lt hS.add; have q2 := blk_lt hS.has
              have HS' := Lib.hid hS
              clear hS
              go_wp2_with fail
              have hS := HS'.out
              exact ⟨⟨k + 1, _, _, x, _, _, _, _, by go_num, rfl, by omega, by omega, (hS.keep (bx := wr.heap.size) (by repeat (first | (with_reducible exact Only.refl _ _) | (with_reducible apply Only.drew) | (with_reducible apply Only.drewN) | (with_reducible apply Only.alloc) | (with_reducible refine only_set' ?_ ?_ _; (focus ((try simp) <;> omega))))) (by omega) (by omega) (by omega) (by omega) HNF3.out).has0 false⟩, by simp [intOf]; omega⟩
        · subst hb
          have hlf := load_facts s (by have := HI.out.2.1; omega)
          have HLF := Lib.hid hlf; clear hlf
          go_wp2_with fail
          refine (do_to HI.out.1 (by have := HI.out.2.2; omega) H.out.c ⟨1, 0, 0, 0⟩ ⟨by decide, by decide, by simp [U64], by simp [U64]⟩ HLF.out.1 HLF.out.2.1 rfl).mono ?_
          rintro e w3 ⟨rfl, h3, o3⟩
          have hS := H.out.step ⟨by decide, by decide, by simp [U64], by simp [U64]⟩ h3 o3
          rw [HLF.out.2.2, H.out.x] at hS
          rw [H.out.x]
          have hxf : U64 x := by have := CSt.at_fit HI.out.1 0; rwa [H.out.x] at this
          have g1 := blk_cell hS.seen 0; have g2 := blk_cell hS.seen 1; have g3 := blk_cell hS.has 0; have g4 := blk_cell hS.has 1
          have g5 := blk_free hS.seen; have g6 := blk_free hS.has
          simp only [List.getElem?_toArray, List.getElem?_cons_zero, List.getElem?_cons_succ] at g1 g2 g3 g4
          have q1 := blk_lt hS.seen; have q2 := blk_lt hS.has; have q3 := hS.ne3
          have HS := Lib.hid hS; have HXF := Lib.hid hxf
          clear h3 o3 hS hxf H HI e0 e1 e2 e3 e4 e5 f1 f2
          go_wp2_with fail
          have hz := (HS.out.seen0 HXF.out).has0 true
          exact ⟨⟨k + 1, _, _, _, _, _, _, _, by go_num, rfl, by omega, by omega, hz.below (by repeat (first | (with_reducible exact Below.refl _ _) | (with_reducible apply Below.drew) | (with_reducible refine below_drewN ?_ _) | (with_reducible refine below_alloc' ?_ ?_ _; (focus ((try simp) <;> omega))) | (with_reducible refine below_set' ?_ ?_ _; (focus ((try simp) <;> omega)))))⟩, by simp [intOf]; omega⟩

      · skip
        rcases Bool.eq_false_or_eq_true b1 with hb | hb
        · subst hb
          have hwa : IntKind.u64.wrap a1 = a1 := by rw [IntKind.wrap_u64]; omega
          obtain ⟨y, hy⟩ : ∃ y, IntKind.u64.wrap (x1 + a1) = y := ⟨_, rfl⟩
          have hyf : U64 y := by rw [← hy, IntKind.wrap_u64]; exact ⟨by omega, by omega⟩
          have hcf := cas0_facts s x1 y (by have := HI.out.2.1; omega)
          rw [H.out.x] at hcf
          have HCF := Lib.hid hcf; have HYF := Lib.hid hyf; clear hcf hyf
          have Hd := Lib.hid (H.out.below ((Below.refl _ _).drew))
          have ha0' := ha1.1; have ha1' := ha1.2
          go_wp2_with fail
          have HBX := Lib.hid (blk_drew (blk_new wr (.cells #[.int .u8 0, .int .i64 0, .int .u64 0, .int .u64 0, .int .u64 0, .bool false] 37)))
          have Hd2 := Lib.hid (H.out.below (w3 := (wr.alloc (.cells #[.int .u8 0, .int .i64 0, .int .u64 0, .int .u64 0, .int .u64 0, .bool false] 37)).drew) (by repeat (first | (with_reducible exact Below.refl _ _) | (with_reducible apply Below.drew) | (with_reducible refine below_drewN ?_ _) | (with_reducible refine below_alloc' ?_ ?_ _; (focus ((try simp) <;> omega))) | (with_reducible refine below_set' ?_ ?_ _; (focus ((try simp) <;> omega))))))
          have KWx := Lib.hid (show ∀ w', Below wr.heap.size wr w' → (w'.cell? ⟨sb, 1, none⟩ = some (.int .u64 x1) ∧ w'.cell? ⟨w.heap.size, 1, none⟩ = some (.int .u8 a1)) from fun w' h => ⟨bkeep h e3, bkeep h e1⟩)
          have QA := KWx.out wr.drew ((Below.refl _ _).drew)
          have QB := KWx.out (wr.alloc (.cells #[.int .u8 0, .int .i64 0, .int .u64 0, .int .u64 0, .int .u64 0, .bool false] 37)).drew (((Below.refl _ _).alloc (Nat.le_refl _) _).drew)
          have HLG : s.log.length < 1000 := by have := HI.out.2.2; omega
          have HNF := Lib.hid (show ¬ F wr.heap.size from fun h => by have := H.out.c.within _ h; omega)
          have r1 := blk_lt H.out.add; have r2 := blk_lt H.out.seen; have r3 := blk_lt H.out.has; have r4 := H.out.lo.size
          have u1 : wr.heap.size ≠ sb := by omega
          have u2 : wr.heap.size ≠ w.heap.size := by omega
          have u3 : wr.heap.size ≠ hb := by omega
          go_region_held3 (fun w' => w'.cell? ⟨sb, 1, none⟩ = some (.int .u64 x1) ∧ w'.cell? ⟨w.heap.size, 1, none⟩ = some (.int .u8 a1)) (first | (with_reducible exact QA) | (with_reducible exact QB) | (with_reducible exact ⟨k2, k1⟩) | ((with_reducible refine KO.out _ ?_); (repeat (first | (with_reducible exact Only.refl _ _) | (with_reducible apply Only.drew) | (with_reducible apply Only.drewN) | (with_reducible apply Only.alloc) | (with_reducible refine only_set' ?_ ?_ _; (focus ((try simp) <;> omega))))); done)) (first | (go_at_call 13; (with_reducible refine Calls.mono (do_to HI.out.1 HLG Hd.out.c ⟨3, 0, x1, y⟩ (fit3 (Hd.out.u1) HYF.out) HCF.out.1 HCF.out.2.1 rfl) ?_); rintro e w3 ⟨rfl, h3, o3⟩; have hS := Hd.out.step (fit3 (Hd.out.u1) HYF.out) h3 o3; have k1 := blk_cell hS.add 1; have k2 := blk_cell hS.seen 1; simp only [List.getElem?_toArray, List.getElem?_cons_zero, List.getElem?_cons_succ] at k1 k2; have KO := Lib.hid (show ∀ w', Only (fun j => j ≠ sb ∧ j ≠ w.heap.size) w3 w' → (w'.cell? ⟨sb, 1, none⟩ = some (.int .u64 x1) ∧ w'.cell? ⟨w.heap.size, 1, none⟩ = some (.int .u8 a1)) from fun w' ho => ⟨ho.cell k2 (fun h => h.1 rfl), ho.cell k1 (fun h => h.2 rfl)⟩); have HS := Lib.hid hS; clear hS h3 o3) | (go_at_call 13; (with_reducible refine Calls.mono (do_to HI.out.1 HLG Hd2.out.c ⟨3, 0, x1, y⟩ (fit3 (Hd2.out.u1) HYF.out) HCF.out.1 HCF.out.2.1 rfl) ?_); rintro e w3 ⟨rfl, h3, o3⟩; have hS := Hd2.out.step (fit3 (Hd2.out.u1) HYF.out) h3 o3; have k1 := blk_cell hS.add 1; have k2 := blk_cell hS.seen 1; have hbx := o3.blk HBX.out HNF.out; have fbx := blk_free hbx; have z0 := blk_cell hbx 0; have z1 := blk_cell hbx 1; have z2 := blk_cell hbx 2; have z3 := blk_cell hbx 3; have z4 := blk_cell hbx 4; have z5 := blk_cell hbx 5; have HNF3 := Lib.hid (show ¬ Grow F _ w3 wr.heap.size from fun h => h.elim HNF.out (fun h => by have h1 : (wr.alloc (.cells #[.int .u8 0, .int .i64 0, .int .u64 0, .int .u64 0, .int .u64 0, .bool false] 37)).heap.size ≤ wr.heap.size := h.1; rw [World.size_alloc] at h1; omega)); simp only [List.getElem?_toArray, List.getElem?_cons_zero, List.getElem?_cons_succ] at k1 k2; simp only [List.getElem?_toArray, List.getElem?_cons_zero, List.getElem?_cons_succ] at z0 z1 z2 z3 z4 z5; clear hbx; have KO := Lib.hid (show ∀ w', Only (fun j => j ≠ sb ∧ j ≠ w.heap.size) w3 w' → (w'.cell? ⟨sb, 1, none⟩ = some (.int .u64 x1) ∧ w'.cell? ⟨w.heap.size, 1, none⟩ = some (.int .u8 a1)) from fun w' ho => ⟨ho.cell k2 (fun h => h.1 rfl), ho.cell k1 (fun h => h.2 rfl)⟩); have HS := Lib.hid hS; clear hS h3 o3))
          · by_cases hx : x = x1
            · subst hx
              have hat := HCF.out.2.2
              rw [if_pos rfl] at hat
              have hS := HS.out
              rw [hat] at hS
              have g1 := blk_cell hS.add 1; have g3 := blk_cell hS.has 0; have g4 := blk_cell hS.has 1
              have g5 := blk_free hS.has
              simp only [List.getElem?_toArray, List.getElem?_cons_zero, List.getElem?_cons_succ] at g1 g3 g4
              have q1 := blk_lt hS.add; have q2 := blk_lt hS.has
              have HS' := Lib.hid hS
              clear hS
              go_wp2_with fail
              have hS := HS'.out
              exact ⟨⟨k + 1, _, _, y, _, _, _, _, by go_num, rfl, by omega, by omega, (hS.has1 false).below (by repeat (first | (with_reducible exact Below.refl _ _) | (with_reducible apply Below.drew) | (with_reducible refine below_drewN ?_ _) | (with_reducible refine below_alloc' ?_ ?_ _; (focus ((try simp) <;> omega))) | (with_reducible refine below_set' ?_ ?_ _; (focus ((try simp) <;> omega)))))⟩, by simp [intOf]; omega⟩
            · have hd : decide (x = x1) = false := by simpa using hx
              have hat := HCF.out.2.2
              rw [if_neg hx] at hat
              have hS := HS.out
              rw [hat] at hS
              have g1 := blk_cell hS.add 1; have g3 := blk_cell hS.has 0; have g4 := blk_cell hS.has 1
              have g5 := blk_free hS.has
              simp only [List.getElem?_toArray, List.getElem?_cons_zero, List.getElem?_cons_succ] at g1 g3 g4
              have q1 := blk_lt hS.add; have q2 := blk_lt hS.has
              have HS' := Lib.hid hS
              clear hS
              go_wp2_with fail
              have hS := HS'.out
              exact ⟨⟨k + 1, _, _, x, _, _, _, _, by go_num, rfl, by omega, by omega, (hS.has1 false).below (by repeat (first | (with_reducible exact Below.refl _ _) | (with_reducible apply Below.drew) | (with_reducible refine below_drewN ?_ _) | (with_reducible refine below_alloc' ?_ ?_ _; (focus ((try simp) <;> omega))) | (with_reducible refine below_set' ?_ ?_ _; (focus ((try simp) <;> omega)))))⟩, by simp [intOf]; omega⟩
          · by_cases hx : x = x1
            · subst hx
              have hat := HCF.out.2.2
              rw [if_pos rfl] at hat
              have hS := HS.out
              rw [hat] at hS
              have g1 := blk_cell hS.add 1; have g3 := blk_cell hS.has 0; have g4 := blk_cell hS.has 1
              have g5 := blk_free hS.has
              simp only [List.getElem?_toArray, List.getElem?_cons_zero, List.getElem?_cons_succ] at g1 g3 g4
              have q1 := blk_lt hS.add; have q2 := blk_lt hS.has
              have HS' := Lib.hid hS
              clear hS
              go_wp2_with fail
              have hS := HS'.out
              exact ⟨⟨k + 1, _, _, y, _, _, _, _, by go_num, rfl, by omega, by omega, (hS.keep (bx := wr.heap.size) (by repeat (first | (with_reducible exact Only.refl _ _) | (with_reducible apply Only.drew) | (with_reducible apply Only.drewN) | (with_reducible apply Only.alloc) | (with_reducible refine only_set' ?_ ?_ _; (focus ((try simp) <;> omega))))) (by omega) (by omega) (by omega) (by omega) HNF3.out).has1 false⟩, by simp [intOf]; omega⟩
            · have hd : decide (x = x1) = false := by simpa using hx
              have hat := HCF.out.2.2
              rw [if_neg hx] at hat
              have hS := HS.out
              rw [hat] at hS
              have g1 := blk_cell hS.add 1; have g3 := blk_cell hS.has 0; have g4 := blk_cell hS.has 1
              have g5 := blk_free hS.has
              simp only [List.getElem?_toArray, List.getElem?_cons_zero, List.getElem?_cons_succ] at g1 g3 g4
              have q1 := blk_lt hS.add; have q2 := blk_lt hS.has
              have HS' := Lib.hid hS
              clear hS
              go_wp2_with fail
              have hS := HS'.out
              exact ⟨⟨k + 1, _, _, x, _, _, _, _, by go_num, rfl, by omega, by omega, (hS.keep (bx := wr.heap.size) (by repeat (first | (with_reducible exact Only.refl _ _) | (with_reducible apply Only.drew) | (with_reducible apply Only.drewN) | (with_reducible apply Only.alloc) | (with_reducible refine only_set' ?_ ?_ _; (focus ((try simp) <;> omega))))) (by omega) (by omega) (by omega) (by omega) HNF3.out).has1 false⟩, by simp [intOf]; omega⟩
        · subst hb
          have hlf := load_facts s (by have := HI.out.2.1; omega)
          have HLF := Lib.hid hlf; clear hlf
          go_wp2_with fail
          refine (do_to HI.out.1 (by have := HI.out.2.2; omega) H.out.c ⟨1, 0, 0, 0⟩ ⟨by decide, by decide, by simp [U64], by simp [U64]⟩ HLF.out.1 HLF.out.2.1 rfl).mono ?_
          rintro e w3 ⟨rfl, h3, o3⟩
          have hS := H.out.step ⟨by decide, by decide, by simp [U64], by simp [U64]⟩ h3 o3
          rw [HLF.out.2.2, H.out.x] at hS
          rw [H.out.x]
          have hxf : U64 x := by have := CSt.at_fit HI.out.1 0; rwa [H.out.x] at this
          have g1 := blk_cell hS.seen 0; have g2 := blk_cell hS.seen 1; have g3 := blk_cell hS.has 0; have g4 := blk_cell hS.has 1
          have g5 := blk_free hS.seen; have g6 := blk_free hS.has
          simp only [List.getElem?_toArray, List.getElem?_cons_zero, List.getElem?_cons_succ] at g1 g2 g3 g4
          have q1 := blk_lt hS.seen; have q2 := blk_lt hS.has; have q3 := hS.ne3
          have HS := Lib.hid hS; have HXF := Lib.hid hxf
          clear h3 o3 hS hxf H HI e0 e1 e2 e3 e4 e5 f1 f2
          go_wp2_with fail
          have hz := (HS.out.seen1 HXF.out).has1 true
          exact ⟨⟨k + 1, _, _, _, _, _, _, _, by go_num, rfl, by omega, by omega, hz.below (by repeat (first | (with_reducible exact Below.refl _ _) | (with_reducible apply Below.drew) | (with_reducible refine below_drewN ?_ _) | (with_reducible refine below_alloc' ?_ ?_ _; (focus ((try simp) <;> omega))) | (with_reducible refine below_set' ?_ ?_ _; (focus ((try simp) <;> omega)))))⟩, by simp [intOf]; omega⟩

    · by_cases hlt : k < len
      · have h80 : ¬ ((k : Int) < 80) := by omega
        go_wp2_with fail
        refine (word_to H.out.c (i := 0) (by have := HI.out.2.1; omega) H.out.x).mono ?_
        rintro e w4 ⟨rfl, rfl⟩
        go_wp2_with fail
        refine (log_any _ _ _ HI.out.1 H.out.c).mono ?_
        rintro e w5 ⟨v5, rfl, r5, l5⟩
        obtain ⟨a5, c5, rfl, hd5⟩ := dones_of r5 H.out.p.rep.2
        have L5 := Lib.hid (btrans H.out.lo (Nat.le_refl _) l5); have D5 := Lib.hid hd5
        have hrv : repV (1 : Int) s.log = (0, s.ws) := by
          rw [repV, if_neg (by decide), zeros, show (1 : Int).toNat = 1 from rfl, H.out.p.rep.1]
        have HRV := Lib.hid hrv
        clear r5 l5 hd5 hrv
        go_wp2_with fail
        refine (right_any w5 1 a5 _ c5 s.log D5.out (by have := HI.out.2.2; omega)).mono ?_
        rw [HRV.out]
        rintro e w6 ⟨rfl, l6⟩
        have L6 := Lib.hid (btrans L5.out (Nat.le_refl _) l6)
        clear l6
        go_wp2_with fail
        go_ret
        exact ⟨by simp, L6.out⟩
      · skip
        go_wp2_with fail
        refine (word_to H.out.c (i := 0) (by have := HI.out.2.1; omega) H.out.x).mono ?_
        rintro e w4 ⟨rfl, rfl⟩
        go_wp2_with fail
        refine (log_any _ _ _ HI.out.1 H.out.c).mono ?_
        rintro e w5 ⟨v5, rfl, r5, l5⟩
        obtain ⟨a5, c5, rfl, hd5⟩ := dones_of r5 H.out.p.rep.2
        have L5 := Lib.hid (btrans H.out.lo (Nat.le_refl _) l5); have D5 := Lib.hid hd5
        have hrv : repV (1 : Int) s.log = (0, s.ws) := by
          rw [repV, if_neg (by decide), zeros, show (1 : Int).toNat = 1 from rfl, H.out.p.rep.1]
        have HRV := Lib.hid hrv
        clear r5 l5 hd5 hrv
        go_wp2_with fail
        refine (right_any w5 1 a5 _ c5 s.log D5.out (by have := HI.out.2.2; omega)).mono ?_
        rw [HRV.out]
        rintro e w6 ⟨rfl, l6⟩
        have L6 := Lib.hid (btrans L5.out (Nat.le_refl _) l6)
        clear l6
        go_wp2_with fail
        go_ret
        exact ⟨by simp, L6.out⟩
end Go.Proofs.Ytiopopplbehieaa.Cel
