/- A log of frames is what its events tell. -/
import Derived.Test.YtfpiecnbnoinnaaHisSA
import Derived.Test.YtfpiecnbnoinnaaHisZ
import Derived.Test.YtfpiecnbnoinnaaHeld
import Derived.Deep.CutBlock
import Derived.Deep.DeepCutAuto
namespace Go.Proofs.Ytfpiecnbnoinnaa.His
open Go.RowKit Go.Proofs.Ytfpiecnbnoinnaa.Wri Go.ChangeShapes Go.WideShapes Go.ChangeAt
set_option linter.unusedSimpArgs false
set_option linter.unusedVariables false
set_option maxRecDepth 50000

theorem c_lt9 {w : World} {a : Addr} {v : Value} (h : w.cell? a = some v) : a.block < w.heap.size := by
  unfold World.cell? at h
  cases hb : w.heap[a.block]? with
  | none => rw [hb] at h; cases h
  | some o => exact (Array.getElem?_eq_some_iff.1 hb).1
theorem cells_u8a : Try.prog.cellsOf 5 = 1 := by kernel_rfl
theorem cells_a2u : Try.prog.cellsOf 54 = 2 := by kernel_rfl
theorem a2u_of {H : Type} {enc : TypeId × Value → H} {w : World} {cs : List Value} (h : Fits enc Try.prog w 54 cs) : ∃ x y : Int, cs = [.int .u8 x, .int .u8 y] ∧ (0 ≤ x ∧ x < 256) ∧ (0 ≤ y ∧ y < 256) := by
  obtain ⟨hl, hf⟩ := h.array Try.underlying54
  rw [cells_a2u] at hl
  match cs, hl with
  | [c0, c1], _ =>
    have h0 := hf 0 (by decide); have h1 := hf 1 (by decide)
    rw [cells_u8a] at h0 h1
    obtain ⟨x, e0, w0⟩ := h0.int (k := .u8) (by kernel_rfl)
    obtain ⟨y, e1, w1⟩ := h1.int (k := .u8) (by kernel_rfl)
    simp at e0 e1
    have b0 := bounds_u8 w0; have b1 := bounds_u8 w1
    refine ⟨x, y, by rw [e0, e1], ?_, ?_⟩ <;> omega
def Pairs8 (w : World) (a : Option Addr) (len : Nat) : Prop := len = 0 ∨ ∃ b off, a = some ⟨b, off, none⟩ ∧ ∀ i, i < len → ∃ x y : Int, (0 ≤ x ∧ x < 256) ∧ (0 ≤ y ∧ y < 256) ∧ w.cell? ⟨b, off + i * 2, none⟩ = some (.int .u8 x) ∧ w.cell? ⟨b, off + i * 2 + 1, none⟩ = some (.int .u8 y)
theorem pairs8_of {H : Type} {enc : TypeId × Value → H} {w : World} {a : Option Addr} {len cap : Nat} (h : Fits enc Try.prog w 45 [.slice a len cap]) : len ≤ 9223372036854775807 ∧ Pairs8 w a len := by
  obtain ⟨hm, hh⟩ := h.slice Try.underlying45 (by rw [cells_a2u]; decide)
  refine ⟨hm, ?_⟩
  rcases hh with hh | ⟨b, off, rfl, hh⟩
  · exact .inl hh
  refine .inr ⟨b, off, rfl, fun i hi => ?_⟩
  obtain ⟨cs, hl, hc, hf⟩ := hh i hi
  obtain ⟨x, y, rfl, hx, hy⟩ := a2u_of hf
  rw [cells_a2u] at hc
  exact ⟨x, y, hx, hy, hc 0 (by decide), hc 1 (by decide)⟩
theorem evv2 (k t : Int) {u : Int} (hu : 0 ≤ u ∧ u < 18446744073709551616) : EvV ⟨k, 2, t, u⟩ := ⟨⟨by simp only; omega, by simp only; omega⟩, hu.1, hu.2⟩
theorem ok0 : EvsOk [⟨1, 2, 0, 0⟩] := fun x hx => by
  rw [List.mem_singleton] at hx
  subst hx
  exact ⟨⟨by decide, by decide⟩, by decide, by decide⟩
/-- what one deed has come to -/
structure Arm (w wc : World) (X q : Nat) (v : Value) (L : List Ev) (fs : List Frm) (x : Ev) : Prop where
  a : x.a = 2
  k : x.k = 3 ∨ ((x.k = 4 ∨ x.k = 5 ∨ x.k = 6) ∧ bareE x = true)
  blk : wc.heap[X]? = some (.cells #[.int .u8 x.k, .int .i64 x.a, .int .i64 x.t, .int .u64 x.v] 52 (0, 0))
  log : LAt wc q (actS fs x)
  row : EvsAt w.heap.size wc v L
  lo : Below w.heap.size w wc
  ok : EvV x
theorem arm_store {w W w2 : World} {X q : Nat} {v : Value} {L : List Ev} {fs fs' : List Frm} {k : Int} (hX : w2.heap[X]? = some (.cells #[.int .u8 0, .int .i64 2, .int .i64 0, .int .u64 0] 52 (0, 0))) (hm : LAt w2 q fs') (o : Only (fun j => j = q) W w2) (hV : EvsAt w.heap.size W v L) (hB : Below w.heap.size w W) (hq : w.heap.size ≤ q) (hXw : w.heap.size ≤ X) (hVX : v.ownBlock ≠ some X) (hqL : ∃ cs, W.heap[q]? = some (.cells cs 79 (0, 0))) (hf : actS fs ⟨k, 2, 0, 0⟩ = fs') (hk : k = 3 ∨ ((k = 4 ∨ k = 5 ∨ k = 6) ∧ bareE ⟨k, 2, 0, 0⟩ = true)) : Arm w (w2.setCell ⟨X, 0, none⟩ (.int .u8 k)) X q v L fs ⟨k, 2, 0, 0⟩ := by
  subst hf
  have o3 : Only (fun j => j = X) w2 (w2.setCell ⟨X, 0, none⟩ (.int .u8 k)) := (Only.refl (fun j => j = X) w2).setCell (p := ⟨X, 0, none⟩) (.inr rfl) _
  obtain ⟨cs, hc⟩ := hqL
  refine ⟨rfl, hk, blk_set hX 0 _, hm.strange o3 (fun j hj => by subst hj; exact .inr ⟨_, _, _, hX, by decide, by decide, by decide⟩) (fun e => ?_), ?_, (hB.trans (o.lo (fun j e => by omega) hB.size)).trans (o3.lo (fun j e => by omega) (Nat.le_trans hB.size o.size)), evv2 _ _ (by decide)⟩
  · obtain ⟨cs2, h2⟩ := LAt.blk hm
    subst e
    rw [h2] at hX
    injection hX with hX
    injection hX with _ hX _
    revert hX
    decide
  · exact ownsRow_only (ownsRow_only hV o (fun j hj e => by subst e; exact row_ne hV hc (by decide) hj)) o3 (fun j hj e => by subst e; exact hVX hj)
set_option maxHeartbeats 12800000 in
theorem arms_law {H : Type} (enc : TypeId × Value → H) (w : World) (a : Option Addr) (len cap : Nat) (h : Fits enc Try.prog w 45 [.slice a len cap]) :
    Calls Try.prog 8 #[.slice a len cap] w fun e w' => e = .returned (.bool true) ∧ Below w.heap.size w w' := by
  obtain ⟨i0, hi, hz0, hz1, hz2⟩ := info_parts infoE
  obtain ⟨hlen, hp8⟩ := pairs8_of h
  have HP := Lib.hid hp8
  clear h hp8
  go_enter Try.func8, Try.ntmps8
  go_wp2_with fail
  refine (new_any _).mono ?_
  rintro e w1 ⟨q, rfl, hq, hl1, l1⟩
  have HL1 := Lib.hid (show LAt w1 q [[]] from ⟨_, rfl, hl1⟩); have L1 := Lib.hid l1
  have hs1 := l1.size
  clear hl1 l1
  go_wp2_with fail
  refine wp_at (fun W => Below w.heap.size w W ∧ LAt W q [[]] ∧ EvsAt w.heap.size W (.slice (some ⟨w1.heap.size, 0, none⟩) 1 1) [⟨1, 2, 0, 0⟩]) ⟨btrans L1.out (Nat.le_refl _) (by repeat (first | (with_reducible exact Below.refl _ _) | (with_reducible apply Below.drew) | (with_reducible refine below_drewN ?_ _) | (with_reducible refine below_alloc' ?_ ?_ _; (focus ((try simp) <;> omega))) | (with_reducible refine below_set' ?_ ?_ _; (focus ((try simp) <;> omega))))), HL1.out.below (by repeat (first | (with_reducible exact Below.refl _ _) | (with_reducible apply Below.drew) | (with_reducible refine below_drewN ?_ _) | (with_reducible refine below_alloc' ?_ ?_ _; (focus ((try simp) <;> omega))) | (with_reducible refine below_set' ?_ ?_ _; (focus ((try simp) <;> omega))))), World.ownsRow_lit w1 _ 1 hs1 (by decide) (by rfl)⟩ ?_
  rintro W1 ⟨lW1, hLW, hVW⟩
  have HB1 := Lib.hid lW1; have HLW := Lib.hid hLW; have HVW := Lib.hid hVW
  clear lW1 hLW hVW HL1 L1
  go_loopw [4, 5] (fun v i wr => ∃ (k : Nat) (L : List Ev) (fs : List Frm), i = .int .i64 k ∧ k ≤ len ∧ k ≤ 60 ∧ L.length ≤ k + 1 ∧ Tale L fs ∧ EvsOk L ∧ LAt wr q fs ∧ EvsAt w.heap.size wr v L ∧ Below w.heap.size w wr) (fun _ i _ => len - (intOf i).toNat)
  case atStart => exact ⟨0, _, _, rfl, Nat.zero_le _, by decide, by decide, tale0, ok0, HLW.out, HVW.out, HB1.out⟩
  case round =>
    obtain ⟨k, L, fs, rfl, hk, hk60, hLl, hT, hOk, hlog, hV, hB⟩ := hrel
    have HOK := Lib.hid hOk
    have HT := Lib.hid hT; have HLG := Lib.hid hlog; have HV := Lib.hid hV; have HB := Lib.hid hB
    have hsz := hB.size
    obtain ⟨va, vc, rfl, _⟩ := EvsAt.open hV
    obtain ⟨qcs, hqb⟩ := LAt.blk hlog
    have hqlt := blk_lt hqb
    clear hT hlog hV hB hqb hOk
    by_cases hlt : k < len ∧ k < 60
    · obtain ⟨hlt, hlt60⟩ := hlt
      have hlt60' : (k : Int) < 60 := by omega
      obtain ⟨b, off, rfl, hc⟩ := HP.out.resolve_left (by omega)
      obtain ⟨x0, y0, hx0, hy0, c0, c1⟩ := hc k hlt
      replace c0 := bkeep HB.out c0; replace c1 := bkeep HB.out c1
      have hw1 : IntKind.i64.wrap ((k : Int) + 1) = (k : Int) + 1 := by rw [IntKind.wrap_i64]; omega
      have hbl := c_lt9 c0
      simp only at hbl
      have hbn : ¬ b = wr.heap.size := by omega
      clear hc
      go_upto_block 2 with (fail)
      refine wp_at (fun W => Below wr.heap.size wr W ∧ W.heap[wr.heap.size]? = some (.cells #[.int .u8 0, .int .i64 2, .int .i64 0, .int .u64 0] 52 (0, 0))) ⟨by repeat (first | (with_reducible exact Below.refl _ _) | (with_reducible apply Below.drew) | (with_reducible refine below_drewN ?_ _) | (with_reducible refine below_alloc' ?_ ?_ _; (focus ((try simp) <;> omega))) | (with_reducible refine below_set' ?_ ?_ _; (focus ((try simp) <;> omega)))), by simp [↓heap_alloc_eq, ↓heap_set_eq, ↓heap_drew_eq, ↓heap_drewN_eq, setObj, size_drewN]⟩ ?_
      rintro W ⟨lW, hX⟩
      have hLW := HLG.out.below lW
      have hVW : EvsAt w.heap.size W (.slice va L.length vc) L := ownsRow_only HV.out (Only.empty lW (Nat.le_refl _)) (fun _ _ h => h)
      have hBW := btrans HB.out (Nat.le_refl _) lW
      have x0' := blk_cell hX 0; have x1' := blk_cell hX 1; have x2' := blk_cell hX 2; have x3' := blk_cell hX 3
      simp only [List.getElem?_toArray, List.getElem?_cons_zero, List.getElem?_cons_succ] at x0' x1' x2' x3'
      have fx := blk_free hX
      replace c0 := bkeep lW c0; replace c1 := bkeep lW c1
      have HLW2 := Lib.hid hLW; have HVW2 := Lib.hid hVW; have HBW2 := Lib.hid hBW; have HX := Lib.hid hX
      have hXq : wr.heap.size ≠ q := by omega
      have hXlt := blk_lt hX
      have hVX : (Value.slice va L.length vc).ownBlock ≠ some wr.heap.size := fun e => by
        have := (HV.out.lt _ e).2
        omega
      have HVX := Lib.hid hVX; have HQL := Lib.hid (LAt.blk hLW)
      clear lW hLW hVW hBW hX hVX
      obtain ⟨r, hr⟩ : ∃ r, x0 % 6 = r := ⟨_, rfl⟩
      rw [hr]
      have hr0 : 0 ≤ r ∧ r < 6 := by omega
      clear hr
      go_cut [7] (fun v7 wc => ∃ x, v7 = .int .i64 (actN fs x) ∧ Arm w wc wr.heap.size q (.slice va L.length vc) L fs x)
      case first =>
        by_cases r0 : r = 0
        · subst r0
          go_wp2_with fail; refine (lpush_p HLW2.out).mono ?_; rintro e w2 ⟨rfl, o2, m2⟩; have hX2 := o2.blk HX.out hXq; have y0' := blk_cell hX2 0; have fy := blk_free hX2 0; simp only [List.getElem?_toArray, List.getElem?_cons_zero] at y0'; have HX2 := Lib.hid hX2; have O2 := Lib.hid o2; have M2 := Lib.hid m2; clear hX2 o2 m2; go_wp2_with fail; go_meet; exact ⟨⟨4, 2, 0, 0⟩, rfl, arm_store HX2.out M2.out O2.out HVW2.out HBW2.out hq (by omega) HVX.out HQL.out rfl (.inr ⟨.inl rfl, rfl⟩)⟩
        have q0 : (r == 0) = false := by simpa using r0
        by_cases r1 : r = 1
        · subst r1
          go_wp2_with fail; refine (ldrop_p HLW2.out).mono ?_; rintro e w2 ⟨rfl, o2, m2⟩; have hX2 := o2.blk HX.out hXq; have y0' := blk_cell hX2 0; have fy := blk_free hX2 0; simp only [List.getElem?_toArray, List.getElem?_cons_zero] at y0'; have HX2 := Lib.hid hX2; have O2 := Lib.hid o2; have M2 := Lib.hid m2; clear hX2 o2 m2; go_wp2_with fail; go_meet; exact ⟨⟨5, 2, 0, 0⟩, rfl, arm_store HX2.out M2.out O2.out HVW2.out HBW2.out hq (by omega) HVX.out HQL.out rfl (.inr ⟨.inr (.inl rfl), rfl⟩)⟩
        have q1 : (r == 1) = false := by simpa using r1
        by_cases r2 : r = 2
        · subst r2
          go_wp2_with fail; refine (lmerge_p HLW2.out HT.out.well).mono ?_; rintro e w2 ⟨rfl, o2, m2⟩; have hX2 := o2.blk HX.out hXq; have y0' := blk_cell hX2 0; have fy := blk_free hX2 0; simp only [List.getElem?_toArray, List.getElem?_cons_zero] at y0'; have HX2 := Lib.hid hX2; have O2 := Lib.hid o2; have M2 := Lib.hid m2; clear hX2 o2 m2; go_wp2_with fail; go_meet; exact ⟨⟨6, 2, 0, 0⟩, rfl, arm_store HX2.out M2.out O2.out HVW2.out HBW2.out hq (by omega) HVX.out HQL.out rfl (.inr ⟨.inr (.inr rfl), rfl⟩)⟩
        have q2 : (r == 2) = false := by simpa using r2
        have v1 : IntKind.i64.wrap y0 = y0 := by rw [IntKind.wrap_i64]; omega
        have v0 : IntKind.i64.wrap x0 = x0 := by rw [IntKind.wrap_i64]; omega
        have HI := Lib.hid (vInt_any W y0 hy0)
        go_wp2_with fail
        refine HI.out.mono ?_
        rintro e w2 ⟨u, rfl, hu, rfl⟩
        have HU := Lib.hid hu
        clear hu
        go_wp2_with fail
        have hS0 : W.drew.cell? ⟨b, off + k * 2, none⟩ = some (.int .u8 x0) := c0
        have KS := Lib.hid (fun (W' : World) (o : Only (fun j => j = wr.heap.size) W W') => show W'.cell? ⟨b, off + k * 2, none⟩ = some (.int .u8 x0) from o.cell c0 (by show ¬ b = wr.heap.size; omega))
        obtain ⟨tv, htv⟩ : ∃ tv, x0.tmod 12 = tv := ⟨_, rfl⟩
        have oA := (Only.refl (fun j => j = wr.heap.size) W).setCell (p := ⟨wr.heap.size, 0, none⟩) (.inr rfl) (.int .u8 3)
        have oB := oA.setCell (p := ⟨wr.heap.size, 2, none⟩) (.inr rfl) (.int .i64 tv)
        have hS1 := KS.out _ oA.drew
        have hS2 := KS.out _ oB.drew
        have OB := Lib.hid oB
        clear oA oB
        refine wp_region_F (fun w' => w'.cell? ⟨b, off + k * 2, none⟩ = some (.int .u8 x0)) 13 (by kernel_rfl) ?_
        refine wpAnyF_take (i := 0) (v := ?_) rfl (by kernel_rfl) (by kernel_rfl) (by kernel_rfl) (by kernel_rfl) (fun _ _ _ h => h) (Or.inl ⟨by rfl, ?_⟩) (by assumption) ?_; rotate_left; (focus (intro w hSw; (skip); (first | (go_simp; done) | (go_simp; with_reducible rfl)))); (try simp only [Act.put, List.setIfInBounds_toArray, List.set_cons_zero, List.set_cons_succ])
        refine wpAnyF_take (i := 1) (v := ?_) rfl (by kernel_rfl) (by kernel_rfl) (by kernel_rfl) (by kernel_rfl) (fun _ _ _ h => h) (Or.inl ⟨by rfl, ?_⟩) (by assumption) ?_; rotate_left; (focus (intro w hSw; (skip); (first | (go_simp; done) | (go_simp; with_reducible rfl)))); (try simp only [Act.put, List.setIfInBounds_toArray, List.set_cons_zero, List.set_cons_succ])
        refine wpAnyF_take (i := 2) (v := ?_) rfl (by kernel_rfl) (by kernel_rfl) (by kernel_rfl) (by kernel_rfl) (fun _ _ _ h => h) (Or.inl ⟨by rfl, ?_⟩) (by assumption) ?_; rotate_left; (focus (intro w hSw; (skip); (first | (go_simp; done) | (go_simp; with_reducible rfl)))); (try simp only [Act.put, List.setIfInBounds_toArray, List.set_cons_zero, List.set_cons_succ])
        refine wpAnyF_take (i := 3) (v := ?_) rfl (by kernel_rfl) (by kernel_rfl) (by kernel_rfl) (by kernel_rfl) (fun _ _ _ h => h) (Or.inl ⟨by rfl, ?_⟩) (by assumption) ?_; rotate_left; (focus (intro w hSw; (skip); (first | (go_simp; done) | (go_simp; with_reducible rfl)))); (try simp only [Act.put, List.setIfInBounds_toArray, List.set_cons_zero, List.set_cons_succ])
        refine wpAnyF_take (i := 4) (v := ?_) rfl (by kernel_rfl) (by kernel_rfl) (by kernel_rfl) (by kernel_rfl) (fun _ _ _ h => h) (Or.inl ⟨by rfl, ?_⟩) (by assumption) ?_; rotate_left; (focus (intro w hSw; (have q0 := hSw); (first | (go_simp; done) | (go_simp; with_reducible rfl)))); (try simp only [Act.put, List.setIfInBounds_toArray, List.set_cons_zero, List.set_cons_succ])
        refine wpAnyF_take (i := 5) (v := ?_) rfl (by kernel_rfl) (by kernel_rfl) (by kernel_rfl) (by kernel_rfl) (fun _ _ _ h => h) (Or.inl ⟨by rfl, ?_⟩) (by assumption) ?_; rotate_left; (focus (intro w hSw; (skip); (first | (go_simp; done) | (go_simp; with_reducible rfl)))); (try simp only [Act.put, List.setIfInBounds_toArray, List.set_cons_zero, List.set_cons_succ])
        refine wpAnyF_take (i := 6) (v := ?_) rfl (by kernel_rfl) (by kernel_rfl) (by kernel_rfl) (by kernel_rfl) (fun _ _ _ h => h) (Or.inl ⟨by rfl, ?_⟩) (by assumption) ?_; rotate_left; (focus (intro w hSw; (skip); (first | (go_simp; done) | (go_simp; with_reducible rfl)))); (try simp only [Act.put, List.setIfInBounds_toArray, List.set_cons_zero, List.set_cons_succ])
        refine wpAnyF_take (i := 7) (v := ?_) rfl (by kernel_rfl) (by kernel_rfl) (by kernel_rfl) (by kernel_rfl) (fun _ _ _ h => h) (Or.inl ⟨by rfl, ?_⟩) (by assumption) ?_; rotate_left; (focus (intro w hSw; (skip); (first | (go_simp; done) | (go_simp; with_reducible rfl)))); (try simp only [Act.put, List.setIfInBounds_toArray, List.set_cons_zero, List.set_cons_succ])
        refine wpAnyF_take (i := 8) (v := ?_) rfl (by kernel_rfl) (by kernel_rfl) (by kernel_rfl) (by kernel_rfl) (fun _ _ _ h => h) (Or.inl ⟨by rfl, ?_⟩) (by assumption) ?_; rotate_left; (focus (intro w hSw; (skip); (first | (go_simp; done) | (go_simp; with_reducible rfl)))); (try simp only [Act.put, List.setIfInBounds_toArray, List.set_cons_zero, List.set_cons_succ])
        refine wpAnyF_ready (rs := [9]) (by kernel_rfl) (by simp) ?_
        refine AllF.cons rfl (fun K hK => ?_) AllF.nil
        go_simp
        refine hK.out _ _ (fun _ => hS1) ?_; clear hK K; (try simp only [Act.put, List.setIfInBounds_toArray, List.set_cons_zero, List.set_cons_succ])
        refine wpAnyF_take (i := 10) (v := ?_) rfl (by kernel_rfl) (by kernel_rfl) (by kernel_rfl) (by kernel_rfl) (fun _ _ _ h => h) (Or.inl ⟨by rfl, ?_⟩) (by assumption) ?_; rotate_left; (focus (intro w hSw; (skip); (first | (go_simp; done) | (go_simp; with_reducible rfl)))); (try simp only [Act.put, List.setIfInBounds_toArray, List.set_cons_zero, List.set_cons_succ])
        refine wpAnyF_ready (rs := [11]) (by kernel_rfl) (by simp) ?_
        refine AllF.cons rfl (fun K hK => ?_) AllF.nil
        go_simp
        refine hK.out _ _ (fun _ => hS2) ?_; clear hK K; (try simp only [Act.put, List.setIfInBounds_toArray, List.set_cons_zero, List.set_cons_succ])
        refine wpAnyF_take (i := 12) (v := ?_) rfl (by kernel_rfl) (by kernel_rfl) (by kernel_rfl) (by kernel_rfl) (fun _ _ _ h => h) (Or.inl ⟨by rfl, ?_⟩) (by assumption) ?_; rotate_left; (focus (intro w hSw; (skip); (first | (go_simp; done) | (go_simp; with_reducible rfl)))); (try simp only [Act.put, List.setIfInBounds_toArray, List.set_cons_zero, List.set_cons_succ])
        refine wpAnyF_ready (rs := [13]) (by kernel_rfl) (by simp) ?_
        refine AllF.cons rfl (fun K hK => ?_) AllF.nil
        go_simp
        refine hK.out _ _ (fun h => absurd rfl h) ?_; clear hK K; (try simp only [Act.put, List.setIfInBounds_toArray, List.set_cons_zero, List.set_cons_succ]); refine wpAnyF_done (by kernel_rfl) ?_ _
        have hfac : Only (fun j => j = wr.heap.size) W (((W.setCell ⟨wr.heap.size, 0, none⟩ (.int .u8 3)).setCell ⟨wr.heap.size, 2, none⟩ (.int .i64 tv)).setCell ⟨wr.heap.size, 3, none⟩ (.int .u64 u)).drew ∧ (((W.setCell ⟨wr.heap.size, 0, none⟩ (.int .u8 3)).setCell ⟨wr.heap.size, 2, none⟩ (.int .i64 tv)).setCell ⟨wr.heap.size, 3, none⟩ (.int .u64 u)).drew.heap[wr.heap.size]? = some (.cells #[.int .u8 3, .int .i64 2, .int .i64 tv, .int .u64 u] 52 (0, 0)) := ⟨(OB.out.setCell (p := ⟨wr.heap.size, 3, none⟩) (.inr rfl) _).drew, blk_set (blk_set (blk_set HX.out 0 (.int .u8 3)) 2 (.int .i64 tv)) 3 (.int .u64 u)⟩
        generalize (((W.setCell ⟨wr.heap.size, 0, none⟩ (.int .u8 3)).setCell ⟨wr.heap.size, 2, none⟩ (.int .i64 tv)).setCell ⟨wr.heap.size, 3, none⟩ (.int .u64 u)).drew = W5 at hfac ⊢
        obtain ⟨o5, hX5⟩ := hfac
        have hodd : Strange W (fun j => j = wr.heap.size) := fun j hj => by subst hj; exact .inr ⟨_, _, _, HX.out, by decide, by decide, by decide⟩
        have hL5 := HLW2.out.strange o5 hodd (fun e => hXq e.symm)
        have HP5 := Lib.hid (lput_p hL5 HT.out.well tv u HU.out)
        have hV5 : EvsAt w.heap.size W5 (.slice va L.length vc) L := ownsRow_only HVW2.out o5 (fun j hj e => by subst e; exact HVX.out hj)
        have hB5 := HBW2.out.trans (o5.lo (fun j e => by omega) HBW2.out.size)
        have HQ5 := Lib.hid (LAt.blk hL5)
        have y0' := blk_cell hX5 0; have y1' := blk_cell hX5 1; have y2' := blk_cell hX5 2; have y3' := blk_cell hX5 3
        simp only [List.getElem?_toArray, List.getElem?_cons_zero, List.getElem?_cons_succ] at y0' y1' y2' y3'
        have HX5 := Lib.hid hX5; have HV5 := Lib.hid hV5; have HB5 := Lib.hid hB5
        clear hS0 hS1 hS2 o5 hodd hL5 hV5 hB5 hX5 htv
        go_wp2_with fail
        refine HP5.out.mono ?_
        rintro e w6 ⟨rfl, o6, m6⟩
        have HF := Lib.hid (show Arm w w6 wr.heap.size q (.slice va L.length vc) L fs ⟨3, 2, tv, u⟩ from ⟨rfl, .inl rfl, o6.blk HX5.out hXq, m6, ownsRow_only HV5.out o6 (fun j hj e => by subst e; obtain ⟨cs, hc⟩ := HQ5.out; exact row_ne HV5.out hc (by decide) hj), HB5.out.trans (o6.lo (fun j e => by omega) HB5.out.size), evv2 _ _ HU.out⟩)
        clear o6 m6
        go_wp2_with fail
        go_meet
        exact ⟨⟨3, 2, tv, u⟩, rfl, HF.out⟩
      case rest =>
        obtain ⟨x, rfl, hA⟩ := hcut
        obtain ⟨m, hm⟩ : ∃ m, actN fs x = m := ⟨_, rfl⟩
        rw [hm]
        have y0' := blk_cell hA.blk 0; have y1' := blk_cell hA.blk 1; have y2' := blk_cell hA.blk 2; have y3' := blk_cell hA.blk 3
        simp only [List.getElem?_toArray, List.getElem?_cons_zero, List.getElem?_cons_succ] at y0' y1' y2' y3'
        have HA := Lib.hid hA; have HM := Lib.hid hm
        have hwsz := hA.lo.size
        have hXc := blk_lt hA.blk
        clear hA hm x0' x1' x2' x3' c0 c1
        cases hm0 : (m == 0)
        · have HS := Lib.hid (show actS fs x = fs from actN_ne (by rw [HM.out]; simpa using hm0))
          go_wp2_with fail
          exact ⟨⟨k + 1, L, fs, by go_num, by omega, by omega, by omega, HT.out, HOK.out, by rw [← HS.out]; exact HA.out.log, HA.out.row, HA.out.lo⟩, by simp [intOf]; omega⟩
        · have HT2 := Lib.hid (HT.out.step HA.out.a HA.out.k (by rw [HM.out]; simpa using hm0))
          have HOK2 := Lib.hid (show EvsOk (L ++ [x]) from fun y hy => by
            rcases List.mem_append.1 hy with hy | hy
            · exact HOK.out y hy
            · rw [List.mem_singleton] at hy; subst hy; exact HA.out.ok)
          have lA : Below wc.heap.size wc (wc.alloc (.cells #[.int .u8 x.k, .int .i64 x.a, .int .i64 x.t, .int .u64 x.v] 52)) := by repeat (first | (with_reducible exact Below.refl _ _) | (with_reducible apply Below.drew) | (with_reducible refine below_drewN ?_ _) | (with_reducible refine below_alloc' ?_ ?_ _; (focus ((try simp) <;> omega))) | (with_reducible refine below_set' ?_ ?_ _; (focus ((try simp) <;> omega))))
          have hVA : EvsAt w.heap.size (wc.alloc (.cells #[.int .u8 x.k, .int .i64 x.a, .int .i64 x.t, .int .u64 x.v] 52)) (.slice va L.length vc) L := ownsRow_only HA.out.row (Only.empty lA (Nat.le_refl _)) (fun _ _ h => h)
          have HLA := Lib.hid (HA.out.log.below lA)
          have HBA := Lib.hid (btrans HA.out.lo (Nat.le_refl _) lA)
          have HVA := Lib.hid hVA
          clear lA hVA
          go_wp2_with (at_builtin; refine wpList_append_own _ rfl _ _ 22 rfl w.heap.size 52 i0 (.agg #[.int .u8 0, .int .i64 0, .int .i64 0, .int .u64 0]) 4 32 Try.underlying22 hi hz0 hz1 hz2 rfl (by decide) _ _ (evVals L) rfl HVA.out ⟨wc.heap.size, 0, none⟩ 1 1 [.int .u8 x.k, .int .i64 x.a, .int .i64 x.t, .int .u64 x.v] rfl rfl ?_ ?_ ?_ ?_ ?_ ?_)
          rotate_right
          · intro v' w9 hown hgr _
            have o9 : Only (fun j => (Value.slice va L.length vc).ownBlock = some j) (wc.alloc (.cells #[.int .u8 x.k, .int .i64 x.a, .int .i64 x.t, .int .u64 x.v] 52)) w9 := Only.of_grown hgr (fun j hj => hj)
            have hstr : Strange (wc.alloc (.cells #[.int .u8 x.k, .int .i64 x.a, .int .i64 x.t, .int .u64 x.v] 52)) (fun j => (Value.slice va L.length vc).ownBlock = some j) := fun j hj => by
              obtain ⟨cs, hc⟩ := row_obj HVA.out hj
              exact .inr ⟨cs, _, _, hc, by decide, by decide, by decide⟩
            have HL9 := Lib.hid (HLA.out.strange o9 hstr (fun hj => by obtain ⟨cs, hc⟩ := LAt.blk HLA.out; exact row_ne HVA.out hc (by decide) hj))
            have HB9 := Lib.hid (HBA.out.trans (o9.lo (fun j hj => (World.ownsRow.lt HVA.out j hj).1) HBA.out.size))
            have HV9 := Lib.hid (show EvsAt w.heap.size w9 v' (L ++ [x]) from by
              unfold EvsAt
              rw [evVals_snoc, List.length_append]
              exact hown)
            clear hown hgr o9 hstr
            go_wp2_with fail
            exact ⟨⟨k + 1, L ++ [x], actS fs x, by go_num, by omega, by omega, by rw [List.length_append]; simp; omega, HT2.out, HOK2.out, HL9.out, HV9.out, HB9.out⟩, by simp [intOf]; omega⟩
          all_goals (first | (intro j u hu; rw [Addr.add_lit]; have hnw := blk_cell (blk_new wc (.cells #[.int .u8 x.k, .int .i64 x.a, .int .i64 x.t, .int .u64 x.v] 52)) j; rw [Nat.zero_add, hnw]; simpa using hu) | (simp [Value.oneCell']; done) | (unfold maxLen; omega) | omega | (simp; omega))
    · have hex : ¬ ((k : Int) < len) ∨ ((k : Int) < len ∧ ¬ ((k : Int) < 60)) := by omega
      obtain ⟨f, hf⟩ : ∃ f, allK (getL fs) 12 = f := ⟨_, rfl⟩
      have hfl : f.length ≤ 1000 := by rw [← hf]; exact Nat.le_trans (allK_len _ 12) (by decide)
      have HW := Lib.hid (writesH_r wr va L.length vc L (EvsAt.in' HV.out) (fun x hx => (HOK.out x hx).2) (by omega) 2 f (by rw [HT.out.own]; exact hf))
      have HGD := Lib.hid ((goodL_iff L).2 HT.out.good)
      have HST := Lib.hid HT.out.live
      have HEI := Lib.hid (EvsAt.in' HV.out)
      have HLN := Lib.hid hLl
      have HFA := Lib.hid hf
      clear hf
      rcases hex with hex | ⟨hex, hex2⟩
      all_goals
        go_wp2_with fail
        refine HW.out.mono ?_
        rintro e w2 ⟨v1, rfl, hv1, l2⟩
        have hall := all_p (HLG.out.below l2)
        rw [HFA.out] at hall
        obtain ⟨a1, c1, rfl, _⟩ := frAt_any (ownsRow_base hv1 (base' := 0) (fun _ _ => Nat.zero_le _))
        have HALL := Lib.hid hall
        have HV1 := Lib.hid hv1
        have HE2 := Lib.hid (HEI.out.below l2)
        have LL2 := Lib.hid (btrans HB.out (Nat.le_refl _) l2)
        clear hall hv1 l2
        go_wp2_with fail
        refine HALL.out.mono ?_
        rintro e w3 ⟨v2, rfl, hv2, l3⟩
        obtain ⟨a2, c2, rfl, _⟩ := frAt_any (ownsRow_base hv2 (base' := 0) (fun _ _ => Nat.zero_le _))
        have HV13 := Lib.hid (pairs_grow HV1.out l3)
        have HV2 := Lib.hid hv2
        have HE3 := Lib.hid (HE2.out.below l3)
        have LL3 := Lib.hid (btrans LL2.out (Nat.le_refl _) l3)
        obtain ⟨m, hm⟩ : ∃ m, f.length = m := ⟨_, rfl⟩
        have HM := Lib.hid hm
        rw [hm] at hfl ⊢
        clear hv2 l3 hm
        go_wp2_with fail
        obtain ⟨wo, rfl⟩ : ∃ wo, wo = wr := ⟨wr, rfl⟩
        go_loopw [12] (fun i wq => ∃ j : Nat, i = .int .i64 j ∧ j ≤ m ∧ Below w3.heap.size w3 wq) (fun i _ => m - (intOf i).toNat)
        case atStart => exact ⟨0, rfl, Nat.zero_le _, Below.refl _ _⟩
        case round =>
          obtain ⟨j, rfl, hj, hBj⟩ := hrel
          have HBJ := Lib.hid hBj
          clear hBj
          by_cases hjm : j < m
          · have hp : f[j]? = some (f[j]'(by rw [HM.out]; exact hjm)) := List.getElem?_eq_getElem _
            obtain ⟨g1, e1⟩ : ∃ g, a1 = some ⟨g, 0, none⟩ := by
              rcases frAt_slice (ownsRow_base HV13.out (base' := 0) (fun _ _ => Nat.zero_le _)) with ⟨h, h0⟩ | ⟨g, cp, h⟩
              · have h5 := HM.out
                have h6 : f.length = 0 := by rw [h0]; rfl
                omega
              · injection h with h _ _; exact ⟨g, h⟩
            obtain ⟨g2, e2⟩ : ∃ g, a2 = some ⟨g, 0, none⟩ := by
              rcases frAt_slice (ownsRow_base HV2.out (base' := 0) (fun _ _ => Nat.zero_le _)) with ⟨h, h0⟩ | ⟨g, cp, h⟩
              · have h5 := HM.out
                have h6 : f.length = 0 := by rw [h0]; rfl
                omega
              · injection h with h _ _; exact ⟨g, h⟩
            subst e1 e2
            obtain ⟨c0, c1'⟩ := pairs_cell HV13.out hp
            obtain ⟨d0, d1⟩ := pairs_cell HV2.out hp
            replace c0 := bkeep HBJ.out c0; replace c1' := bkeep HBJ.out c1'; replace d0 := bkeep HBJ.out d0; replace d1 := bkeep HBJ.out d1
            obtain ⟨⟨pt, pv⟩, hpe⟩ : ∃ p, f[j]'(by rw [HM.out]; exact hjm) = p := ⟨_, rfl⟩
            rw [hpe] at c0 c1' d0 d1
            simp only at c0 c1' d0 d1
            have hw1 : IntKind.i64.wrap ((j : Int) + 1) = (j : Int) + 1 := by rw [IntKind.wrap_i64]; omega
            clear hp hpe
            go_wp2_with fail
            go_quiet (fail)
            go_wp2_with fail
            exact ⟨⟨j + 1, by go_num, by omega, below_drewN HBJ.out _⟩, by simp [intOf]; omega⟩
          · obtain rfl : j = m := by omega
            have HEq := Lib.hid (HE3.out.below HBJ.out)
            have LLq := Lib.hid (btrans LL3.out (Nat.le_refl _) HBJ.out)
            go_wp2_with fail
            refine (right_t _ va L.length vc L HEq.out HOK.out (by have := HLN.out; omega) _ HGD.out).mono ?_
            rintro e w7 ⟨rfl, l7⟩
            have HE7 := Lib.hid (HEq.out.below l7)
            have LL7 := Lib.hid (btrans LLq.out (Nat.le_refl _) l7)
            clear l7
            go_wp2_with fail
            refine (stateH_r _ va L.length vc L HE7.out (by have := HLN.out; omega) 2 _ HST.out).mono ?_
            rintro e w8 ⟨rfl, l8⟩
            have LL8 := Lib.hid (btrans LL7.out (Nat.le_refl _) l8)
            clear l8
            go_wp2_with fail
            go_ret
            exact ⟨rfl, LL8.out⟩
end Go.Proofs.Ytfpiecnbnoinnaa.His
