/- The statements on cells: each walk answers true and leaves what was there. -/
import Derived.Test.YtiopopplbehieaaCelQ
import Derived.Test.YtiopopplbehieaaRow
namespace Go.Proofs.Ytiopopplbehieaa.Cel
open Go.RowKit
set_option linter.unusedSimpArgs false
set_option linter.unusedVariables false

theorem cells_op : Try.prog.cellsOf 35 = 4 := by kernel_rfl
theorem cells_u64 : Try.prog.cellsOf 23 = 1 := by kernel_rfl
theorem op_of {H : Type} {enc : TypeId × Value → H} {w : World} {cs : List Value} (h : Fits enc Try.prog w 35 cs) : ∃ o : OpV, o.Fit ∧ cs = [.int .u8 o.k, .int .i64 o.c, .int .u64 o.a, .int .u64 o.b] := by
  obtain ⟨hl, hf⟩ := h.struct Try.underlying35
  rw [cells_op] at hl
  match cs, hl with
  | [c0, c1, c2, c3], _ =>
    obtain ⟨k, h0, w0⟩ := (hf 0 _ rfl).int (k := .u8) (by kernel_rfl)
    obtain ⟨c, h1, w1⟩ := (hf 1 _ rfl).int (k := .i64) (by kernel_rfl)
    obtain ⟨a, h2, w2⟩ := (hf 2 _ rfl).int (k := .u64) (by kernel_rfl)
    obtain ⟨b, h3, w3⟩ := (hf 3 _ rfl).int (k := .u64) (by kernel_rfl)
    have e0 := take_one h0; have e1 := take_one h1; have e2 := take_one h2; have e3 := take_one h3
    simp at e0 e1 e2 e3
    have b0 := bounds_u8 w0; have b2 := bounds_u64 w2; have b3 := bounds_u64 w3
    refine ⟨⟨k, c, a, b⟩, ⟨b0.1, b0.2, ⟨b2.1, ?_⟩, ⟨b3.1, ?_⟩⟩, by rw [e0, e1, e2, e3]⟩
    · have := b2.2
      show a < _
      omega
    · have := b3.2
      show b < _
      omega
theorem ops_of {H : Type} {enc : TypeId × Value → H} {w : World} {a : Option Addr} {len cap : Nat} (h : Fits enc Try.prog w 22 [.slice a len cap]) : Ops w a len := by
  obtain ⟨hm, hh⟩ := h.slice Try.underlying22 (by rw [cells_op]; decide)
  refine ⟨hm, ?_⟩
  rcases hh with hh | ⟨b, off, rfl, hh⟩
  · exact .inl hh
  refine .inr ⟨b, off, rfl, fun i hi => ?_⟩
  obtain ⟨cs, hl, hc, hf⟩ := hh i hi
  obtain ⟨o, ho, rfl⟩ := op_of hf
  rw [cells_op] at hc
  exact ⟨o, ho, hc 0 (by decide), hc 1 (by decide), hc 2 (by decide), hc 3 (by decide)⟩
theorem two_of {H : Type} {enc : TypeId × Value → H} {w : World} {cs : List Value} (h : Fits enc Try.prog w 24 cs) : ∃ x y, U64 x ∧ U64 y ∧ cs = [.int .u64 x, .int .u64 y] := by
  obtain ⟨hl, hf⟩ := h.array Try.underlying24
  rw [show Try.prog.cellsOf 24 = 2 by kernel_rfl] at hl
  rw [cells_u64] at hf
  match cs, hl with
  | [c0, c1], _ =>
    obtain ⟨x, h0, w0⟩ := (hf 0 (by decide)).int (k := .u64) (by kernel_rfl)
    obtain ⟨y, h1, w1⟩ := (hf 1 (by decide)).int (k := .u64) (by kernel_rfl)
    simp at h0 h1
    have b0 := bounds_u64 w0; have b1 := bounds_u64 w1
    exact ⟨x, y, ⟨b0.1, by have := b0.2; omega⟩, ⟨b1.1, by have := b1.2; omega⟩, by rw [h0, h1]⟩

theorem plays {H : Type} (enc : TypeId × Value → H) (w : World) (n : Int) (hn : (Lit.int .u8 n).wf = true) (a : Option Addr) (len cap : Nat) (h : Fits enc Try.prog w 22 [.slice a len cap]) :
    Calls Try.prog 4 #[.int .u8 n, .slice a len cap] w fun e w' => e = .returned (.bool true) ∧ Below w.heap.size w w' := by
  have HD := Lib.hid (ops_of h)
  have hb := bounds_u8 hn
  clear h hn
  go_enter Try.func4, Try.ntmps4
  go_wp2_with fail
  refine (play_any w a len cap HD.out n hb).mono ?_
  rintro e w1 ⟨c, r, F, G, s, k, hk, rfl, hP⟩
  have H1 := Lib.hid hP; clear hP HD
  go_wp2_with fail
  refine (live_any w1).mono ?_
  rintro e w2 ⟨rfl, o2⟩
  have H2 := Lib.hid (H1.out.below o2); clear o2 H1
  go_wp2_with fail
  refine (same_any w2 c r s H2.out.b).mono ?_
  rintro e w3 ⟨rfl, o3⟩
  have l3 := H2.out.lo.trans (o3.mono H2.out.lo.size)
  clear H2 o3
  go_wp2_with fail
  go_ret
  exact ⟨rfl, l3⟩

theorem becV_cas (i x y was : Int) : becV ⟨3, i, x, y⟩ was = if was = x then (y, true, 0) else (was, false, 0) := by simp [becV]
theorem cas_facts (s : CSt) (i : Nat) (x y : Int) (hi : i < s.ws.length) :
    s.doE ⟨3, i, x, y⟩ = 0 ∧ s.doD ⟨3, i, x, y⟩ = ⟨⟨3, i, x, y⟩, s.at i, decide (s.at i = x)⟩ ∧ (s.doS ⟨3, i, x, y⟩).at i = (if s.at i = x then y else s.at i) ∧ (s.doS ⟨3, i, x, y⟩).ws.length = s.ws.length := by
  have hr : s.inr i = true := by simp [CSt.inr, hi]
  have hE : s.doE ⟨3, i, x, y⟩ = 0 := by
    simp only [CSt.doE, hr, if_true, becV_cas]
    split <;> rfl
  refine ⟨hE, ?_, ?_, (doS_len _ _).1⟩
  · simp only [CSt.doD, hE, if_true, becV_cas]
    split <;> simp_all
  · simp only [CSt.doS, hE, if_true, becV_cas, CSt.at, Int.toNat_natCast]
    split <;> simp_all

theorem fit3 {i a b : Int} (ha : U64 a) (hb : U64 b) : OpV.Fit ⟨3, i, a, b⟩ := ⟨(by decide : (0 : Int) ≤ 3), (by decide : (3 : Int) ≤ 255), ha, hb⟩
theorem word_to {F : Nat → Prop} {w : World} {b : Nat} {s : CSt} (h : CellsAt 66 w b F s) {i : Nat} {x : Int} (hi : i < s.ws.length) (hx : s.at i = x) :
    Calls Try.prog 12 #[ptr b, .int .i64 i] w fun e w' => e = .returned (.tuple #[.int .u64 x, .int .i64 0]) ∧ w = w' := by
  subst hx
  refine (word_any w b s h i).mono ?_
  rintro e w' ⟨rfl, rfl⟩
  have hr : s.inr i = true := by simp [CSt.inr, hi]
  exact ⟨by simp [CSt.wordV, CSt.wordE, hr], rfl⟩
theorem Ops.below {w w' : World} {a : Option Addr} {len : Nat} (h : Ops w a len) (hb : Below w.heap.size w w') : Ops w' a len := by
  refine ⟨h.1, h.2.imp id ?_⟩
  rintro ⟨b, off, rfl, hc⟩
  refine ⟨b, off, rfl, fun i hi => ?_⟩
  obtain ⟨o, ho, c0, c1, c2, c3⟩ := hc i hi
  exact ⟨o, ho, bkeep hb c0, bkeep hb c1, bkeep hb c2, bkeep hb c3⟩

set_option maxHeartbeats 1600000 in
theorem race {H : Type} (enc : TypeId × Value → H) (w : World) (a : Option Addr) (len cap : Nat) (h : Fits enc Try.prog w 22 [.slice a len cap]) (n : Int) (hn : (Lit.int .u8 n).wf = true)
    (c2 : Array Value) (h2 : Fits enc Try.prog w 24 c2.toList) :
    Calls Try.prog 3 #[.slice a len cap, .int .u8 n, .agg c2] w fun e w' => e = .returned (.bool true) ∧ Below w.heap.size w w' := by
  obtain ⟨x, y, hx, hy, he⟩ := two_of h2
  obtain rfl : c2 = #[.int .u64 x, .int .u64 y] := by rw [← Array.toList_inj, he]
  have hb := bounds_u8 hn
  have hb0 : 0 ≤ n := hb.1
  have hb1 : n ≤ 255 := hb.2
  obtain ⟨i, hi⟩ : ∃ i : Nat, (i : Int) = n % 3 := ⟨(n % 3).toNat, by omega⟩
  have hi3 : i < 3 := by omega
  have hi' : n % 3 = (i : Int) := hi.symm
  have hbox := blk_new w (.cells #[.int .u64 x, .int .u64 y] 24)
  have lb : Below w.heap.size w (w.alloc (.cells #[.int .u64 x, .int .u64 y] 24)) := by repeat (first | (with_reducible exact Below.refl _ _) | (with_reducible apply Below.drew) | (with_reducible refine below_drewN ?_ _) | (with_reducible refine below_alloc' ?_ ?_ _; (focus ((try simp) <;> omega))) | (with_reducible refine below_set' ?_ ?_ _; (focus ((try simp) <;> omega))))
  have HD := Lib.hid ((ops_of h).below lb)
  have HX := Lib.hid hx; have HY := Lib.hid hy; have HBOX := Lib.hid hbox; have LB := Lib.hid lb
  clear h hn h2 he hi hx hy hbox lb hb
  go_enter Try.func3, Try.ntmps3
  go_wp2_with fail
  generalize w.alloc (.cells #[.int .u64 x, .int .u64 y] 24) = w0 at *
  refine (play_any _ a len cap HD.out 2 (by decide)).mono ?_
  rintro e w1 ⟨c, r, F, G, s, k, hk, rfl, hP⟩
  have H1 := Lib.hid hP; clear hP HD
  go_wp2_with fail
  refine (live_any w1).mono ?_
  rintro e w2 ⟨rfl, o2⟩
  have H2 := Lib.hid (H1.out.below o2); clear o2 H1
  have L2 := Lib.hid (LB.out.trans (H2.out.lo.mono LB.out.size))
  have B2 := Lib.hid (bblk H2.out.lo HBOX.out)
  have hF := Lib.hid (fun k h => Nat.le_trans LB.out.size (H2.out.f k h))
  have hnF : ¬ F w.heap.size := fun h => by have := H2.out.f _ h; have := blk_lt HBOX.out; omega
  have hI := H2.out.p.facts (by decide) (by omega)
  have HI := Lib.hid hI.1
  have hlen : i < s.ws.length := by rw [hI.2.1]; simpa using hi3
  have hlog : s.log.length ≤ 60 := Nat.le_trans hI.2.2 hk
  have hc := Lib.hid H2.out.b.c
  obtain ⟨q, hq⟩ : ∃ q, s.at i = q := ⟨_, rfl⟩
  have hqf : U64 q := hq ▸ CSt.at_fit hI.1 i
  have HQ := Lib.hid hq; have HQF := Lib.hid hqf
  clear hI hq hqf H2
  go_wp2_with fail
  refine (word_to hc.out hlen HQ.out).mono ?_
  rintro e w3 ⟨rfl, rfl⟩
  have f1 := cas_facts s i q x hlen
  rw [HQ.out, show decide (q = q) = true by simp, if_pos rfl] at f1
  have F1 := Lib.hid f1; clear f1
  have k0 := blk_cell B2.out 0; have k1 := blk_cell B2.out 1
  simp only [List.getElem?_toArray, List.getElem?_cons_zero, List.getElem?_cons_succ] at k0 k1
  go_wp2_with fail
  refine (do_to HI.out (by omega) hc.out ⟨3, i, q, x⟩ (fit3 HQF.out HX.out) F1.out.1 F1.out.2.1 rfl).mono ?_
  rintro e w4 ⟨rfl, h4, o4⟩
  have hI1 := inv_do HI.out (by omega) (o := ⟨3, i, q, x⟩) (fit3 HQF.out HX.out)
  have hlog1 := (doS_len s ⟨3, i, q, x⟩).2.1
  have hlen1 : i < (s.doS ⟨3, i, q, x⟩).ws.length := by rw [F1.out.2.2.2]; exact hlen
  have f2 := cas_facts (s.doS ⟨3, i, q, x⟩) i q y hlen1
  rw [F1.out.2.2.1] at f2
  have hbx := blk_new w4 (.cells #[.int .u8 3, .int .i64 i, .int .u64 q, .int .u64 x, .int .u64 q, .bool true] 37)
  have lx : Below w4.heap.size w4 (w4.alloc (.cells #[.int .u8 3, .int .i64 i, .int .u64 q, .int .u64 x, .int .u64 q, .bool true] 37)) := by repeat (first | (with_reducible exact Below.refl _ _) | (with_reducible apply Below.drew) | (with_reducible refine below_drewN ?_ _) | (with_reducible refine below_alloc' ?_ ?_ _; (focus ((try simp) <;> omega))) | (with_reducible refine below_set' ?_ ?_ _; (focus ((try simp) <;> omega))))
  have nx : w4.heap.size < (w4.alloc (.cells #[.int .u8 3, .int .i64 i, .int .u64 q, .int .u64 x, .int .u64 q, .bool true] 37)).heap.size := by simp
  have hF4 := Lib.hid (grow_lo (w := w2) (w' := w4) hF.out L2.out.size)
  have L4 := Lib.hid (L2.out.trans (o4.lo hF.out L2.out.size))
  replace k0 := bkeep lx (o4.cell k0 hnF); replace k1 := bkeep lx (o4.cell k1 hnF)
  have hlt0 := World.block_lt_of_cell? _ _ k0
  have hnF4 : ¬ Grow F w2 w4 w.heap.size := fun h => h.elim hnF (fun h => by have := blk_lt B2.out; omega)
  have hnB4 : ¬ Grow F w2 w4 w4.heap.size := fun h => by have := h4.within _ h; omega
  have L5 := Lib.hid (L4.out.trans (lx.mono L4.out.size))
  have hc5 := Lib.hid (h4.below lx)
  have HI1 := Lib.hid hI1; have F2 := Lib.hid f2
  clear hI1 f2 h4 o4 L4 lx hc HI F1 L2 B2 hF
  go_wp2_with fail
  generalize w4.alloc (.cells #[.int .u8 3, .int .i64 i, .int .u64 q, .int .u64 x, .int .u64 q, .bool true] 37) = w5 at *
  generalize Grow F w2 w4 = F4 at *
  generalize s.doS ⟨3, i, q, x⟩ = s1 at *
  refine (do_to HI1.out (by omega) hc5.out ⟨3, i, q, y⟩ (fit3 HQF.out HY.out) F2.out.1 F2.out.2.1 rfl).mono ?_
  rintro e w6 ⟨rfl, h6, o6⟩
  have L6 := Lib.hid (L5.out.trans (o6.lo hF4.out L5.out.size))
  replace k0 := o6.cell k0 hnF4; replace k1 := o6.cell k1 hnF4
  have hb6 := o6.blk hbx hnB4
  have hlen6 : i < (s1.doS ⟨3, i, q, y⟩).ws.length := by rw [F2.out.2.2.2]; exact hlen1
  have hlt6 := blk_lt hb6
  have hne6 : w4.heap.size ≠ w6.heap.size := by omega
  have z0 := blk_cell hb6 4; have z1 := blk_cell hb6 5
  simp only [List.getElem?_toArray, List.getElem?_cons_zero, List.getElem?_cons_succ] at z0 z1
  have H6 := Lib.hid h6
  clear h6 o6 hb6 hc5 HI1 L5 hF4 hbx nx hlt0 hnF hnF4 hnB4
  by_cases hxq : x = q
  · subst hxq
    have hv := F2.out.2.2.1
    rw [if_pos rfl] at hv
    have HV := Lib.hid hv; clear hv
    go_wp2_with fail
    have hy := blk_new w6 (.cells #[.int .u8 3, .int .i64 i, .int .u64 x, .int .u64 y, .int .u64 x, .bool true] 37)
    have ly : Below w6.heap.size w6 (w6.alloc (.cells #[.int .u8 3, .int .i64 i, .int .u64 x, .int .u64 y, .int .u64 x, .bool true] 37)) := by repeat (first | (with_reducible exact Below.refl _ _) | (with_reducible apply Below.drew) | (with_reducible refine below_drewN ?_ _) | (with_reducible refine below_alloc' ?_ ?_ _; (focus ((try simp) <;> omega))) | (with_reducible refine below_set' ?_ ?_ _; (focus ((try simp) <;> omega))))
    generalize w6.alloc (.cells #[.int .u8 3, .int .i64 i, .int .u64 x, .int .u64 y, .int .u64 x, .bool true] 37) = w7 at *
    replace k0 := bkeep ly k0; replace k1 := bkeep ly k1; replace z0 := bkeep ly z0; replace z1 := bkeep ly z1
    have y0 := blk_cell hy 4; have y1 := blk_cell hy 5
    simp only [List.getElem?_toArray, List.getElem?_cons_zero, List.getElem?_cons_succ] at y0 y1
    have l7 := Lib.hid (btrans L6.out (Nat.le_trans (Nat.le_refl _) (Nat.le_refl _)) ly)
    have H7 := Lib.hid (H6.out.below ly)
    clear hy ly H6 L6
    refine (word_to H7.out hlen6 HV.out).mono ?_
    rintro e w8 ⟨rfl, rfl⟩
    go_wp2_with fail
    go_ret
    exact ⟨by simp, l7.out⟩
  · have hv := F2.out.2.2.1
    rw [if_neg hxq] at hv
    have HV := Lib.hid hv; clear hv
    have hd : decide (x = q) = false := by simpa using hxq
    have hd' : (x == q) = false := by simpa using hxq
    go_wp2_with fail
    have hy := blk_new w6 (.cells #[.int .u8 3, .int .i64 i, .int .u64 q, .int .u64 y, .int .u64 x, .bool false] 37)
    have ly : Below w6.heap.size w6 (w6.alloc (.cells #[.int .u8 3, .int .i64 i, .int .u64 q, .int .u64 y, .int .u64 x, .bool false] 37)) := by repeat (first | (with_reducible exact Below.refl _ _) | (with_reducible apply Below.drew) | (with_reducible refine below_drewN ?_ _) | (with_reducible refine below_alloc' ?_ ?_ _; (focus ((try simp) <;> omega))) | (with_reducible refine below_set' ?_ ?_ _; (focus ((try simp) <;> omega))))
    generalize w6.alloc (.cells #[.int .u8 3, .int .i64 i, .int .u64 q, .int .u64 y, .int .u64 x, .bool false] 37) = w7 at *
    replace k0 := bkeep ly k0; replace k1 := bkeep ly k1; replace z0 := bkeep ly z0; replace z1 := bkeep ly z1
    have y0 := blk_cell hy 4; have y1 := blk_cell hy 5
    simp only [List.getElem?_toArray, List.getElem?_cons_zero, List.getElem?_cons_succ] at y0 y1
    have l7 := Lib.hid (btrans L6.out (Nat.le_trans (Nat.le_refl _) (Nat.le_refl _)) ly)
    have H7 := Lib.hid (H6.out.below ly)
    clear hy ly H6 L6
    refine (word_to H7.out hlen6 HV.out).mono ?_
    rintro e w8 ⟨rfl, rfl⟩
    go_wp2_with fail
    go_ret
    exact ⟨by simp, l7.out⟩

/-! ### None -/
theorem law_none {H : Type} (enc : TypeId × Value → H) (w : World) (c0 : Array Value) (h0 : Fits enc Try.prog w 35 c0.toList) (n : Int) (hn : (Lit.int .i64 n).wf = true) :
    Calls Try.prog 6 #[.agg c0, .int .i64 n] w fun e w' => e = .returned (.bool true) ∧ Below w.heap.size w w' := by
  obtain ⟨o, ho, he⟩ := op_of h0
  obtain rfl : c0 = #[.int .u8 o.k, .int .i64 o.c, .int .u64 o.a, .int .u64 o.b] := by rw [← Array.toList_inj, he]
  clear he h0 hn ho
  go_enter Try.func6, Try.ntmps6
  go_wp2_with fail
  have l0 : Below w.heap.size w (w.alloc (.cells #[.int .u8 o.k, .int .i64 o.c, .int .u64 o.a, .int .u64 o.b] 35)) := by repeat (first | (with_reducible exact Below.refl _ _) | (with_reducible apply Below.drew) | (with_reducible refine below_drewN ?_ _) | (with_reducible refine below_alloc' ?_ ?_ _; (focus ((try simp) <;> omega))) | (with_reducible refine below_set' ?_ ?_ _; (focus ((try simp) <;> omega))))
  generalize w.alloc (.cells #[.int .u8 o.k, .int .i64 o.c, .int .u64 o.a, .int .u64 o.b] 35) = w0 at *
  refine (do_nil _ o).mono ?_
  rintro e w1 ⟨rfl, l1⟩
  simp only [dnv, noDn]
  have L1 := Lib.hid (btrans l0 (Nat.le_refl _) l1); clear l0 l1
  go_wp2_with fail
  have hx := blk_new w1 (.cells #[.int .u8 0, .int .i64 0, .int .u64 0, .int .u64 0, .int .u64 0, .bool false] 37)
  have lx : Below w1.heap.size w1 (w1.alloc (.cells #[.int .u8 0, .int .i64 0, .int .u64 0, .int .u64 0, .int .u64 0, .bool false] 37)) := by repeat (first | (with_reducible exact Below.refl _ _) | (with_reducible apply Below.drew) | (with_reducible refine below_drewN ?_ _) | (with_reducible refine below_alloc' ?_ ?_ _; (focus ((try simp) <;> omega))) | (with_reducible refine below_set' ?_ ?_ _; (focus ((try simp) <;> omega))))
  generalize w1.alloc (.cells #[.int .u8 0, .int .i64 0, .int .u64 0, .int .u64 0, .int .u64 0, .bool false] 37) = w2 at *
  have x0 := blk_cell hx 0; have x1 := blk_cell hx 1; have x2 := blk_cell hx 2; have x3 := blk_cell hx 3; have x4 := blk_cell hx 4; have x5 := blk_cell hx 5
  simp only [List.getElem?_toArray, List.getElem?_cons_zero, List.getElem?_cons_succ] at x0 x1 x2 x3 x4 x5
  have L2 := Lib.hid (btrans L1.out (Nat.le_refl _) lx); clear hx lx L1
  refine (word_nil _ n).mono ?_
  rintro e w3 ⟨rfl, rfl⟩
  go_wp2_with fail
  refine (live_any _).mono ?_
  rintro e w3 ⟨rfl, l3⟩
  have L3 := Lib.hid (btrans L2.out (Nat.le_refl _) l3)
  replace x0 := bkeep l3 x0; replace x1 := bkeep l3 x1; replace x2 := bkeep l3 x2; replace x3 := bkeep l3 x3; replace x4 := bkeep l3 x4; replace x5 := bkeep l3 x5
  clear l3 L2
  go_wp2_with fail
  refine (words_nil _).mono ?_
  rintro e w4 ⟨rfl, rfl⟩
  go_wp2_with fail
  refine (log_nil _).mono ?_
  rintro e w4 ⟨rfl, rfl⟩
  go_wp2_with fail
  refine (steps_nil _).mono ?_
  rintro e w4 ⟨rfl, rfl⟩
  go_wp2_with fail
  refine (fork_nil _).mono ?_
  rintro e w4 ⟨rfl, rfl⟩
  go_wp2_with fail
  refine (new_any _ n).mono ?_
  rintro e w4 ⟨l4, h4⟩
  have L4 := Lib.hid (btrans L3.out (Nat.le_refl _) l4)
  clear l4 L3
  rcases h4 with ⟨hn, rfl⟩ | ⟨hn, rfl, _⟩
  · by_cases h1 : n < 1
    · have hd : decide (n < 1) = true := by simpa using h1
      go_wp2_with fail
      go_ret
      exact ⟨by simp, L4.out⟩
    · have hd : decide (n < 1) = false := by simpa using h1
      have hd2 : decide (32 < n) = true := by simp; omega
      go_wp2_with fail
      go_ret
      exact ⟨by simp, L4.out⟩
  · have hd : decide (n < 1) = false := by simp; omega
    have hd2 : decide (32 < n) = false := by simp; omega
    go_wp2_with fail
    go_ret
    exact ⟨by simp, L4.out⟩
end Go.Proofs.Ytiopopplbehieaa.Cel
