/- Of right events before is an order. -/
import Derived.Test.YtfpiecnbnoinnaaHisU
namespace Go.Proofs.Ytfpiecnbnoinnaa.His
open Go.RowKit Go.Proofs.Ytfpiecnbnoinnaa.Wri Go.ChangeShapes Go.WideShapes Go.ChangeAt
set_option linter.unusedSimpArgs false
set_option linter.unusedVariables false
set_option maxRecDepth 50000

theorem cells_u8' : Try.prog.cellsOf 5 = 1 := by kernel_rfl
theorem a3b_of {H : Type} {enc : TypeId × Value → H} {w : World} {cs : List Value} (h : Fits enc Try.prog w 37 cs) : ∃ x y z : Int, cs = [.int .u8 x, .int .u8 y, .int .u8 z] ∧ (0 ≤ x ∧ x < 256) ∧ (0 ≤ y ∧ y < 256) ∧ (0 ≤ z ∧ z < 256) := by
  obtain ⟨hl, hf⟩ := h.array Try.underlying37
  rw [show Try.prog.cellsOf 37 = 3 by kernel_rfl] at hl
  match cs, hl with
  | [c0, c1, c2], _ =>
    have h0 := hf 0 (by decide); have h1 := hf 1 (by decide); have h2 := hf 2 (by decide)
    rw [cells_u8'] at h0 h1 h2
    obtain ⟨x, e0, w0⟩ := h0.int (k := .u8) (by kernel_rfl)
    obtain ⟨y, e1, w1⟩ := h1.int (k := .u8) (by kernel_rfl)
    obtain ⟨z, e2, w2⟩ := h2.int (k := .u8) (by kernel_rfl)
    simp at e0 e1 e2
    have b0 := bounds_u8 w0; have b1 := bounds_u8 w1; have b2 := bounds_u8 w2
    refine ⟨x, y, z, by rw [e0, e1, e2], ?_, ?_, ?_⟩ <;> omega
theorem bef_r (w : World) (p : Option Addr) (n c : Nat) (l : List Ev) (h : EvsIn w p n l) (hn : n ≤ 1000000) (a b : Int) (r : Bool) (hr : beforeL a b l false = r) :
    Calls Try.prog 17 #[.slice p n c, .int .i64 a, .int .i64 b] w fun e w' => e = .returned (.bool r) ∧ Below w.heap.size w w' := by
  rw [← hr]; exact before_any w p n c l h hn a b
set_option maxHeartbeats 6400000 in
theorem order_law {H : Type} (enc : TypeId × Value → H) (w : World) (a : Option Addr) (len cap : Nat) (h : Fits enc Try.prog w 22 [.slice a len cap]) (c : Array Value) (h' : Fits enc Try.prog w 37 c.toList) :
    Calls Try.prog 5 #[.slice a len cap, .agg c] w fun e w' => e = .returned (.bool true) ∧ Below w.heap.size w w' := by
  obtain ⟨x0, x1, x2, he, hx0, hx1, hx2⟩ := a3b_of h'
  obtain rfl : c = #[.int .u8 x0, .int .u8 x1, .int .u8 x2] := by rw [← Array.toList_inj, he]
  obtain ⟨l, hl, hok, hfew⟩ := evs_of h
  have hm60 : min len 60 ≤ 60 := Nat.min_le_right _ _
  obtain ⟨n, hn⟩ : ∃ n, min len 60 = n := ⟨_, rfl⟩
  rw [hn] at hl hfew hm60
  have lW : Below w.heap.size w (w.alloc (.cells #[.int .u8 x0, .int .u8 x1, .int .u8 x2] 37)) := by repeat (first | (with_reducible exact Below.refl _ _) | (with_reducible apply Below.drew) | (with_reducible refine below_drewN ?_ _) | (with_reducible refine below_alloc' ?_ ?_ _; (focus ((try simp) <;> omega))) | (with_reducible refine below_set' ?_ ?_ _; (focus ((try simp) <;> omega))))
  obtain ⟨W, hW⟩ : ∃ W, (w.alloc (.cells #[.int .u8 x0, .int .u8 x1, .int .u8 x2] 37)) = W := ⟨_, rfl⟩
  have q0 : W.cell? ⟨w.heap.size, 0, none⟩ = some (.int .u8 x0) := by rw [← hW]; simp
  have q1 : W.cell? ⟨w.heap.size, 1, none⟩ = some (.int .u8 x1) := by rw [← hW]; simp
  have q2 : W.cell? ⟨w.heap.size, 2, none⟩ = some (.int .u8 x2) := by rw [← hW]; simp
  rw [hW] at lW
  have HF := Lib.hid (hfew W); have HWD := Lib.hid hW
  have LL0 := Lib.hid lW
  have HE0 := Lib.hid (hl.below lW)
  have hn6 : n ≤ 1000000 := by omega
  have HR := Lib.hid (right_any W a n cap l (hl.below lW) hok (by omega))
  have v0 : IntKind.i64.wrap x0 = x0 := by rw [IntKind.wrap_i64]; omega
  have v1 : IntKind.i64.wrap x1 = x1 := by rw [IntKind.wrap_i64]; omega
  have v2 : IntKind.i64.wrap x2 = x2 := by rw [IntKind.wrap_i64]; omega
  clear h h' he hok hfew hn lW hl hW hx0 hx1 hx2
  cases hg : goodL l with
  | false =>
    have HR2 := HR.out
    rw [hg] at HR2
    have HR3 := Lib.hid HR2
    clear HR2 HR hg q0 q1 q2
    go_enter Try.func5, Try.ntmps5
    go_wp2_with fail
    rw [HWD.out]
    refine HF.out.mono ?_
    rintro e w0 ⟨rfl, rfl⟩
    go_wp2_with fail
    refine HR3.out.mono ?_
    rintro e w1 ⟨rfl, l1⟩
    have HE1 := Lib.hid (HE0.out.below l1)
    have LL1 := Lib.hid (btrans LL0.out (Nat.le_refl _) l1)
    clear l1
    go_wp2_with fail
    refine (live_any _).mono ?_; rintro e w2 ⟨rfl, l2⟩; have HE2 := Lib.hid (HE1.out.below l2); have LL2 := Lib.hid (btrans LL1.out (Nat.le_refl _) l2); clear l2; go_wp2_with fail
    go_ret
    exact ⟨rfl, LL2.out⟩
  | true =>
    have HR2 := HR.out
    rw [hg] at HR2
    have HR3 := Lib.hid HR2
    have hwell := ((goodL_iff l).1 hg).well
    have HWL := Lib.hid hwell
    have HBaa := Lib.hid (before_irr hwell x0)
    clear HR2 HR hg hwell
    have hrest : Calls Try.prog 5 #[.slice a len cap, .agg #[.int .u8 x0, .int .u8 x1, .int .u8 x2]] w fun e w' => e = .returned (.bool true) ∧ Below w.heap.size w w' := by
      cases hab : beforeL x0 x1 l false with
      | false =>
        have HBab := Lib.hid hab
        clear hab
        go_enter Try.func5, Try.ntmps5; go_wp2_with fail; rw [HWD.out]; refine HF.out.mono ?_; rintro e w0 ⟨rfl, rfl⟩; go_wp2_with fail; refine HR3.out.mono ?_; rintro e w1 ⟨rfl, l1⟩; have HE1 := Lib.hid (show EvsIn w1.drew a n l from HE0.out.below (l1.trans (Below.refl _ _).drew)); have LL1 := Lib.hid (show Below w.heap.size w w1.drew from (btrans LL0.out (Nat.le_refl _) l1).drew); have r0 : w1.drew.cell? ⟨w.heap.size, 0, none⟩ = some (.int .u8 x0) := bkeep l1 q0; have r1 : w1.drew.cell? ⟨w.heap.size, 1, none⟩ = some (.int .u8 x1) := bkeep l1 q1; have r2 : w1.drew.cell? ⟨w.heap.size, 2, none⟩ = some (.int .u8 x2) := bkeep l1 q2; have Q0 := And.intro r0 (And.intro r1 r2); clear l1; go_wp2_with fail; go_region_held3 (fun w' => w'.cell? ⟨w.heap.size, 0, none⟩ = some (.int .u8 x0) ∧ w'.cell? ⟨w.heap.size, 1, none⟩ = some (.int .u8 x1) ∧ w'.cell? ⟨w.heap.size, 2, none⟩ = some (.int .u8 x2)) (with_reducible exact Q0) (fail); go_wp2_with fail
        refine (bef_r _ a n cap l HE1.out hn6 x0 x0 _ HBaa.out).mono ?_; rintro e w2 ⟨rfl, l2⟩; have HE2 := Lib.hid (HE1.out.below l2); have LL2 := Lib.hid (btrans LL1.out (Nat.le_refl _) l2); clear l2; go_wp2_with fail
        refine (bef_r _ a n cap l HE2.out hn6 x0 x1 _ HBab.out).mono ?_; rintro e w3 ⟨rfl, l3⟩; have HE3 := Lib.hid (HE2.out.below l3); have LL3 := Lib.hid (btrans LL2.out (Nat.le_refl _) l3); clear l3; go_wp2_with fail
        refine (live_any _).mono ?_; rintro e w4 ⟨rfl, l4⟩; have HE4 := Lib.hid (HE3.out.below l4); have LL4 := Lib.hid (btrans LL3.out (Nat.le_refl _) l4); clear l4; go_wp2_with fail
        refine (bef_r _ a n cap l HE4.out hn6 x0 x1 _ HBab.out).mono ?_; rintro e w5 ⟨rfl, l5⟩; have HE5 := Lib.hid (HE4.out.below l5); have LL5 := Lib.hid (btrans LL4.out (Nat.le_refl _) l5); clear l5; go_wp2_with fail
        go_ret
        exact ⟨rfl, LL5.out⟩
      | true =>
        have HBab := Lib.hid hab
        have HBba := Lib.hid (show beforeL x1 x0 l false = false from by
          cases hba : beforeL x1 x0 l false with
          | false => rfl
          | true => exact (before_asym HWL.out hab hba).elim)
        cases hbc : beforeL x1 x2 l false with
        | false =>
          have HBbc := Lib.hid hbc
          clear hab hbc
          go_enter Try.func5, Try.ntmps5; go_wp2_with fail; rw [HWD.out]; refine HF.out.mono ?_; rintro e w0 ⟨rfl, rfl⟩; go_wp2_with fail; refine HR3.out.mono ?_; rintro e w1 ⟨rfl, l1⟩; have HE1 := Lib.hid (show EvsIn w1.drew a n l from HE0.out.below (l1.trans (Below.refl _ _).drew)); have LL1 := Lib.hid (show Below w.heap.size w w1.drew from (btrans LL0.out (Nat.le_refl _) l1).drew); have r0 : w1.drew.cell? ⟨w.heap.size, 0, none⟩ = some (.int .u8 x0) := bkeep l1 q0; have r1 : w1.drew.cell? ⟨w.heap.size, 1, none⟩ = some (.int .u8 x1) := bkeep l1 q1; have r2 : w1.drew.cell? ⟨w.heap.size, 2, none⟩ = some (.int .u8 x2) := bkeep l1 q2; have Q0 := And.intro r0 (And.intro r1 r2); clear l1; go_wp2_with fail; go_region_held3 (fun w' => w'.cell? ⟨w.heap.size, 0, none⟩ = some (.int .u8 x0) ∧ w'.cell? ⟨w.heap.size, 1, none⟩ = some (.int .u8 x1) ∧ w'.cell? ⟨w.heap.size, 2, none⟩ = some (.int .u8 x2)) (with_reducible exact Q0) (fail); go_wp2_with fail
          refine (bef_r _ a n cap l HE1.out hn6 x0 x0 _ HBaa.out).mono ?_; rintro e w2 ⟨rfl, l2⟩; have HE2 := Lib.hid (HE1.out.below l2); have LL2 := Lib.hid (btrans LL1.out (Nat.le_refl _) l2); clear l2; go_wp2_with fail
          refine (bef_r _ a n cap l HE2.out hn6 x0 x1 _ HBab.out).mono ?_; rintro e w3 ⟨rfl, l3⟩; have HE3 := Lib.hid (HE2.out.below l3); have LL3 := Lib.hid (btrans LL2.out (Nat.le_refl _) l3); clear l3; go_wp2_with fail
          refine (bef_r _ a n cap l HE3.out hn6 x1 x0 _ HBba.out).mono ?_; rintro e w4 ⟨rfl, l4⟩; have HE4 := Lib.hid (HE3.out.below l4); have LL4 := Lib.hid (btrans LL3.out (Nat.le_refl _) l4); clear l4; go_wp2_with fail
          refine (live_any _).mono ?_; rintro e w5 ⟨rfl, l5⟩; have HE5 := Lib.hid (HE4.out.below l5); have LL5 := Lib.hid (btrans LL4.out (Nat.le_refl _) l5); clear l5; go_wp2_with fail
          refine (bef_r _ a n cap l HE5.out hn6 x0 x1 _ HBab.out).mono ?_; rintro e w6 ⟨rfl, l6⟩; have HE6 := Lib.hid (HE5.out.below l6); have LL6 := Lib.hid (btrans LL5.out (Nat.le_refl _) l6); clear l6; go_wp2_with fail
          refine (bef_r _ a n cap l HE6.out hn6 x1 x2 _ HBbc.out).mono ?_; rintro e w7 ⟨rfl, l7⟩; have HE7 := Lib.hid (HE6.out.below l7); have LL7 := Lib.hid (btrans LL6.out (Nat.le_refl _) l7); clear l7; go_wp2_with fail
          go_ret
          exact ⟨rfl, LL7.out⟩
        | true =>
          have HBbc := Lib.hid hbc
          have HBac := Lib.hid (before_trans HWL.out hab hbc)
          clear hab hbc
          go_enter Try.func5, Try.ntmps5; go_wp2_with fail; rw [HWD.out]; refine HF.out.mono ?_; rintro e w0 ⟨rfl, rfl⟩; go_wp2_with fail; refine HR3.out.mono ?_; rintro e w1 ⟨rfl, l1⟩; have HE1 := Lib.hid (show EvsIn w1.drew a n l from HE0.out.below (l1.trans (Below.refl _ _).drew)); have LL1 := Lib.hid (show Below w.heap.size w w1.drew from (btrans LL0.out (Nat.le_refl _) l1).drew); have r0 : w1.drew.cell? ⟨w.heap.size, 0, none⟩ = some (.int .u8 x0) := bkeep l1 q0; have r1 : w1.drew.cell? ⟨w.heap.size, 1, none⟩ = some (.int .u8 x1) := bkeep l1 q1; have r2 : w1.drew.cell? ⟨w.heap.size, 2, none⟩ = some (.int .u8 x2) := bkeep l1 q2; have Q0 := And.intro r0 (And.intro r1 r2); clear l1; go_wp2_with fail; go_region_held3 (fun w' => w'.cell? ⟨w.heap.size, 0, none⟩ = some (.int .u8 x0) ∧ w'.cell? ⟨w.heap.size, 1, none⟩ = some (.int .u8 x1) ∧ w'.cell? ⟨w.heap.size, 2, none⟩ = some (.int .u8 x2)) (with_reducible exact Q0) (fail); go_wp2_with fail
          refine (bef_r _ a n cap l HE1.out hn6 x0 x0 _ HBaa.out).mono ?_; rintro e w2 ⟨rfl, l2⟩; have HE2 := Lib.hid (HE1.out.below l2); have LL2 := Lib.hid (btrans LL1.out (Nat.le_refl _) l2); clear l2; go_wp2_with fail
          refine (bef_r _ a n cap l HE2.out hn6 x0 x1 _ HBab.out).mono ?_; rintro e w3 ⟨rfl, l3⟩; have HE3 := Lib.hid (HE2.out.below l3); have LL3 := Lib.hid (btrans LL2.out (Nat.le_refl _) l3); clear l3; go_wp2_with fail
          refine (bef_r _ a n cap l HE3.out hn6 x1 x0 _ HBba.out).mono ?_; rintro e w4 ⟨rfl, l4⟩; have HE4 := Lib.hid (HE3.out.below l4); have LL4 := Lib.hid (btrans LL3.out (Nat.le_refl _) l4); clear l4; go_wp2_with fail
          refine (live_any _).mono ?_; rintro e w5 ⟨rfl, l5⟩; have HE5 := Lib.hid (HE4.out.below l5); have LL5 := Lib.hid (btrans LL4.out (Nat.le_refl _) l5); clear l5; go_wp2_with fail
          refine (bef_r _ a n cap l HE5.out hn6 x0 x1 _ HBab.out).mono ?_; rintro e w6 ⟨rfl, l6⟩; have HE6 := Lib.hid (HE5.out.below l6); have LL6 := Lib.hid (btrans LL5.out (Nat.le_refl _) l6); clear l6; go_wp2_with fail
          refine (bef_r _ a n cap l HE6.out hn6 x1 x2 _ HBbc.out).mono ?_; rintro e w7 ⟨rfl, l7⟩; have HE7 := Lib.hid (HE6.out.below l7); have LL7 := Lib.hid (btrans LL6.out (Nat.le_refl _) l7); clear l7; go_wp2_with fail
          refine (bef_r _ a n cap l HE7.out hn6 x0 x2 _ HBac.out).mono ?_; rintro e w8 ⟨rfl, l8⟩; have HE8 := Lib.hid (HE7.out.below l8); have LL8 := Lib.hid (btrans LL7.out (Nat.le_refl _) l8); clear l8; go_wp2_with fail
          go_ret
          exact ⟨rfl, LL8.out⟩
    exact hrest
end Go.Proofs.Ytfpiecnbnoinnaa.His
