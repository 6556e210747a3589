/- The statement: nil lists answer so. -/
import Derived.Test.YtddcpehncbcliaaWaiZ
namespace Go.Proofs.Ytddcpehncbcliaa.Wai
open Go.RowKit
set_option linter.unusedSimpArgs false
set_option linter.unusedVariables false

theorem get_nil (w : World) (th : Int) : Calls Try.prog 30 #[.pointer none, .int .i64 th] w fun e w' => e = .returned (.tuple #[.agg #[.int .u32 0, .bool false], .bool false, .int .i64 1]) ∧ Below w.heap.size w w' := by
  go_enter Try.func30, Try.ntmps30
  go_wp2_with fail
  refine bodyPost_ret (v := .tuple #[.agg #[.int .u32 0, .bool false], .bool false, .int .i64 1]) ?_ rfl ?_; (focus (simp [results, Try.results30, go_sem, Nat.le_refl]; done))
  exact ⟨rfl, by repeat (first | (with_reducible exact Below.refl _ _) | (with_reducible apply Below.drew) | (with_reducible refine below_drewN ?_ _) | (with_reducible refine below_alloc' ?_ ?_ _; (focus ((try simp) <;> omega))) | (with_reducible refine below_set' ?_ ?_ _; (focus ((try simp) <;> omega))))⟩
theorem reg_nil (w : World) (th : Int) (v : Value) : Calls Try.prog 20 #[.pointer none, .int .i64 th, v] w fun e w' => e = .returned (.int .i64 1) ∧ Below w.heap.size w w' := by
  go_enter Try.func20, Try.ntmps20
  go_wp2_with fail; refine (get_nil _ th).mono ?_; rintro e w1 ⟨rfl, l1⟩; have L1 := Lib.hid l1; clear l1
  go_wp2_with fail
  go_ret
  exact ⟨rfl, btrans L1.out (Nat.le_refl _) (by repeat (first | (with_reducible exact Below.refl _ _) | (with_reducible apply Below.drew) | (with_reducible refine below_drewN ?_ _) | (with_reducible refine below_alloc' ?_ ?_ _; (focus ((try simp) <;> omega))) | (with_reducible refine below_set' ?_ ?_ _; (focus ((try simp) <;> omega)))))⟩
theorem sleep_nil (w : World) (th : Int) : Calls Try.prog 26 #[.pointer none, .int .i64 th] w fun e w' => e = .returned (.int .i64 1) ∧ Below w.heap.size w w' := by
  go_enter Try.func26, Try.ntmps26
  go_wp2_with fail; refine (get_nil _ th).mono ?_; rintro e w1 ⟨rfl, l1⟩; have L1 := Lib.hid l1; clear l1
  go_wp2_with fail
  go_ret
  exact ⟨rfl, btrans L1.out (Nat.le_refl _) (by repeat (first | (with_reducible exact Below.refl _ _) | (with_reducible apply Below.drew) | (with_reducible refine below_drewN ?_ _) | (with_reducible refine below_alloc' ?_ ?_ _; (focus ((try simp) <;> omega))) | (with_reducible refine below_set' ?_ ?_ _; (focus ((try simp) <;> omega)))))⟩
theorem canc_nil (w : World) (th : Int) : Calls Try.prog 21 #[.pointer none, .int .i64 th] w fun e w' => e = .returned (.int .i64 1) ∧ Below w.heap.size w w' := by
  go_enter Try.func21, Try.ntmps21
  go_wp2_with fail; refine (get_nil _ th).mono ?_; rintro e w1 ⟨rfl, l1⟩; have L1 := Lib.hid l1; clear l1
  go_wp2_with fail
  go_ret
  exact ⟨rfl, btrans L1.out (Nat.le_refl _) (by repeat (first | (with_reducible exact Below.refl _ _) | (with_reducible apply Below.drew) | (with_reducible refine below_drewN ?_ _) | (with_reducible refine below_alloc' ?_ ?_ _; (focus ((try simp) <;> omega))) | (with_reducible refine below_set' ?_ ?_ _; (focus ((try simp) <;> omega)))))⟩
theorem wake_nil (w : World) (v : Value) : Calls Try.prog 17 #[.pointer none, v] w fun e w' => e = .returned (.slice none 0 0) ∧ w = w' := by
  go_enter Try.func17, Try.ntmps17
  go_wp2_with fail
  go_ret
  exact ⟨rfl, rfl⟩
theorem at_nil (w : World) (t : Int) : Calls Try.prog 19 #[.pointer none, .int .i64 t] w fun e w' => e = .returned (.slice none 0 0) ∧ w = w' := by
  go_enter Try.func19, Try.ntmps19
  go_wp2_with fail
  go_ret
  exact ⟨rfl, rfl⟩
theorem of_nil (w : World) (th : Int) : Calls Try.prog 15 #[.pointer none, .int .i64 th] w fun e w' => ∃ a c, e = .returned (.slice a 0 c) ∧ Below w.heap.size w w' := by
  go_enter Try.func15, Try.ntmps15
  go_wp2_with fail; refine (get_nil _ th).mono ?_; rintro e w1 ⟨rfl, l1⟩; have L1 := Lib.hid l1; clear l1
  go_wp2_with fail
  refine (list_any _ 0 (by decide)).mono ?_
  rintro e w2 ⟨v, rfl, i2, l2⟩
  obtain ⟨a, c, rfl, _⟩ := i2.open
  have L2 := Lib.hid l2
  rw [show bitsOf 0 12 = [] from by decide]
  clear i2 l2
  go_wp2_with fail
  go_ret
  exact ⟨a, c, rfl, btrans (btrans L1.out (Nat.le_refl _) (by repeat (first | (with_reducible exact Below.refl _ _) | (with_reducible apply Below.drew) | (with_reducible refine below_drewN ?_ _) | (with_reducible refine below_alloc' ?_ ?_ _; (focus ((try simp) <;> omega))) | (with_reducible refine below_set' ?_ ?_ _; (focus ((try simp) <;> omega)))))) (Nat.le_refl _) L2.out⟩
theorem asleep_nil (w : World) (th : Int) : Calls Try.prog 13 #[.pointer none, .int .i64 th] w fun e w' => e = .returned (.bool false) ∧ Below w.heap.size w w' := by
  go_enter Try.func13, Try.ntmps13
  go_wp2_with fail; refine (get_nil _ th).mono ?_; rintro e w1 ⟨rfl, l1⟩; have L1 := Lib.hid l1; clear l1
  go_wp2_with fail
  go_ret
  exact ⟨rfl, btrans L1.out (Nat.le_refl _) (by repeat (first | (with_reducible exact Below.refl _ _) | (with_reducible apply Below.drew) | (with_reducible refine below_drewN ?_ _) | (with_reducible refine below_alloc' ?_ ?_ _; (focus ((try simp) <;> omega))) | (with_reducible refine below_set' ?_ ?_ _; (focus ((try simp) <;> omega)))))⟩
theorem waiting_nil (w : World) : Calls Try.prog 12 #[.pointer none] w fun e w' => e = .returned (.slice none 0 0) ∧ w = w' := by
  go_enter Try.func12, Try.ntmps12
  go_wp2_with fail
  go_ret
  exact ⟨rfl, rfl⟩
theorem fork_nil (w : World) : Calls Try.prog 22 #[.pointer none] w fun e w' => e = .returned (.pointer none) ∧ w = w' := by
  go_enter Try.func22, Try.ntmps22
  go_wp2_with fail
  go_ret
  exact ⟨rfl, rfl⟩
set_option maxHeartbeats 1600000 in
theorem none_law {H : Type} (enc : TypeId × Value → H) (w : World) (c : Array Value) (h : Fits enc Try.prog w 47 c.toList) (t : Int) (_ : (Lit.int .i64 t).wf = true) :
    Calls Try.prog 8 #[.agg c, .int .i64 t] w fun e w' => e = .returned (.bool true) ∧ Below w.heap.size w w' := by
  obtain ⟨kd, th, ta, tm, tc, ts, he, hts, hmm, hmc⟩ := deed_of h
  obtain rfl : c = #[.int .i64 kd, .int .i64 th, .slice ta tm tc] := by rw [← Array.toList_inj, he]
  have lW : Below w.heap.size w (w.alloc (.cells #[.int .i64 kd, .int .i64 th, .slice ta tm tc] 47)) := by repeat (first | (with_reducible exact Below.refl _ _) | (with_reducible apply Below.drew) | (with_reducible refine below_drewN ?_ _) | (with_reducible refine below_alloc' ?_ ?_ _; (focus ((try simp) <;> omega))) | (with_reducible refine below_set' ?_ ?_ _; (focus ((try simp) <;> omega))))
  have hx := blk_new w (.cells #[.int .i64 kd, .int .i64 th, .slice ta tm tc] 47)
  have KO := Lib.hid (show ∀ w', Below (w.alloc (.cells #[.int .i64 kd, .int .i64 th, .slice ta tm tc] 47)).heap.size (w.alloc (.cells #[.int .i64 kd, .int .i64 th, .slice ta tm tc] 47)) w' → (w'.cell? ⟨w.heap.size, 1, none⟩ = some (.int .i64 th) ∧ w'.cell? ⟨w.heap.size, 2, none⟩ = some (.slice ta tm tc)) from fun w' l => by
    have x1 := blk_cell (bblk l hx) 1; have x2 := blk_cell (bblk l hx) 2
    exact ⟨x1, x2⟩)
  have L0 := Lib.hid lW
  have HA := Lib.hid hts.2
  obtain ⟨c1, c2⟩ := KO.out _ (Below.refl _ _)
  clear h he hx lW hts
  go_enter Try.func8, Try.ntmps8
  go_wp2_with fail
  generalize w.alloc (.cells #[.int .i64 kd, .int .i64 th, .slice ta tm tc] 47) = W at *
  have k0 : Below W.heap.size W W.drew := (Below.refl _ _).drew
  have Q0 := KO.out _ k0
  simp only [List.append]
  go_region_held3 (fun w' => w'.cell? ⟨w.heap.size, 1, none⟩ = some (.int .i64 th) ∧ w'.cell? ⟨w.heap.size, 2, none⟩ = some (.slice ta tm tc)) (first | (with_reducible exact Q0) | (with_reducible exact Q1) | (with_reducible exact Q2) | (with_reducible exact Q3) | (with_reducible exact Q4) | (with_reducible exact Q5) | (with_reducible exact Q6)) (first | (go_at_call 11; (with_reducible refine Calls.mono (live_any _) ?_); rintro e w1 ⟨rfl, l1⟩; have k1 := btrans k0 (Nat.le_refl _) l1; have Q1 := KO.out w1 k1) | (go_at_call 25; (with_reducible refine Calls.mono (few_det _ ta tm tc HA.out hmm hmc) ?_); rintro e w0 ⟨rfl, rfl⟩) | (go_at_call 20; (with_reducible refine Calls.mono (reg_nil _ th _) ?_); rintro e w2 ⟨rfl, l2⟩; have k2 := btrans k1 (Nat.le_refl _) l2; have Q2 := KO.out w2 k2) | (go_at_call 26; (with_reducible refine Calls.mono (sleep_nil _ th) ?_); rintro e w3 ⟨rfl, l3⟩; have k3 := btrans k2 (Nat.le_refl _) l3; have Q3 := KO.out w3 k3) | (go_at_call 21; (with_reducible refine Calls.mono (canc_nil _ th) ?_); rintro e w4 ⟨rfl, l4⟩; have k4 := btrans k3 (Nat.le_refl _) l4; have Q4 := KO.out w4 k4) | (go_at_call 17; (with_reducible refine Calls.mono (wake_nil _ _) ?_); rintro e w0 ⟨rfl, rfl⟩) | (go_at_call 19; (with_reducible refine Calls.mono (at_nil _ t) ?_); rintro e w0 ⟨rfl, rfl⟩) | (go_at_call 15; (with_reducible refine Calls.mono (of_nil _ th) ?_); rintro e w5 ⟨va, vc, rfl, l5⟩; have k5 := btrans k4 (Nat.le_refl _) l5; have Q5 := KO.out w5 k5) | (go_at_call 13; (with_reducible refine Calls.mono (asleep_nil _ th) ?_); rintro e w6 ⟨rfl, l6⟩; have k6 := btrans k5 (Nat.le_refl _) l6; have Q6 := KO.out w6 k6) | (go_at_call 12; (with_reducible refine Calls.mono (waiting_nil _) ?_); rintro e w0 ⟨rfl, rfl⟩) | (go_at_call 22; (with_reducible refine Calls.mono (fork_nil _) ?_); rintro e w0 ⟨rfl, rfl⟩))
  have K := Lib.hid k6
  clear Q0 Q1 Q2 Q3 Q4 Q5 Q6 k0 k1 k2 k3 k4 k5 k6 l1 l2 l3 l4 l5 l6
  go_wp2_with fail
  go_ret
  exact ⟨by simp, L0.out.trans (K.out.mono L0.out.size)⟩
end Go.Proofs.Ytddcpehncbcliaa.Wai
