/- The functions of package lockword. -/
import Derived.Test.YtboofagdcohgnaaLkwC
namespace Go.Proofs.Ytboofagdcohgnaa.Lkw
open Go.RowKit
set_option linter.unusedSimpArgs false
set_option linter.unusedVariables false
set_option maxRecDepth 50000

theorem free_any (w : World) (v : Int) (hv : 0 ≤ v) : Calls Try.prog 32 #[.int .u64 v] w fun e w' => e = .returned (.tuple #[.int .u64 (saidV (-1) v).1, .int .i64 (saidV (-1) v).2]) ∧ Below w.heap.size w w' := by
  have HS := Lib.hid (fun W => said_any W (-1) v hv)
  generalize saidV (-1) v = r at *
  obtain ⟨r1, r2⟩ := r
  go_enter Try.func32, Try.ntmps32
  go_wp2_with fail
  refine (HS.out w).mono ?_
  rintro e w1 ⟨rfl, l1⟩
  have L1 := Lib.hid l1; clear l1
  go_wp2_with fail
  go_ret2
  exact ⟨rfl, L1.out⟩
def heldV (o v : Int) : Int × Int := if 0 ≤ o ∧ o < 4 then saidV o v else (0, 2)
def readV (x : Int) : Int × Int × Int := match saysV x with | some (o, v) => (o, v, 0) | none => (0, 0, 3)
theorem read_any (w : World) (x : Int) (hx : 0 ≤ x ∧ x < 18446744073709551616) : Calls Try.prog 34 #[.int .u64 x] w fun e w' =>
    e = .returned (.tuple #[.int .i64 (readV x).1, .int .u64 (readV x).2.1, .int .i64 (readV x).2.2]) ∧ Below w.heap.size w w' := by
  have HS := Lib.hid (split_any w x hx)
  go_enter Try.func34, Try.ntmps34
  go_wp2_with fail
  refine HS.out.mono ?_
  rintro e w1 ⟨o, v, rfl, hp, l1⟩
  have L1 := Lib.hid l1; clear l1
  have HP := Lib.hid hp; clear hp HS
  cases hs : saysV x with
  | none =>
    have hr : readV x = (0, 0, 3) := by simp [readV, hs]
    have HR := Lib.hid hr; clear hr hs
    simp only [Option.isSome_none, Option.isSome_some]
    go_wp2_with fail
    go_ret3
    exact ⟨by rw [HR.out]; rfl, btrans L1.out (Nat.le_refl _) (by repeat (first | (with_reducible exact Below.refl _ _) | (with_reducible apply Below.drew) | (with_reducible refine below_drewN ?_ _) | (with_reducible refine below_alloc' ?_ ?_ _; (focus ((try simp) <;> omega))) | (with_reducible refine below_set' ?_ ?_ _; (focus ((try simp) <;> omega)))))⟩
  | some p =>
    have hpp := HP.out p hs
    subst hpp
    have hr : readV x = (o, v, 0) := by simp [readV, hs]
    have HR := Lib.hid hr; clear hr hs
    simp only [Option.isSome_none, Option.isSome_some]
    go_wp2_with fail
    go_quiet (fail)
    go_wp2_with fail
    go_ret3
    exact ⟨by rw [HR.out]; rfl, btrans L1.out (Nat.le_refl _) (by repeat (first | (with_reducible exact Below.refl _ _) | (with_reducible apply Below.drew) | (with_reducible refine below_drewN ?_ _) | (with_reducible refine below_alloc' ?_ ?_ _; (focus ((try simp) <;> omega))) | (with_reducible refine below_set' ?_ ?_ _; (focus ((try simp) <;> omega)))))⟩
def nextV (v : Int) : Int × Int := if 1099511627776 < v then (0, 2) else if v = 1099511627776 then (0, 4) else (v + 1, 0)
theorem next_any (w : World) (v : Int) (hv : 0 ≤ v) : Calls Try.prog 29 #[.int .u64 v] w fun e w' => e = .returned (.tuple #[.int .u64 (nextV v).1, .int .i64 (nextV v).2]) ∧ w = w' := by
  by_cases h : 1099511627776 < v
  · have hd : decide (1099511627776 < v) = true := by simpa using h
    go_enter Try.func29, Try.ntmps29
    go_wp2
    go_ret2
    exact ⟨by simp [nextV, h], rfl⟩
  · have hd : decide (1099511627776 < v) = false := by simpa using h
    by_cases h2 : v = 1099511627776
    · subst h2
      go_enter Try.func29, Try.ntmps29
      go_wp2
      go_ret2
      exact ⟨by simp [nextV], rfl⟩
    · have hq : (v == 1099511627776) = false := by simpa using h2
      have hw : IntKind.u64.wrap (v + 1) = v + 1 := by rw [IntKind.wrap_u64]; omega
      go_enter Try.func29, Try.ntmps29
      go_wp2
      go_ret2
      have hn : nextV v = (v + 1, 0) := by rw [nextV, if_neg (by omega), if_neg h2]
      exact ⟨by rw [hn]; rfl, rfl⟩
end Go.Proofs.Ytboofagdcohgnaa.Lkw
