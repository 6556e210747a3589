/- Right values by bits; the right one that a value counts as. -/
import Derived.Test.YtgjemjogncnbnaaChecked
import Derived.Test.YtgjemjogncnbnaaLib
import Derived.Laws.BitsAllLaws
import Derived.Laws.Externs
namespace Go.Proofs.Ytgjemjogncnbnaa
open Go.RowKit
set_option linter.unusedSimpArgs false
set_option linter.unusedVariables false
set_option maxRecDepth 50000

def rightVal (v : Int) : Bool := decide (v % 9223372036854775808 ≤ 9218868437227405312) || (v == 9221120237041090560)
def canonVal (v : Int) : Int := if rightVal v then v else 9221120237041090560
theorem canon_right (v : Int) : rightVal (canonVal v) = true := by
  unfold canonVal
  split
  · assumption
  · decide
theorem canon_of {v : Int} (h : rightVal v = true) : canonVal v = v := by unfold canonVal; rw [if_pos h]
theorem canon_u64 {v : Int} (h : 0 ≤ v ∧ v < 18446744073709551616) : 0 ≤ canonVal v ∧ canonVal v < 18446744073709551616 := by
  unfold canonVal
  split
  · exact h
  · decide
theorem andNot_sign (v : Int) (h : 0 ≤ v ∧ v < 18446744073709551616) : bits .andNot .u64 v 9223372036854775808 = v % 9223372036854775808 := by
  rw [u64_andNot v _ h.1 h.2 (by decide) (by decide)]
  obtain ⟨V, rfl⟩ := Int.eq_ofNat_of_zero_le h.1
  have : V &&& (18446744073709551615 - (9223372036854775808 : Int).toNat) = V % 9223372036854775808 := by
    show V &&& (2 ^ 63 - 1) = V % 2 ^ 63
    exact Nat.and_two_pow_sub_one_eq_mod V 63
  rw [Int.toNat_natCast, this]
  simp
theorem vRight_any (w : World) (v : Int) (h : 0 ≤ v ∧ v < 18446744073709551616) : Calls Try.prog 14 #[.int .u64 v] w fun e w' => e = .returned (.bool (rightVal v)) ∧ w = w' := by
  have hb := andNot_sign v h
  unfold rightVal
  by_cases h1 : v % 9223372036854775808 ≤ 9218868437227405312
  · have hd : decide (v % 9223372036854775808 ≤ 9218868437227405312) = true := by simpa using h1
    rw [hd]
    clear h1 h
    go_enter Try.func14, Try.ntmps14
    go_wp2_with fail
    go_ret
    exact ⟨rfl, rfl⟩
  · have hd : decide (v % 9223372036854775808 ≤ 9218868437227405312) = false := by simpa using h1
    rw [hd]
    clear h1 h
    go_enter Try.func14, Try.ntmps14
    go_wp2_with fail
    go_ret
    exact ⟨rfl, rfl⟩
theorem vCanon_any (w : World) (v : Int) (h : 0 ≤ v ∧ v < 18446744073709551616) : Calls Try.prog 56 #[.int .u64 v] w fun e w' => e = .returned (.int .u64 (canonVal v)) ∧ w = w' := by
  have hR := vRight_any w v h
  unfold canonVal
  cases hr : rightVal v
  all_goals
    rw [hr] at hR
    have HR := Lib.hid hR
    clear hR hr
    go_enter Try.func56, Try.ntmps56
    go_wp2_with fail; refine (HR.out).mono ?_; rintro e w0 ⟨rfl, rfl⟩
    go_wp2_with fail
    go_ret
    exact ⟨rfl, rfl⟩
theorem vSame_any (w : World) (a b : Int) (ha : 0 ≤ a ∧ a < 18446744073709551616) (hb : 0 ≤ b ∧ b < 18446744073709551616) : Calls Try.prog 36 #[.int .u64 a, .int .u64 b] w fun e w' => e = .returned (.bool (canonVal a == canonVal b)) ∧ w = w' := by
  have HA := Lib.hid (vCanon_any w a ha); have HB := Lib.hid (vCanon_any w b hb)
  clear ha hb
  generalize canonVal a = x at *
  generalize canonVal b = y at *
  go_enter Try.func36, Try.ntmps36
  go_wp2_with fail; refine (HA.out).mono ?_; rintro e w0 ⟨rfl, rfl⟩
  go_wp2_with fail; refine (HB.out).mono ?_; rintro e w0 ⟨rfl, rfl⟩
  go_wp2_with fail
  go_ret
  exact ⟨rfl, rfl⟩
end Go.Proofs.Ytgjemjogncnbnaa
