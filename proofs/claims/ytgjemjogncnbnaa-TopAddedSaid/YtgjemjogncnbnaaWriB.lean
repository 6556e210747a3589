/- Right values, by bits and by the document. -/
import Derived.Test.YtgjemjogncnbnaaWriA
import Derived.Laws.BitsAllLaws
import Derived.Laws.Externs
namespace Go.Proofs.Ytgjemjogncnbnaa.Wri
open Go.RowKit
set_option linter.unusedSimpArgs false
set_option linter.unusedVariables false
set_option maxRecDepth 50000

def rightVal (v : Int) : Bool := decide (v % 9223372036854775808 ≤ 9218868437227405312) || (v == 9221120237041090560)
theorem andNot_sign (v : Int) (h : 0 ≤ v ∧ v < 18446744073709551616) : bits .andNot .u64 v 9223372036854775808 = v % 9223372036854775808 := by
  rw [u64_andNot v _ h.1 h.2 (by decide) (by decide)]
  obtain ⟨V, rfl⟩ := Int.eq_ofNat_of_zero_le h.1
  have : V &&& (18446744073709551615 - (9223372036854775808 : Int).toNat) = V % 9223372036854775808 := by
    show V &&& (2 ^ 63 - 1) = V % 2 ^ 63
    exact Nat.and_two_pow_sub_one_eq_mod V 63
  rw [Int.toNat_natCast, this]
  simp
theorem vRight_any (w : World) (v : Int) (h : 0 ≤ v ∧ v < 18446744073709551616) : Calls Try.prog 14 #[.int .u64 v] w fun e w' => e = .returned (.bool (rightVal v)) ∧ w = w' := by
  have hb := andNot_sign v h
  unfold rightVal
  by_cases h1 : v % 9223372036854775808 ≤ 9218868437227405312
  · have hd : decide (v % 9223372036854775808 ≤ 9218868437227405312) = true := by simpa using h1
    rw [hd]
    clear h1 h
    go_enter Try.func14, Try.ntmps14
    go_wp2_with fail
    go_ret
    exact ⟨rfl, rfl⟩
  · have hd : decide (v % 9223372036854775808 ≤ 9218868437227405312) = false := by simpa using h1
    rw [hd]
    clear h1 h
    go_enter Try.func14, Try.ntmps14
    go_wp2_with fail
    go_ret
    exact ⟨rfl, rfl⟩
theorem order_self (x : Nat) : (Ieee.double.order x x == some Ordering.eq) = decide (x % 9223372036854775808 ≤ 9218868437227405312) := by
  have hs : Ieee.double.signWeight = 9223372036854775808 := by decide
  have hi : Ieee.double.infRung = 9218868437227405312 := by decide
  unfold Ieee.Format.order Ieee.Format.read
  simp only [hs, hi]
  by_cases h1 : x % 9223372036854775808 < Ieee.double.binade
  · have hb : Ieee.double.binade = 4503599627370496 := by decide
    rw [if_pos h1]
    have h2 : x % 9223372036854775808 ≤ 9218868437227405312 := by rw [hb] at h1; omega
    simp [Ieee.Datum.order, h2]
  · rw [if_neg h1]
    by_cases h2 : x % 9223372036854775808 < 9218868437227405312
    · rw [if_pos h2]
      have h3 : x % 9223372036854775808 ≤ 9218868437227405312 := by omega
      simp [Ieee.Datum.order, h3]
    · rw [if_neg h2]
      by_cases h3 : x % 9223372036854775808 = 9218868437227405312
      · rw [if_pos h3]
        have h4 : x % 9223372036854775808 ≤ 9218868437227405312 := by omega
        simp [Ieee.Datum.order, h4]
      · rw [if_neg h3]
        have h4 : ¬ x % 9223372036854775808 ≤ 9218868437227405312 := by omega
        simp [Ieee.Datum.order, h4]
end Go.Proofs.Ytgjemjogncnbnaa.Wri
