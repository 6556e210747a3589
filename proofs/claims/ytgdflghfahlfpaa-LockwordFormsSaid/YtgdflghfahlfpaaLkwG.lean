/- The other side's functions, by its Read. -/
import Derived.Test.YtgdflghfahlfpaaLkwF
namespace Go.Proofs.Ytgdflghfahlfpaa.Lkw
open Go.RowKit
set_option linter.unusedSimpArgs false
set_option linter.unusedVariables false

theorem readV_e (x : Int) : ((readV x).2.2 == 0) = (saysV x).isSome := by
  unfold readV
  cases saysV x with
  | none => rfl
  | some p => rfl
theorem rrightw_any (w : World) (x : Int) (hx : 0 ≤ x ∧ x < 18446744073709551616) : Calls Try.prog 16 #[.int .u64 x] w fun e w' => e = .returned (.bool (saysV x).isSome) ∧ w = w' := by
  have HS := Lib.hid (rread_any w x hx)
  have HE := Lib.hid (readV_e x)
  go_enter Try.func16, Try.ntmps16
  go_wp2_with fail
  refine HS.out.mono ?_
  rintro e w1 ⟨rfl, rfl⟩
  go_wp2_with fail
  go_ret
  exact ⟨by rw [← HE.out]; rfl, rfl⟩
theorem rnext_any (w : World) (v : Int) (hv : 0 ≤ v) : Calls Try.prog 25 #[.int .u64 v] w fun e w' => e = .returned (.tuple #[.int .u64 (nextV v).1, .int .i64 (nextV v).2]) ∧ w = w' := by
  by_cases h : 1099511627776 < v
  · have hd : decide (1099511627776 < v) = true := by simpa using h
    go_enter Try.func25, Try.ntmps25
    go_wp2
    go_ret2
    exact ⟨by simp [nextV, h], rfl⟩
  · have hd : decide (1099511627776 < v) = false := by simpa using h
    by_cases h2 : v = 1099511627776
    · subst h2
      go_enter Try.func25, Try.ntmps25
      go_wp2
      go_ret2
      exact ⟨by simp [nextV], rfl⟩
    · have hq : (v == 1099511627776) = false := by simpa using h2
      have hw : IntKind.u64.wrap (v + 1) = v + 1 := by rw [IntKind.wrap_u64]; omega
      go_enter Try.func25, Try.ntmps25
      go_wp2
      go_ret2
      have hn : nextV v = (v + 1, 0) := by rw [nextV, if_neg (by omega), if_neg h2]
      exact ⟨by rw [hn]; rfl, rfl⟩
end Go.Proofs.Ytgdflghfahlfpaa.Lkw
