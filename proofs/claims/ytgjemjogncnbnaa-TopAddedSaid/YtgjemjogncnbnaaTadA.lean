/- Small whole numbers as values; adding one. -/
import Derived.Test.YtgjemjogncnbnaaWriB
import Derived.Test.YtgjemjogncnbnaaRws
import Derived.Laws.FloatArith
namespace Go.Proofs.Ytgjemjogncnbnaa.Tad
open Go.RowKit
set_option linter.unusedSimpArgs false
set_option linter.unusedVariables false
set_option maxRecDepth 50000

/-- a whole number's bits -/
def fI (n : Nat) : Nat := floatOfInt .f64 (n : Int)
set_option maxRecDepth 100000 in
theorem fI_add : ∀ n, n < 160 → floatBits .add .f64 (fI n) 4607182418800017408 = some (fI (n + 1)) := by decide +kernel
set_option maxRecDepth 100000 in
theorem fI_right : ∀ n, n < 161 → Wri.rightVal (fI n : Int) = true := by decide +kernel
set_option maxRecDepth 100000 in
theorem fI_u64 : ∀ n, n < 161 → fI n < 18446744073709551616 := by decide +kernel
theorem fI_zero : fI 0 = 0 := by decide +kernel
set_option maxRecDepth 100000 in
theorem fI_inj : ∀ n, n < 161 → ∀ m, m < 161 → fI n = fI m → n = m := by decide +kernel
theorem canon_any (w : World) (v : Int) (h : 0 ≤ v ∧ v < 18446744073709551616) (hr : Wri.rightVal v = true) : Calls Try.prog 56 #[.int .u64 v] w fun e w' => e = .returned (.int .u64 v) ∧ w = w' := by
  have HV := Lib.hid (Wri.vRight_any w v h)
  rw [hr] at HV
  clear h hr
  go_enter Try.func56, Try.ntmps56
  go_wp2_with fail
  refine HV.out.mono ?_
  rintro e w1 ⟨rfl, rfl⟩
  go_wp2_with fail
  go_ret
  exact ⟨rfl, rfl⟩
theorem float_any (w : World) (v : Int) (h : 0 ≤ v ∧ v < 18446744073709551616) (hr : Wri.rightVal v = true) : Calls Try.prog 31 #[.int .u64 v] w fun e w' => e = .returned (.float .f64 v.toNat) ∧ w = w' := by
  have HV := Lib.hid (canon_any w v h hr)
  have hfb : ∀ W : World, (callFunc 58 #[.int .u64 v]).run Try.prog W = .ok (.value (.float .f64 v.toNat)) W := fun W => by kernel_rfl
  clear h hr
  go_enter Try.func31, Try.ntmps31
  go_wp2_with fail
  refine HV.out.mono ?_
  rintro e w1 ⟨rfl, rfl⟩
  go_wp2_with fail
  go_ret
  exact ⟨rfl, rfl⟩
theorem of_any (w : World) (b : Nat) (h : b < 18446744073709551616) (hr : Wri.rightVal (b : Int) = true) : Calls Try.prog 30 #[.float .f64 b] w fun e w' => e = .returned (.int .u64 b) ∧ w = w' := by
  have HV := Lib.hid (canon_any w b ⟨by omega, by omega⟩ hr)
  have hfb : ∀ W : World, (callFunc 57 #[.float .f64 b]).run Try.prog W = .ok (.value (.int .u64 b)) W := fun W => by kernel_rfl
  clear h hr
  go_enter Try.func30, Try.ntmps30
  go_wp2_with fail
  refine HV.out.mono ?_
  rintro e w1 ⟨rfl, rfl⟩
  go_wp2_with fail
  go_ret
  exact ⟨rfl, rfl⟩
theorem add_any (w : World) (n : Nat) (hn : n < 160) : Calls Try.prog 9 #[.int .u64 (fI n : Nat), .int .u64 4607182418800017408] w fun e w' => e = .returned (.int .u64 (fI (n + 1) : Nat)) ∧ w = w' := by
  have h1 := fI_u64 n (by omega)
  have HA := Lib.hid (float_any w (fI n : Nat) ⟨by omega, by omega⟩ (fI_right n (by omega)))
  have HB := Lib.hid (float_any w 4607182418800017408 ⟨by omega, by omega⟩ (by decide))
  have HO := Lib.hid (of_any w (fI (n + 1)) (fI_u64 (n + 1) (by omega)) (fI_right (n + 1) (by omega)))
  have hb := fI_add n hn
  have hadd : ∀ W : World, (binOp .add 82 (.float .f64 (fI n)) (.float .f64 4607182418800017408)).run Try.prog W = .ok (.float .f64 (fI (n + 1))) W := fun W => by first | exact run_float_arith _ _ _ _ _ _ _ hb | exact run_float_arith _ _ _ _ _ _ _ _ hb | exact run_float_arith _ _ _ _ _ hb
  clear h1 hn hb
  generalize fI n = x at *
  generalize fI (n + 1) = y at *
  go_enter Try.func9, Try.ntmps9
  go_wp2_with fail
  refine HA.out.mono ?_
  rintro e w1 ⟨rfl, rfl⟩
  go_wp2_with fail
  refine HB.out.mono ?_
  rintro e w1 ⟨rfl, rfl⟩
  simp only [Int.toNat_natCast]
  go_wp2_with fail
  refine HO.out.mono ?_
  rintro e w1 ⟨rfl, rfl⟩
  go_wp2_with fail
  go_ret
  exact ⟨rfl, rfl⟩
theorem int_any (w : World) (n : Nat) (hn : n < 160) : Calls Try.prog 11 #[.int .i64 n] w fun e w' => e = .returned (.tuple #[.int .u64 (fI n : Nat), .bool true]) ∧ w = w' := by
  have HO := Lib.hid (of_any w (fI n) (fI_u64 n (by omega)) (fI_right n (by omega)))
  have h1 : ¬ (n : Int) < -9007199254740992 := by omega
  have h2 : ¬ (9007199254740992 : Int) < n := by omega
  go_enter Try.func11, Try.ntmps11
  go_wp2_with fail
  refine HO.out.mono ?_
  rintro e w1 ⟨rfl, rfl⟩
  go_wp2_with fail
  refine bodyPost_ret (v := .tuple #[.int .u64 (fI n : Nat), .bool true]) ?_ rfl ?_; (focus (simp [results, Try.results11, go_sem, Nat.zero_le]; done))
  exact ⟨rfl, rfl⟩
theorem same_any (w : World) (a b : Int) (ha : 0 ≤ a ∧ a < 18446744073709551616) (hb : 0 ≤ b ∧ b < 18446744073709551616) (hra : Wri.rightVal a = true) (hrb : Wri.rightVal b = true) :
    Calls Try.prog 36 #[.int .u64 a, .int .u64 b] w fun e w' => e = .returned (.bool (a == b)) ∧ w = w' := by
  have HA := Lib.hid (canon_any w a ha hra)
  have HB := Lib.hid (canon_any w b hb hrb)
  clear ha hb hra hrb
  go_enter Try.func36, Try.ntmps36
  go_wp2_with fail
  refine HA.out.mono ?_
  rintro e w1 ⟨rfl, rfl⟩
  go_wp2_with fail
  refine HB.out.mono ?_
  rintro e w1 ⟨rfl, rfl⟩
  go_wp2_with fail
  go_ret
  exact ⟨rfl, rfl⟩
end Go.Proofs.Ytgjemjogncnbnaa.Tad
