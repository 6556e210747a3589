/- The other side's functions. -/
import Derived.Test.YtgdflghfahlfpaaLkwE
namespace Go.Proofs.Ytgdflghfahlfpaa.Lkw
open Go.RowKit
set_option linter.unusedSimpArgs false
set_option linter.unusedVariables false

theorem rfree_any (w : World) (v : Int) (hv : 0 ≤ v) : Calls Try.prog 9 #[.int .u64 v] w fun e w' => e = .returned (.tuple #[.int .u64 (saidV (-1) v).1, .int .i64 (saidV (-1) v).2]) ∧ w = w' := by
  by_cases h : 1099511627776 < v
  · have hd : decide (1099511627776 < v) = true := by simpa using h
    have hs : saidV (-1) v = (0, 2) := by rw [saidV, if_neg]; simp [rightV]; omega
    go_enter Try.func9, Try.ntmps9
    go_wp2
    go_ret2
    exact ⟨by rw [hs]; rfl, rfl⟩
  · have hd : decide (1099511627776 < v) = false := by simpa using h
    have hs : saidV (-1) v = (v * 32, 0) := by rw [saidV, if_pos]; rfl; simp [rightV]; omega
    have hw : IntKind.u64.wrap (v * 32) = v * 32 := by rw [IntKind.wrap_u64]; omega
    have HS := Lib.hid hs; clear hs
    go_enter Try.func9, Try.ntmps9
    go_wp2
    go_ret2
    exact ⟨by rw [HS.out]; rfl, rfl⟩
theorem rowner_any (w : World) (n : Int) : Calls Try.prog 29 #[.int .i64 n] w fun e w' => e = .returned (.bool (decide (0 ≤ n ∧ n < 4))) ∧ w = w' := by
  by_cases h : 0 ≤ n
  · have h0 : decide (0 ≤ n) = true := by simpa using h
    go_enter Try.func29, Try.ntmps29
    go_wp2
    go_ret
    exact ⟨by simp [h], rfl⟩
  · have h0 : decide (0 ≤ n) = false := by simpa using h
    go_enter Try.func29, Try.ntmps29
    go_wp2
    go_ret
    exact ⟨by simp [h], rfl⟩
theorem rheld_any (w : World) (o v : Int) (hv : 0 ≤ v) : Calls Try.prog 11 #[.int .i64 o, .int .u64 v] w fun e w' => e = .returned (.tuple #[.int .u64 (heldV o v).1, .int .i64 (heldV o v).2]) ∧ w = w' := by
  by_cases h : 0 ≤ o ∧ o < 4
  · have hq : decide (0 ≤ o ∧ o < 4) = true := by simpa using h
    obtain ⟨g1, g2⟩ := h
    by_cases h1 : 1099511627776 < v
    · have hd : decide (1099511627776 < v) = true := by simpa using h1
      have hs : heldV o v = (0, 2) := by rw [heldV, if_pos ⟨g1, g2⟩, saidV, if_neg]; simp [rightV]; omega
      have HS := Lib.hid hs; clear hs
      go_enter Try.func11, Try.ntmps11
      go_wp2_with fail
      refine (rowner_any w o).mono ?_
      rintro e w1 ⟨rfl, rfl⟩
      rw [hq]
      go_wp2_with fail
      go_ret2
      exact ⟨by rw [HS.out]; rfl, rfl⟩
    · have hd : decide (1099511627776 < v) = false := by simpa using h1
      have hs : heldV o v = (v * 32 + o * 2 + 1, 0) := by
        rw [heldV, if_pos ⟨g1, g2⟩, saidV, if_pos (by simp [rightV]; omega), wordV, if_neg (by omega)]
      have HS := Lib.hid hs; clear hs
      have w1 : IntKind.u64.wrap (v * 32) = v * 32 := by rw [IntKind.wrap_u64]; omega
      have w2 : IntKind.u64.wrap o = o := by rw [IntKind.wrap_u64]; omega
      have w3 : IntKind.u64.wrap (o * 2) = o * 2 := by rw [IntKind.wrap_u64]; omega
      have w4 : IntKind.u64.wrap (v * 32 + o * 2) = v * 32 + o * 2 := by rw [IntKind.wrap_u64]; omega
      have w5 : IntKind.u64.wrap (v * 32 + o * 2 + 1) = v * 32 + o * 2 + 1 := by rw [IntKind.wrap_u64]; omega
      go_enter Try.func11, Try.ntmps11
      go_wp2_with fail
      refine (rowner_any w o).mono ?_
      rintro e w1 ⟨rfl, rfl⟩
      rw [hq]
      go_wp2_with fail
      go_ret2
      exact ⟨by rw [HS.out]; rfl, rfl⟩
  · have hq : decide (0 ≤ o ∧ o < 4) = false := by simpa using h
    have hs : heldV o v = (0, 2) := by rw [heldV, if_neg h]
    have HS := Lib.hid hs; clear hs h
    go_enter Try.func11, Try.ntmps11
    go_wp2_with fail
    refine (rowner_any w o).mono ?_
    rintro e w1 ⟨rfl, rfl⟩
    rw [hq]
    go_wp2_with fail
    go_ret2
    exact ⟨by rw [HS.out]; rfl, rfl⟩
theorem rread_any (w : World) (x : Int) (hx : 0 ≤ x ∧ x < 18446744073709551616) : Calls Try.prog 13 #[.int .u64 x] w fun e w' =>
    e = .returned (.tuple #[.int .i64 (readV x).1, .int .u64 (readV x).2.1, .int .i64 (readV x).2.2]) ∧ w = w' := by
  have hx0 := hx.1
  by_cases h1 : 1099511627776 < x / 32
  · have hd : decide (1099511627776 < x / 32) = true := by simpa using h1
    have hr : readV x = (0, 0, 3) := by rw [readV, saysV, if_neg (by omega)]
    have HR := Lib.hid hr; clear hr h1
    go_enter Try.func13, Try.ntmps13
    go_wp2_with fail
    go_ret3
    exact ⟨by rw [HR.out]; rfl, rfl⟩
  · have hd : decide (1099511627776 < x / 32) = false := by simpa using h1
    by_cases h2 : x % 32 = 0
    · have hq : (x % 32 == 0) = true := by simpa using h2
      have hr : readV x = (-1, x / 32, 0) := by rw [readV, saysV, if_pos (by omega), if_pos h2]
      have HR := Lib.hid hr; clear hr h1 h2
      go_enter Try.func13, Try.ntmps13
      go_wp2_with fail
      go_ret3
      exact ⟨by rw [HR.out]; rfl, rfl⟩
    · have hq : (x % 32 == 0) = false := by simpa using h2
      have H1 := Lib.hid h1; have H2 := Lib.hid h2; clear h1 h2
      go_enter Try.func13, Try.ntmps13
      go_wp2_with fail
      go_loopw [6] (fun i wr => ∃ k : Nat, i = .int .i64 k ∧ k ≤ 4 ∧ wr = w ∧ ∀ j : Nat, j < k → x / 32 * 32 + (j : Int) * 2 + 1 ≠ x) (fun i _ => 4 - (intOf i).toNat)
      case atStart => exact ⟨0, rfl, by decide, rfl, fun j hj => by omega⟩
      case round =>
        obtain ⟨k, rfl, hk, rfl, hall⟩ := hrel
        have HA := Lib.hid hall; clear hall
        by_cases hk4 : k < 4
        · have hh : heldV k (wr |> fun _ => x / 32) = (x / 32 * 32 + k * 2 + 1, 0) := by
            have := H1.out
            rw [heldV, if_pos ⟨by omega, by omega⟩, saidV, if_pos (by simp [rightV]; omega), wordV, if_neg (by omega)]
          simp only at hh
          have HH := Lib.hid (rheld_any wr k (x / 32) (by omega))
          rw [hh] at HH
          clear hh
          by_cases he : x / 32 * 32 + (k : Int) * 2 + 1 = x
          · have hq2 : (x / 32 * 32 + (k : Int) * 2 + 1 == x) = true := by simpa using he
            have hr : readV x = ((k : Int), x / 32, 0) := by
              have := H1.out
              rw [readV, saysV, if_pos (by omega), if_neg H2.out, if_pos ⟨by omega, by omega⟩, show x / 2 % 16 = (k : Int) by omega]
            have HR := Lib.hid hr; clear hr he
            go_wp2_with fail
            refine HH.out.mono ?_
            rintro e w1 ⟨rfl, rfl⟩
            go_wp2_with fail
            go_ret3
            exact ⟨by rw [HR.out]; rfl, rfl⟩
          · have hq2 : (x / 32 * 32 + (k : Int) * 2 + 1 == x) = false := by simpa using he
            have HNE := Lib.hid he; clear he
            go_wp2_with fail
            refine HH.out.mono ?_
            rintro e w1 ⟨rfl, rfl⟩
            go_wp2_with fail
            refine ⟨⟨k + 1, by go_num, by omega, by first | rfl | trivial, fun j hj => ?_⟩, by simp [intOf]; omega⟩
            rcases Nat.lt_succ_iff_lt_or_eq.1 hj with h | rfl
            · exact HA.out j h
            · exact HNE.out
        · have hr : readV x = (0, 0, 3) := by
            have e0 := HA.out 0 (by omega); have e1 := HA.out 1 (by omega); have e2 := HA.out 2 (by omega); have e3 := HA.out 3 (by omega)
            have := H1.out
            rw [readV, saysV, if_pos (by omega), if_neg H2.out, if_neg (by omega)]
          have HR := Lib.hid hr; clear hr
          go_wp2_with fail
          go_ret3
          exact ⟨by rw [HR.out]; rfl, rfl⟩
end Go.Proofs.Ytgdflghfahlfpaa.Lkw
