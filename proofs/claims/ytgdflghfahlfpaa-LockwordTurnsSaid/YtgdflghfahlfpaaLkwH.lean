/- The other side's Lock, Unlock, Restore and Passes. -/
import Derived.Test.YtgdflghfahlfpaaLkwG
namespace Go.Proofs.Ytgdflghfahlfpaa.Lkw
open Go.RowKit
set_option linter.unusedSimpArgs false
set_option linter.unusedVariables false

theorem says_own {x o v : Int} (hx : 0 ≤ x) (h : saysV x = some (o, v)) : (o = -1 ∨ 0 ≤ o ∧ o < 4) ∧ 0 ≤ v ∧ v ≤ 1099511627776 := by
  unfold saysV at h
  split at h
  · split at h
    · injection h with h; injection h with h1 h2; omega
    · split at h
      · injection h with h; injection h with h1 h2; omega
      · cases h
  · cases h
theorem readV_none {x : Int} (h : saysV x = none) : readV x = (0, 0, 3) := by rw [readV, h]
theorem readV_some {x o v : Int} (h : saysV x = some (o, v)) : readV x = (o, v, 0) := by rw [readV, h]
theorem ofE_none {x n : Int} (h : saysV x = none) : ofE x n = 3 := by rw [ofE, h]
theorem ofE_some {x n o v : Int} (h : saysV x = some (o, v)) : ofE x n = if 0 ≤ n ∧ n < 4 then 0 else 2 := by rw [ofE, h]

theorem rlock_any (w : World) (x n : Int) (hx : 0 ≤ x ∧ x < 18446744073709551616) : Calls Try.prog 20 #[.int .u64 x, .int .i64 n] w fun e w' =>
    e = .returned (.tuple #[.int .u64 (lockV x n).1, .int .i64 (lockV x n).2]) ∧ w = w' := by
  have hR := rread_any w x hx
  cases hs : saysV x with
  | none =>
    rw [readV_none hs] at hR
    have hl : lockV x n = (0, 3) := by rw [lockV, ofE_none hs]; rfl
    have HL := Lib.hid hl; have HR := Lib.hid hR
    clear hl hR hs
    go_enter Try.func20, Try.ntmps20
    go_wp2_with fail
    refine HR.out.mono ?_
    rintro e w1 ⟨rfl, rfl⟩
    go_wp2_with fail
    go_ret2
    exact ⟨by rw [HL.out]; rfl, rfl⟩
  | some p =>
    obtain ⟨o, v⟩ := p
    obtain ⟨ho, hv⟩ := says_own hx.1 hs
    rw [readV_some hs] at hR
    have hl : lockV x n = if 0 ≤ n ∧ n < 4 then (if o = n then (0, 6) else if o ≠ -1 then (0, 7) else saidV n v) else (0, 2) := by
      by_cases h : 0 ≤ n ∧ n < 4
      · rw [lockV, ofE_some hs, if_pos h, if_pos h, hs]; rfl
      · rw [lockV, ofE_some hs, if_neg h, if_neg h, hs]; rfl
    have HL := Lib.hid hl; have HR := Lib.hid hR
    clear hl hR hs
    by_cases h : 0 ≤ n ∧ n < 4
    · have hq : decide (0 ≤ n ∧ n < 4) = true := by simpa using h
      have hl := HL.out
      rw [if_pos h] at hl
      by_cases h1 : o = n
      · have hq1 : (o == n) = true := by simpa using h1
        rw [if_pos h1] at hl
        have HL2 := Lib.hid hl; clear hl h1 h HL
        go_enter Try.func20, Try.ntmps20
        go_wp2_with fail
        refine HR.out.mono ?_
        rintro e w1 ⟨rfl, rfl⟩
        go_wp2_with fail
        refine (rowner_any w n).mono ?_
        rintro e w1 ⟨rfl, rfl⟩
        rw [hq]
        go_wp2_with fail
        go_ret2
        exact ⟨by rw [HL2.out]; rfl, rfl⟩
      · have hq1 : (o == n) = false := by simpa using h1
        rw [if_neg h1] at hl
        by_cases h2 : o = -1
        · have hq2 : decide (0 ≤ o) = false := by simp; omega
          rw [if_neg (by simpa using h2)] at hl
          have hh : heldV n v = saidV n v := if_pos h
          have hH := rheld_any w n v hv.1
          rw [hh, ← hl] at hH
          have HH := Lib.hid hH
          clear hl h1 h2 h HL hh hH
          generalize lockV x n = r at *
          obtain ⟨r1, r2⟩ := r
          go_enter Try.func20, Try.ntmps20
          go_wp2_with fail
          refine HR.out.mono ?_
          rintro e w1 ⟨rfl, rfl⟩
          go_wp2_with fail
          refine (rowner_any w n).mono ?_
          rintro e w1 ⟨rfl, rfl⟩
          rw [hq]
          go_wp2_with fail
          refine HH.out.mono ?_
          rintro e w1 ⟨rfl, rfl⟩
          go_wp2_with fail
          go_ret2
          exact ⟨rfl, rfl⟩
        · have hq2 : decide (0 ≤ o) = true := by simp; omega
          rw [if_pos h2] at hl
          have HL2 := Lib.hid hl; clear hl h1 h2 h HL
          go_enter Try.func20, Try.ntmps20
          go_wp2_with fail
          refine HR.out.mono ?_
          rintro e w1 ⟨rfl, rfl⟩
          go_wp2_with fail
          refine (rowner_any w n).mono ?_
          rintro e w1 ⟨rfl, rfl⟩
          rw [hq]
          go_wp2_with fail
          go_ret2
          exact ⟨by rw [HL2.out]; rfl, rfl⟩
    · have hq : decide (0 ≤ n ∧ n < 4) = false := by simpa using h
      have hl := HL.out
      rw [if_neg h] at hl
      have HL2 := Lib.hid hl; clear hl h HL
      go_enter Try.func20, Try.ntmps20
      go_wp2_with fail
      refine HR.out.mono ?_
      rintro e w1 ⟨rfl, rfl⟩
      go_wp2_with fail
      refine (rowner_any w n).mono ?_
      rintro e w1 ⟨rfl, rfl⟩
      rw [hq]
      go_wp2_with fail
      go_ret2
      exact ⟨by rw [HL2.out]; rfl, rfl⟩

theorem rrestore_any (w : World) (x n : Int) (hx : 0 ≤ x ∧ x < 18446744073709551616) : Calls Try.prog 23 #[.int .u64 x, .int .i64 n] w fun e w' =>
    e = .returned (.tuple #[.int .u64 (restoreV x n).1, .int .i64 (restoreV x n).2]) ∧ w = w' := by
  have hR := rread_any w x hx
  cases hs : saysV x with
  | none =>
    rw [readV_none hs] at hR
    have hl : restoreV x n = (0, 3) := by rw [restoreV, ofE_none hs]; rfl
    have HL := Lib.hid hl; have HR := Lib.hid hR
    clear hl hR hs
    go_enter Try.func23, Try.ntmps23
    go_wp2_with fail
    refine HR.out.mono ?_
    rintro e w1 ⟨rfl, rfl⟩
    go_wp2_with fail
    go_ret2
    exact ⟨by rw [HL.out]; rfl, rfl⟩
  | some p =>
    obtain ⟨o, v⟩ := p
    obtain ⟨ho, hv⟩ := says_own hx.1 hs
    rw [readV_some hs] at hR
    have hl : restoreV x n = if 0 ≤ n ∧ n < 4 then (if o = n then saidV (-1) v else (0, 8)) else (0, 2) := by
      by_cases h : 0 ≤ n ∧ n < 4
      · rw [restoreV, ofE_some hs, if_pos h, if_pos h, hs]; rfl
      · rw [restoreV, ofE_some hs, if_neg h, if_neg h, hs]; rfl
    have HL := Lib.hid hl; have HR := Lib.hid hR
    clear hl hR hs
    by_cases h : 0 ≤ n ∧ n < 4
    · have hq : decide (0 ≤ n ∧ n < 4) = true := by simpa using h
      have hl := HL.out
      rw [if_pos h] at hl
      by_cases h1 : o = n
      · have hq1 : (o != n) = false := by simpa using h1
        rw [if_pos h1] at hl
        have hH := rfree_any w v hv.1
        rw [← hl] at hH
        have HH := Lib.hid hH
        clear hl h1 h HL hH
        generalize restoreV x n = r at *
        obtain ⟨r1, r2⟩ := r
        go_enter Try.func23, Try.ntmps23
        go_wp2_with fail
        refine HR.out.mono ?_
        rintro e w1 ⟨rfl, rfl⟩
        go_wp2_with fail
        refine (rowner_any w n).mono ?_
        rintro e w1 ⟨rfl, rfl⟩
        rw [hq]
        go_wp2_with fail
        refine HH.out.mono ?_
        rintro e w1 ⟨rfl, rfl⟩
        go_wp2_with fail
        go_ret2
        exact ⟨rfl, rfl⟩
      · have hq1 : (o != n) = true := by simpa using h1
        rw [if_neg h1] at hl
        have HL2 := Lib.hid hl; clear hl h1 h HL
        go_enter Try.func23, Try.ntmps23
        go_wp2_with fail
        refine HR.out.mono ?_
        rintro e w1 ⟨rfl, rfl⟩
        go_wp2_with fail
        refine (rowner_any w n).mono ?_
        rintro e w1 ⟨rfl, rfl⟩
        rw [hq]
        go_wp2_with fail
        go_ret2
        exact ⟨by rw [HL2.out]; rfl, rfl⟩
    · have hq : decide (0 ≤ n ∧ n < 4) = false := by simpa using h
      have hl := HL.out
      rw [if_neg h] at hl
      have HL2 := Lib.hid hl; clear hl h HL
      go_enter Try.func23, Try.ntmps23
      go_wp2_with fail
      refine HR.out.mono ?_
      rintro e w1 ⟨rfl, rfl⟩
      go_wp2_with fail
      refine (rowner_any w n).mono ?_
      rintro e w1 ⟨rfl, rfl⟩
      rw [hq]
      go_wp2_with fail
      go_ret2
      exact ⟨by rw [HL2.out]; rfl, rfl⟩

theorem runlock_any (w : World) (x n u : Int) (hx : 0 ≤ x ∧ x < 18446744073709551616) (hu : 0 ≤ u) : Calls Try.prog 22 #[.int .u64 x, .int .i64 n, .int .u64 u] w fun e w' =>
    e = .returned (.tuple #[.int .u64 (unlockV x n u).1, .int .i64 (unlockV x n u).2]) ∧ w = w' := by
  have hR := rread_any w x hx
  cases hs : saysV x with
  | none =>
    rw [readV_none hs] at hR
    have hl : unlockV x n u = (0, 3) := by rw [unlockV, ofE_none hs]; rfl
    have HL := Lib.hid hl; have HR := Lib.hid hR
    clear hl hR hs
    go_enter Try.func22, Try.ntmps22
    go_wp2_with fail
    refine HR.out.mono ?_
    rintro e w1 ⟨rfl, rfl⟩
    go_wp2_with fail
    go_ret2
    exact ⟨by rw [HL.out]; rfl, rfl⟩
  | some p =>
    obtain ⟨o, v⟩ := p
    obtain ⟨ho, hv⟩ := says_own hx.1 hs
    rw [readV_some hs] at hR
    have hl : unlockV x n u = if 0 ≤ n ∧ n < 4 then (if 1099511627776 < u then (0, 2) else if o = n ∧ v ≤ u then saidV (-1) u else (0, 8)) else (0, 2) := by
      by_cases h : 0 ≤ n ∧ n < 4
      · rw [unlockV, ofE_some hs, if_pos h, if_pos h, hs]; rfl
      · rw [unlockV, ofE_some hs, if_neg h, if_neg h, hs]; rfl
    have HL := Lib.hid hl; have HR := Lib.hid hR
    clear hl hR hs
    by_cases h : 0 ≤ n ∧ n < 4
    · have hq : decide (0 ≤ n ∧ n < 4) = true := by simpa using h
      have hl := HL.out
      rw [if_pos h] at hl
      by_cases h0 : 1099511627776 < u
      · have hq0 : decide (1099511627776 < u) = true := by simpa using h0
        rw [if_pos h0] at hl
        have HL2 := Lib.hid hl; clear hl h0 h HL
        go_enter Try.func22, Try.ntmps22
        go_wp2_with fail
        refine HR.out.mono ?_
        rintro e w1 ⟨rfl, rfl⟩
        go_wp2_with fail
        refine (rowner_any w n).mono ?_
        rintro e w1 ⟨rfl, rfl⟩
        rw [hq]
        go_wp2_with fail
        go_ret2
        exact ⟨by rw [HL2.out]; rfl, rfl⟩
      · have hq0 : decide (1099511627776 < u) = false := by simpa using h0
        rw [if_neg h0] at hl
        by_cases h1 : o = n ∧ v ≤ u
        · have hq1 : (o != n) = false := by simpa using h1.1
          have hq2 : decide (u < v) = false := by simp; omega
          rw [if_pos h1] at hl
          have hH := rfree_any w u hu
          rw [← hl] at hH
          have HH := Lib.hid hH
          clear hl h1 h HL hH h0
          generalize unlockV x n u = r at *
          obtain ⟨r1, r2⟩ := r
          go_enter Try.func22, Try.ntmps22
          go_wp2_with fail
          refine HR.out.mono ?_
          rintro e w1 ⟨rfl, rfl⟩
          go_wp2_with fail
          refine (rowner_any w n).mono ?_
          rintro e w1 ⟨rfl, rfl⟩
          rw [hq]
          go_wp2_with fail
          refine HH.out.mono ?_
          rintro e w1 ⟨rfl, rfl⟩
          go_wp2_with fail
          go_ret2
          exact ⟨rfl, rfl⟩
        · rw [if_neg h1] at hl
          have HL2 := Lib.hid hl; clear hl h HL
          by_cases h2 : o = n
          · have hq1 : (o != n) = false := by simpa using h2
            have hq2 : decide (u < v) = true := by simp; omega
            clear h1 h2
            go_enter Try.func22, Try.ntmps22
            go_wp2_with fail
            refine HR.out.mono ?_
            rintro e w1 ⟨rfl, rfl⟩
            go_wp2_with fail
            refine (rowner_any w n).mono ?_
            rintro e w1 ⟨rfl, rfl⟩
            rw [hq]
            go_wp2_with fail
            go_ret2
            exact ⟨by rw [HL2.out]; rfl, rfl⟩
          · have hq1 : (o != n) = true := by simpa using h2
            clear h1 h2
            go_enter Try.func22, Try.ntmps22
            go_wp2_with fail
            refine HR.out.mono ?_
            rintro e w1 ⟨rfl, rfl⟩
            go_wp2_with fail
            refine (rowner_any w n).mono ?_
            rintro e w1 ⟨rfl, rfl⟩
            rw [hq]
            go_wp2_with fail
            go_ret2
            exact ⟨by rw [HL2.out]; rfl, rfl⟩
    · have hq : decide (0 ≤ n ∧ n < 4) = false := by simpa using h
      have hl := HL.out
      rw [if_neg h] at hl
      have HL2 := Lib.hid hl; clear hl h HL
      go_enter Try.func22, Try.ntmps22
      go_wp2_with fail
      refine HR.out.mono ?_
      rintro e w1 ⟨rfl, rfl⟩
      go_wp2_with fail
      refine (rowner_any w n).mono ?_
      rintro e w1 ⟨rfl, rfl⟩
      rw [hq]
      go_wp2_with fail
      go_ret2
      exact ⟨by rw [HL2.out]; rfl, rfl⟩

theorem rpasses_any (w : World) (x n u : Int) (hx : 0 ≤ x ∧ x < 18446744073709551616) : Calls Try.prog 26 #[.int .u64 x, .int .i64 n, .int .u64 u] w fun e w' =>
    e = .returned (.bool (passesV x n u)) ∧ w = w' := by
  have hR := rread_any w x hx
  cases hs : saysV x with
  | none =>
    rw [readV_none hs] at hR
    have hl : passesV x n u = false := by rw [passesV, hs]
    have HL := Lib.hid hl; have HR := Lib.hid hR
    clear hl hR hs
    go_enter Try.func26, Try.ntmps26
    go_wp2_with fail
    refine HR.out.mono ?_
    rintro e w1 ⟨rfl, rfl⟩
    go_wp2_with fail
    go_ret
    exact ⟨by rw [HL.out]; rfl, rfl⟩
  | some p =>
    obtain ⟨o, v⟩ := p
    obtain ⟨ho, hv⟩ := says_own hx.1 hs
    rw [readV_some hs] at hR
    have hl : passesV x n u = ((decide (o < 0) || o == n) && decide (v ≤ u)) := by
      rw [passesV, hs]
      have : (o == -1) = decide (o < 0) := by
        rcases ho with h | h
        · subst h; rfl
        · have h1 : (o == -1) = false := by simp; omega
          have h2 : decide (o < 0) = false := by simp; omega
          rw [h1, h2]
      simp only [this]
    have HR := Lib.hid hR
    clear hR hs
    by_cases h1 : decide (o < 0) = true <;> by_cases h2 : (o == n) = true <;> by_cases h3 : decide (v ≤ u) = true <;> (try simp only [Bool.not_eq_true] at h1 h2 h3) <;> rw [h1, h2, h3] at hl <;> have HL := Lib.hid hl <;> clear hl <;> (go_enter Try.func26, Try.ntmps26) <;> (go_wp2_with fail) <;> (refine HR.out.mono ?_; rintro e w1 ⟨rfl, rfl⟩) <;> (go_wp2_with fail) <;> go_ret <;> exact ⟨by rw [HL.out]; rfl, rfl⟩

theorem live_any (w : World) : Calls Try.prog 14 #[] w fun e w' => e = .returned (.bool true) ∧ Below w.heap.size w w' := by
  have HA := Lib.hid (show ∀ W, Calls Try.prog 10 #[.int .i64 2, .int .u64 3] W fun e w' => e = .returned (.tuple #[.int .u64 101, .int .i64 0]) ∧ Below W.heap.size W w' from fun W => by
    have := held_any W 2 3 (by decide)
    rwa [show heldV 2 3 = (101, 0) by decide] at this)
  have HB := Lib.hid (show ∀ W, Calls Try.prog 21 #[.int .u64 101, .int .i64 2, .int .u64 5] W fun e w' => e = .returned (.tuple #[.int .u64 160, .int .i64 0]) ∧ Below W.heap.size W w' from fun W => by
    have := unlock_any W 101 2 5 (by decide) (by decide)
    rwa [show unlockV 101 2 5 = (160, 0) by decide] at this)
  have HC := Lib.hid (show ∀ W, Calls Try.prog 12 #[.int .u64 160] W fun e w' => e = .returned (.tuple #[.int .i64 (-1), .int .u64 5, .int .i64 0]) ∧ Below W.heap.size W w' from fun W => by
    have := read_any W 160 (by decide)
    rwa [show readV 160 = (-1, 5, 0) by decide] at this)
  have HD := Lib.hid (show ∀ W, Calls Try.prog 19 #[.int .u64 101, .int .i64 1, .int .u64 9] W fun e w' => e = .returned (.bool false) ∧ Below W.heap.size W w' from fun W => by
    have := passes_any W 101 1 9 (by decide)
    rwa [show passesV 101 1 9 = false by decide] at this)
  go_enter Try.func14, Try.ntmps14
  go_wp2_with fail
  refine (HA.out _).mono ?_
  rintro e w1 ⟨rfl, l1⟩
  have L1 := Lib.hid l1; clear l1
  go_wp2_with fail
  refine (HB.out _).mono ?_
  rintro e w2 ⟨rfl, l2⟩
  have L2 := Lib.hid (btrans L1.out (Nat.le_refl _) l2); clear l2 L1
  go_wp2_with fail
  refine (HC.out _).mono ?_
  rintro e w3 ⟨rfl, l3⟩
  have L3 := Lib.hid (btrans L2.out (Nat.le_refl _) l3); clear l3 L2
  go_wp2_with fail
  refine (HD.out _).mono ?_
  rintro e w4 ⟨rfl, l4⟩
  have L4 := Lib.hid (btrans L3.out (Nat.le_refl _) l4); clear l4 L3
  go_wp2_with fail
  go_ret
  exact ⟨rfl, L4.out⟩
end Go.Proofs.Ytgdflghfahlfpaa.Lkw
