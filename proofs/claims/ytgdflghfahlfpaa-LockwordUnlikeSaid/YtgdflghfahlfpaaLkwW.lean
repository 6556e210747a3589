/- The statements on lock words. -/
import Derived.Test.YtgdflghfahlfpaaLkwH
import Derived.Test.YtgdflghfahlfpaaRow
namespace Go.Proofs.Ytgdflghfahlfpaa.Lkw
open Go.RowKit
set_option linter.unusedSimpArgs false
set_option linter.unusedVariables false

theorem u64_of {x : Int} (h : (Lit.int .u64 x).wf = true) : 0 ≤ x ∧ x < 18446744073709551616 := by
  have b := bounds_u64 h
  exact ⟨b.1, by have := b.2; omega⟩
theorem forms {H : Type} (enc : TypeId × Value → H) (w : World) (x : Int) (hx : (Lit.int .u64 x).wf = true) (n : Int) (hn : (Lit.int .i64 n).wf = true) (u : Int) (hu : (Lit.int .u64 u).wf = true) :
    Calls Try.prog 3 #[.int .u64 x, .int .i64 n, .int .u64 u] w fun e w' => e = .returned (.bool true) ∧ Below w.heap.size w w' := by
  have hx := u64_of hx; have hu := u64_of hu
  have HA := Lib.hid (fun W => free_any W u hu.1)
  have HB := Lib.hid (fun W => rfree_any W u hu.1)
  have HC := Lib.hid (fun W => held_any W n u hu.1)
  have HD := Lib.hid (fun W => rheld_any W n u hu.1)
  have HE := Lib.hid (fun W => read_any W x hx)
  have HF := Lib.hid (fun W => rread_any W x hx)
  have HG := Lib.hid (fun W => rightw_any W x hx)
  have HH := Lib.hid (fun W => rrightw_any W x hx)
  have Lw := Lib.hid (Below.refl w.heap.size w)
  generalize saidV (-1) u = a at *
  generalize heldV n u = c at *
  generalize readV x = r at *
  generalize (saysV x).isSome = s at *
  obtain ⟨a1, a2⟩ := a; obtain ⟨c1, c2⟩ := c; obtain ⟨r1, r2, r3⟩ := r
  clear hx hu hn
  go_enter Try.func3, Try.ntmps3
  go_wp2_with fail; refine (HA.out _).mono ?_; rintro e w1 ⟨rfl, lw1⟩; have Lw1 := Lib.hid (btrans (Lw).out (Nat.le_refl _) lw1); clear lw1 Lw
  go_wp2_with fail; refine (HB.out _).mono ?_; rintro e w0 ⟨rfl, rfl⟩
  go_wp2_with fail; refine (HC.out _).mono ?_; rintro e w2 ⟨rfl, lw2⟩; have Lw2 := Lib.hid (btrans (Lw1).out (Nat.le_refl _) lw2); clear lw2 Lw1
  go_wp2_with fail; refine (HD.out _).mono ?_; rintro e w0 ⟨rfl, rfl⟩
  go_wp2_with fail; refine (HE.out _).mono ?_; rintro e w3 ⟨rfl, lw3⟩; have Lw3 := Lib.hid (btrans (Lw2).out (Nat.le_refl _) lw3); clear lw3 Lw2
  go_wp2_with fail; refine (HF.out _).mono ?_; rintro e w0 ⟨rfl, rfl⟩
  go_wp2_with fail; refine (live_any _).mono ?_; rintro e w4 ⟨rfl, lw4⟩; have Lw4 := Lib.hid (btrans (Lw3).out (Nat.le_refl _) lw4); clear lw4 Lw3
  go_wp2_with fail; refine (HG.out _).mono ?_; rintro e w5 ⟨rfl, lw5⟩; have Lw5 := Lib.hid (btrans (Lw4).out (Nat.le_refl _) lw5); clear lw5 Lw4
  go_wp2_with fail; refine (HH.out _).mono ?_; rintro e w0 ⟨rfl, rfl⟩
  go_wp2_with fail
  go_ret
  exact ⟨by simp, Lw5.out⟩
theorem turns {H : Type} (enc : TypeId × Value → H) (w : World) (x : Int) (hx : (Lit.int .u64 x).wf = true) (n : Int) (hn : (Lit.int .i64 n).wf = true) (u : Int) (hu : (Lit.int .u64 u).wf = true) :
    Calls Try.prog 7 #[.int .u64 x, .int .i64 n, .int .u64 u] w fun e w' => e = .returned (.bool true) ∧ Below w.heap.size w w' := by
  have hx := u64_of hx; have hu := u64_of hu
  have HA := Lib.hid (fun W => lock_any W x n hx)
  have HB := Lib.hid (fun W => rlock_any W x n hx)
  have HC := Lib.hid (fun W => unlock_any W x n u hx hu.1)
  have HD := Lib.hid (fun W => runlock_any W x n u hx hu.1)
  have HE := Lib.hid (fun W => restore_any W x n hx)
  have HF := Lib.hid (fun W => rrestore_any W x n hx)
  have HG := Lib.hid (fun W => next_any W u hu.1)
  have HH := Lib.hid (fun W => rnext_any W u hu.1)
  have HI := Lib.hid (fun W => passes_any W x n u hx)
  have HJ := Lib.hid (fun W => rpasses_any W x n u hx)
  have Lw := Lib.hid (Below.refl w.heap.size w)
  generalize lockV x n = a at *
  generalize unlockV x n u = c at *
  generalize restoreV x n = r at *
  generalize nextV u = t at *
  generalize passesV x n u = s at *
  obtain ⟨a1, a2⟩ := a; obtain ⟨c1, c2⟩ := c; obtain ⟨r1, r2⟩ := r; obtain ⟨t1, t2⟩ := t
  clear hx hu hn
  go_enter Try.func7, Try.ntmps7
  go_wp2_with fail; refine (HA.out _).mono ?_; rintro e w1 ⟨rfl, lw1⟩; have Lw1 := Lib.hid (btrans (Lw).out (Nat.le_refl _) lw1); clear lw1 Lw
  go_wp2_with fail; refine (HB.out _).mono ?_; rintro e w0 ⟨rfl, rfl⟩
  go_wp2_with fail; refine (HC.out _).mono ?_; rintro e w2 ⟨rfl, lw2⟩; have Lw2 := Lib.hid (btrans (Lw1).out (Nat.le_refl _) lw2); clear lw2 Lw1
  go_wp2_with fail; refine (HD.out _).mono ?_; rintro e w0 ⟨rfl, rfl⟩
  go_wp2_with fail; refine (HE.out _).mono ?_; rintro e w3 ⟨rfl, lw3⟩; have Lw3 := Lib.hid (btrans (Lw2).out (Nat.le_refl _) lw3); clear lw3 Lw2
  go_wp2_with fail; refine (HF.out _).mono ?_; rintro e w0 ⟨rfl, rfl⟩
  go_wp2_with fail; refine (HG.out _).mono ?_; rintro e w0 ⟨rfl, rfl⟩
  go_wp2_with fail; refine (HH.out _).mono ?_; rintro e w0 ⟨rfl, rfl⟩
  go_wp2_with fail; refine (live_any _).mono ?_; rintro e w4 ⟨rfl, lw4⟩; have Lw4 := Lib.hid (btrans (Lw3).out (Nat.le_refl _) lw4); clear lw4 Lw3
  go_wp2_with fail; refine (HI.out _).mono ?_; rintro e w5 ⟨rfl, lw5⟩; have Lw5 := Lib.hid (btrans (Lw4).out (Nat.le_refl _) lw5); clear lw5 Lw4
  go_wp2_with fail; refine (HJ.out _).mono ?_; rintro e w0 ⟨rfl, rfl⟩
  go_wp2_with fail
  go_ret
  exact ⟨by simp, Lw5.out⟩

/-! ### plain laws -/
theorem saidV_bound (o v : Int) (hv : 0 ≤ v) : 0 ≤ (saidV o v).1 ∧ (saidV o v).1 < 18446744073709551616 := by
  unfold saidV
  by_cases h : rightV o v = true
  · rw [if_pos h]
    simp only [rightV, decide_eq_true_eq] at h
    unfold wordV
    split <;> omega
  · rw [if_neg h]; omega
theorem saysV_said {o v : Int} (h : rightV o v = true) (hv : 0 ≤ v) : saysV (wordV o v) = some (o, v) := by
  simp only [rightV, decide_eq_true_eq] at h
  unfold wordV
  by_cases ho : o = -1
  · rw [if_pos ho, saysV, if_pos (by omega), if_pos (by omega), ho]
    congr 2
    omega
  · rw [if_neg ho, saysV, if_pos (by omega), if_neg (by omega), if_pos (by omega)]
    congr 2 <;> omega
theorem said_back {o v : Int} (h : (saidV o v).2 = 0) (hv : 0 ≤ v) : readV (saidV o v).1 = (o, v, 0) := by
  unfold saidV at h ⊢
  by_cases hr : rightV o v = true
  · rw [if_pos hr]
    exact readV_some (saysV_said hr hv)
  · rw [if_neg hr] at h
    cases h
theorem held_back {o v : Int} (h : (heldV o v).2 = 0) (hv : 0 ≤ v) : readV (heldV o v).1 = (o, v, 0) := by
  unfold heldV at h ⊢
  by_cases hr : 0 ≤ o ∧ o < 4
  · rw [if_pos hr] at h ⊢
    exact said_back h hv
  · rw [if_neg hr] at h
    cases h
theorem heldV_bound (o v : Int) (hv : 0 ≤ v) : 0 ≤ (heldV o v).1 ∧ (heldV o v).1 < 18446744073709551616 := by
  unfold heldV
  split
  · exact saidV_bound o v hv
  · omega
theorem says_word {x o v : Int} (hx : 0 ≤ x) (h : saysV x = some (o, v)) : saidV o v = (x, 0) := by
  unfold saysV at h
  split at h
  · split at h
    · injection h with h; injection h with h1 h2
      subst h1 h2
      rw [saidV, if_pos (by simp [rightV]; omega), wordV, if_pos rfl]
      congr 1
      omega
    · split at h
      · injection h with h; injection h with h1 h2
        subst h1 h2
        rw [saidV, if_pos (by simp [rightV]; omega), wordV, if_neg (by omega)]
        congr 1
        omega
      · cases h
  · cases h
theorem says_inj {x y : Int} {p : Int × Int} (hx : 0 ≤ x) (hy : 0 ≤ y) (h : saysV x = some p) (k : saysV y = some p) : x = y := by
  obtain ⟨o, v⟩ := p
  have := (says_word hx h).symm.trans (says_word hy k)
  injection this
theorem lock_err (x n : Int) (h : (lockV x n).2 ≠ 0) : (lockV x n).1 = 0 := by
  unfold lockV at h ⊢
  split
  · rfl
  · rename_i h0
    rw [if_neg h0] at h
    split
    · rfl
    · rename_i o v hs
      rw [hs] at h
      simp only at h
      split
      · rfl
      · rename_i h1
        rw [if_neg h1] at h
        split
        · rfl
        · rename_i h2
          rw [if_neg h2] at h
          unfold saidV at h ⊢
          split
          · rename_i h3
            rw [if_pos h3] at h
            exact absurd rfl h
          · rfl
theorem lock_ok {x n : Int} (hx : 0 ≤ x) (h : (lockV x n).2 = 0) : 0 ≤ n ∧ n < 4 ∧ ∃ v, 0 ≤ v ∧ v ≤ 1099511627776 ∧ saysV x = some (-1, v) ∧ saysV (lockV x n).1 = some (n, v) := by
  cases hs : saysV x with
  | none => rw [lockV, ofE_none hs] at h; cases h
  | some p =>
    obtain ⟨o, v⟩ := p
    obtain ⟨ho, hv⟩ := says_own hx hs
    have hl : lockV x n = if 0 ≤ n ∧ n < 4 then (if o = n then (0, 6) else if o ≠ -1 then (0, 7) else saidV n v) else (0, 2) := by
      by_cases h : 0 ≤ n ∧ n < 4
      · rw [lockV, ofE_some hs, if_pos h, if_pos h, hs]; rfl
      · rw [lockV, ofE_some hs, if_neg h, if_neg h, hs]; rfl
    rw [hl] at h ⊢
    split at h
    · rename_i h0
      rw [if_pos h0]
      split at h
      · cases h
      · rename_i h1
        rw [if_neg h1]
        split at h
        · cases h
        · rename_i h2
          rw [if_neg h2]
          have h3 : o = -1 := by simpa using h2
          subst h3
          refine ⟨h0.1, h0.2, v, hv.1, hv.2, rfl, ?_⟩
          have hr : rightV n v = true := by simp [rightV]; omega
          rw [saidV, if_pos hr]
          exact saysV_said hr hv.1
    · cases h

set_option maxRecDepth 50000 in
theorem back {H : Type} (enc : TypeId × Value → H) (w : World) (x : Int) (hx : (Lit.int .u64 x).wf = true) (n : Int) (hn : (Lit.int .i64 n).wf = true) (u : Int) (hu : (Lit.int .u64 u).wf = true) :
    Calls Try.prog 4 #[.int .u64 x, .int .i64 n, .int .u64 u] w fun e w' => e = .returned (.bool true) ∧ Below w.heap.size w w' := by
  have hx := u64_of hx; have hu := u64_of hu
  have HA := Lib.hid (fun W => free_any W u hu.1)
  have HC := Lib.hid (fun W => held_any W n u hu.1)
  have HE := Lib.hid (fun W => read_any W x hx)
  have HG := Lib.hid (fun W => rightw_any W x hx)
  have HP := Lib.hid (show (saidV (-1) u).2 = 0 → ∀ W, Calls Try.prog 12 #[.int .u64 (saidV (-1) u).1] W fun e w' => e = .returned (.tuple #[.int .i64 (-1), .int .u64 u, .int .i64 0]) ∧ Below W.heap.size W w' from fun h W => by
    have := read_any W _ (saidV_bound (-1) u hu.1)
    rwa [said_back h hu.1] at this)
  have HQ := Lib.hid (show (heldV n u).2 = 0 → ∀ W, Calls Try.prog 12 #[.int .u64 (heldV n u).1] W fun e w' => e = .returned (.tuple #[.int .i64 n, .int .u64 u, .int .i64 0]) ∧ Below W.heap.size W w' from fun h W => by
    have := read_any W _ (heldV_bound n u hu.1)
    rwa [held_back h hu.1] at this)
  have Lw := Lib.hid (Below.refl w.heap.size w)
  have HX := Lib.hid hx
  generalize saidV (-1) u = a at *
  generalize heldV n u = c at *
  obtain ⟨a1, a2⟩ := a; obtain ⟨c1, c2⟩ := c
  clear hx hu hn
  go_enter Try.func4, Try.ntmps4
  go_wp2_with fail; refine (HA.out _).mono ?_; rintro e w1 ⟨rfl, lw1⟩; have Lw1 := Lib.hid (btrans (Lw).out (Nat.le_refl _) lw1); clear lw1 Lw
  go_upto_if 28 with (fail)
  go_cut [] from 22 (fun wc => Below w.heap.size w wc)
  case first =>
    by_cases ha : a2 = 0
    · have q : (a2 == 0) = true := by simpa using ha
      have HP2 := Lib.hid (HP.out ha)
      clear ha
      go_wp2_with fail; refine (HP2.out _).mono ?_; rintro e w2 ⟨rfl, lw2⟩; have Lw2 := Lib.hid (btrans (Lw1).out (Nat.le_refl _) lw2); clear lw2 Lw1
      go_wp2_with fail
      go_meet
      case rel => exact Lw2.out
    · have q : (a2 == 0) = false := by simpa using ha
      clear ha
      go_wp2_with fail
      go_meet
      case rel => exact Lw1.out
  case rest =>
  have Lw2 := Lib.hid hcut
  clear hcut Lw1
  go_wp2_with fail; refine (HC.out _).mono ?_; rintro e w3 ⟨rfl, lw3⟩; have Lw3 := Lib.hid (btrans (Lw2).out (Nat.le_refl _) lw3); clear lw3 Lw2
  go_upto_if 53 with (fail)
  go_cut [] from 22 (fun wc => Below w.heap.size w wc)
  case first =>
    by_cases ha : c2 = 0
    · have q : (c2 == 0) = true := by simpa using ha
      have HP2 := Lib.hid (HQ.out ha)
      clear ha
      go_wp2_with fail; refine (HP2.out _).mono ?_; rintro e w4 ⟨rfl, lw4⟩; have Lw4 := Lib.hid (btrans (Lw3).out (Nat.le_refl _) lw4); clear lw4 Lw3
      go_wp2_with fail
      go_meet
      case rel => exact Lw4.out
    · have q : (c2 == 0) = false := by simpa using ha
      clear ha
      go_wp2_with fail
      go_meet
      case rel => exact Lw3.out
  case rest =>
  have Lw3' := Lib.hid hcut
  clear hcut Lw3 HA HC HP HQ
  have Lw3 := Lw3'; clear Lw3'
  cases hs : saysV x with
  | none =>
    rw [hs] at HG
    rw [readV_none hs] at HE
    clear hs
    go_wp2_with fail; refine (HE.out _).mono ?_; rintro e w4 ⟨rfl, lw4⟩; have Lw4 := Lib.hid (btrans (Lw3).out (Nat.le_refl _) lw4); clear lw4 Lw3
    go_wp2_with fail; refine (live_any _).mono ?_; rintro e w5 ⟨rfl, lw5⟩; have Lw5 := Lib.hid (btrans (Lw4).out (Nat.le_refl _) lw5); clear lw5 Lw4
    go_wp2_with fail; refine (HG.out _).mono ?_; rintro e w6 ⟨rfl, lw6⟩; have Lw6 := Lib.hid (btrans (Lw5).out (Nat.le_refl _) lw6); clear lw6 Lw5
    go_wp2_with fail
    go_ret
    exact ⟨rfl, Lw6.out⟩
  | some p =>
    obtain ⟨o, v⟩ := p
    obtain ⟨ho, hv⟩ := says_own HX.out.1 hs
    rw [readV_some hs] at HE
    have hw := says_word HX.out.1 hs
    have HF := Lib.hid (fun W => free_any W v hv.1)
    rcases ho with rfl | ho
    · rw [hw] at HF
      clear hs HX hw
      go_wp2_with fail; refine (HE.out _).mono ?_; rintro e w4 ⟨rfl, lw4⟩; have Lw4 := Lib.hid (btrans (Lw3).out (Nat.le_refl _) lw4); clear lw4 Lw3
      go_wp2_with fail; refine (HF.out _).mono ?_; rintro e w5 ⟨rfl, lw5⟩; have Lw5 := Lib.hid (btrans (Lw4).out (Nat.le_refl _) lw5); clear lw5 Lw4
      go_wp2_with fail; refine (live_any _).mono ?_; rintro e w6 ⟨rfl, lw6⟩; have Lw6 := Lib.hid (btrans (Lw5).out (Nat.le_refl _) lw6); clear lw6 Lw5
      go_wp2_with fail
      go_ret
      exact ⟨by simp, Lw6.out⟩
    · have HL := Lib.hid (fun W => held_any W o v hv.1)
      rw [show heldV o v = (x, 0) by rw [heldV, if_pos ho, hw]] at HL
      have hq : decide (0 ≤ o) = true := by simpa using ho.1
      clear hs HX hw
      generalize saidV (-1) v = a at *
      obtain ⟨f1, f2⟩ := a
      go_wp2_with fail; refine (HE.out _).mono ?_; rintro e w4 ⟨rfl, lw4⟩; have Lw4 := Lib.hid (btrans (Lw3).out (Nat.le_refl _) lw4); clear lw4 Lw3
      go_wp2_with fail; refine (HF.out _).mono ?_; rintro e w5 ⟨rfl, lw5⟩; have Lw5 := Lib.hid (btrans (Lw4).out (Nat.le_refl _) lw5); clear lw5 Lw4
      go_wp2_with fail; refine (HL.out _).mono ?_; rintro e w6 ⟨rfl, lw6⟩; have Lw6 := Lib.hid (btrans (Lw5).out (Nat.le_refl _) lw6); clear lw6 Lw5
      go_wp2_with fail; refine (live_any _).mono ?_; rintro e w7 ⟨rfl, lw7⟩; have Lw7 := Lib.hid (btrans (Lw6).out (Nat.le_refl _) lw7); clear lw7 Lw6
      go_wp2_with fail
      go_ret
      exact ⟨by simp, Lw7.out⟩

theorem restores {H : Type} (enc : TypeId × Value → H) (w : World) (x : Int) (hx : (Lit.int .u64 x).wf = true) (n : Int) (hn : (Lit.int .i64 n).wf = true) (u : Int) (hu : (Lit.int .u64 u).wf = true) :
    Calls Try.prog 6 #[.int .u64 x, .int .i64 n, .int .u64 u] w fun e w' => e = .returned (.bool true) ∧ Below w.heap.size w w' := by
  have hx := u64_of hx; have hu := u64_of hu
  have HA := Lib.hid (fun W => lock_any W x n hx)
  have HE := Lib.hid (fun W => read_any W x hx)
  have Lw := Lib.hid (Below.refl w.heap.size w)
  by_cases h : (lockV x n).2 = 0
  · obtain ⟨n0, n4, v, v0, v1, hs, hs2⟩ := lock_ok hx.1 h
    have hb : 0 ≤ (lockV x n).1 ∧ (lockV x n).1 < 18446744073709551616 := by
      have hr : rightV n v = true := by simp [rightV]; omega
      have hr2 := says_word (x := wordV n v) (by unfold wordV; split <;> omega) (saysV_said hr v0)
      have hl : lockV x n = saidV n v := by
        rw [lockV, ofE_some hs, if_pos (show 0 ≤ n ∧ n < 4 from ⟨n0, n4⟩), hs]
        have h1 : ¬ ((-1 : Int) = n) := by omega
        simp [h1]
      rw [hl]
      exact saidV_bound n v v0
    have HB := Lib.hid (fun W => restore_any W _ n hb)
    have HC := Lib.hid (fun W => passes_any W _ n u hb)
    have HD := Lib.hid (fun W => passes_any W _ ((n + 1) % 4) u hb)
    have hr : restoreV (lockV x n).1 n = (x, 0) := by
      rw [restoreV, ofE_some hs2, if_pos (show 0 ≤ n ∧ n < 4 from ⟨n0, n4⟩), hs2]
      show (if n = n then saidV (-1) v else (0, 8)) = (x, 0)
      rw [if_pos rfl]
      exact says_word hx.1 hs
    have hp : passesV (lockV x n).1 n u = decide (v ≤ u) := by
      rw [passesV, hs2]
      simp
    have hq : passesV (lockV x n).1 ((n + 1) % 4) u = false := by
      rw [passesV, hs2]
      have h1 : (n == -1) = false := by simp; omega
      have h2 : (n == (n + 1) % 4) = false := by simp; omega
      simp only [h1, h2, Bool.or_self, Bool.false_and]
    rw [hr] at HB
    rw [hp] at HC
    rw [hq] at HD
    rw [readV_some hs] at HE
    generalize lockV x n = a at *
    obtain ⟨a1, a2⟩ := a
    obtain rfl : a2 = 0 := h
    clear hx hu hn hr hp hq hb hs hs2
    have hn4 : n = 0 ∨ n = 1 ∨ n = 2 ∨ n = 3 := by omega
    clear n0 n4
    rcases hn4 with rfl | rfl | rfl | rfl
    all_goals
      simp only [Int.zero_add, Int.reduceAdd, Int.reduceMod] at HD
      go_enter Try.func6, Try.ntmps6
      go_wp2_with fail; refine (HA.out _).mono ?_; rintro e w1 ⟨rfl, lw1⟩; have Lw1 := Lib.hid (btrans (Lw).out (Nat.le_refl _) lw1); clear lw1 Lw
      go_wp2_with fail; refine (HB.out _).mono ?_; rintro e w2 ⟨rfl, lw2⟩; have Lw2 := Lib.hid (btrans (Lw1).out (Nat.le_refl _) lw2); clear lw2 Lw1
      go_wp2_with fail; refine (HE.out _).mono ?_; rintro e w3 ⟨rfl, lw3⟩; have Lw3 := Lib.hid (btrans (Lw2).out (Nat.le_refl _) lw3); clear lw3 Lw2
      go_wp2_with fail; refine (live_any _).mono ?_; rintro e w4 ⟨rfl, lw4⟩; have Lw4 := Lib.hid (btrans (Lw3).out (Nat.le_refl _) lw4); clear lw4 Lw3
      go_wp2_with fail; refine (HC.out _).mono ?_; rintro e w5 ⟨rfl, lw5⟩; have Lw5 := Lib.hid (btrans (Lw4).out (Nat.le_refl _) lw5); clear lw5 Lw4
      go_wp2_with fail; refine (HD.out _).mono ?_; rintro e w6 ⟨rfl, lw6⟩; have Lw6 := Lib.hid (btrans (Lw5).out (Nat.le_refl _) lw6); clear lw6 Lw5
      go_wp2_with fail
      go_ret
      exact ⟨by simp, Lw6.out⟩
  · have h1 := lock_err x n h
    have h2 : ((lockV x n).2 != 0) = true := by simpa using h
    generalize lockV x n = a at *
    obtain ⟨a1, a2⟩ := a
    simp only at h1 h2
    subst h1
    clear hx hu hn h HE
    go_enter Try.func6, Try.ntmps6
    go_wp2_with fail; refine (HA.out _).mono ?_; rintro e w1 ⟨rfl, lw1⟩; have Lw1 := Lib.hid (btrans (Lw).out (Nat.le_refl _) lw1); clear lw1 Lw
    go_wp2_with fail; refine (live_any _).mono ?_; rintro e w2 ⟨rfl, lw2⟩; have Lw2 := Lib.hid (btrans (Lw1).out (Nat.le_refl _) lw2); clear lw2 Lw1
    go_wp2_with fail
    go_ret
    exact ⟨by simp, Lw2.out⟩

theorem unlike {H : Type} (enc : TypeId × Value → H) (w : World) (x : Int) (hx : (Lit.int .u64 x).wf = true) (y : Int) (hy : (Lit.int .u64 y).wf = true) :
    Calls Try.prog 5 #[.int .u64 x, .int .u64 y] w fun e w' => e = .returned (.bool true) ∧ Below w.heap.size w w' := by
  have hx := u64_of hx; have hy := u64_of hy
  have HA := Lib.hid (fun W => read_any W x hx)
  have HB := Lib.hid (fun W => read_any W y hy)
  have HC := Lib.hid (fun W => rightw_any W x hx)
  have HD := Lib.hid (fun W => rightw_any W y hy)
  have Lw := Lib.hid (Below.refl w.heap.size w)
  cases hs : saysV x with
  | none =>
    rw [readV_none hs] at HA
    cases hs2 : saysV y with
    | none =>
      rw [readV_none hs2] at HB
      clear hx hy hs hs2 HC HD
      go_enter Try.func5, Try.ntmps5
      go_wp2_with fail; refine (HA.out _).mono ?_; rintro e w1 ⟨rfl, lw1⟩; have Lw1 := Lib.hid (btrans (Lw).out (Nat.le_refl _) lw1); clear lw1 Lw
      go_wp2_with fail; refine (HB.out _).mono ?_; rintro e w2 ⟨rfl, lw2⟩; have Lw2 := Lib.hid (btrans (Lw1).out (Nat.le_refl _) lw2); clear lw2 Lw1
      go_wp2_with fail; refine (live_any _).mono ?_; rintro e w3 ⟨rfl, lw3⟩; have Lw3 := Lib.hid (btrans (Lw2).out (Nat.le_refl _) lw3); clear lw3 Lw2
      go_wp2_with fail
      go_ret
      exact ⟨by simp, Lw3.out⟩
    | some p =>
      obtain ⟨o, v⟩ := p
      rw [readV_some hs2] at HB
      clear hx hy hs hs2 HC HD
      go_enter Try.func5, Try.ntmps5
      go_wp2_with fail; refine (HA.out _).mono ?_; rintro e w1 ⟨rfl, lw1⟩; have Lw1 := Lib.hid (btrans (Lw).out (Nat.le_refl _) lw1); clear lw1 Lw
      go_wp2_with fail; refine (HB.out _).mono ?_; rintro e w2 ⟨rfl, lw2⟩; have Lw2 := Lib.hid (btrans (Lw1).out (Nat.le_refl _) lw2); clear lw2 Lw1
      go_wp2_with fail; refine (live_any _).mono ?_; rintro e w3 ⟨rfl, lw3⟩; have Lw3 := Lib.hid (btrans (Lw2).out (Nat.le_refl _) lw3); clear lw3 Lw2
      go_wp2_with fail
      go_ret
      exact ⟨by simp, Lw3.out⟩
  | some p =>
    obtain ⟨o, v⟩ := p
    rw [readV_some hs] at HA
    rw [hs] at HC
    cases hs2 : saysV y with
    | none =>
      rw [readV_none hs2] at HB
      clear hx hy hs hs2 HC HD
      go_enter Try.func5, Try.ntmps5
      go_wp2_with fail; refine (HA.out _).mono ?_; rintro e w1 ⟨rfl, lw1⟩; have Lw1 := Lib.hid (btrans (Lw).out (Nat.le_refl _) lw1); clear lw1 Lw
      go_wp2_with fail; refine (HB.out _).mono ?_; rintro e w2 ⟨rfl, lw2⟩; have Lw2 := Lib.hid (btrans (Lw1).out (Nat.le_refl _) lw2); clear lw2 Lw1
      go_wp2_with fail; refine (live_any _).mono ?_; rintro e w3 ⟨rfl, lw3⟩; have Lw3 := Lib.hid (btrans (Lw2).out (Nat.le_refl _) lw3); clear lw3 Lw2
      go_wp2_with fail
      go_ret
      exact ⟨by simp, Lw3.out⟩
    | some q =>
      obtain ⟨p, z⟩ := q
      rw [readV_some hs2] at HB
      rw [hs2] at HD
      have hxy : x = y ↔ (o = p ∧ v = z) := by
        constructor
        · rintro rfl
          rw [hs] at hs2
          injection hs2 with e; injection e with e1 e2
          exact ⟨e1, e2⟩
        · rintro ⟨rfl, rfl⟩
          exact says_inj hx.1 hy.1 hs hs2
      clear hx hy hs hs2
      simp only [Option.isSome_some] at HC HD
      by_cases h1 : o = p
      · by_cases h2 : v = z
        · have h3 : (x == y) = true := by simpa using hxy.2 ⟨h1, h2⟩
          have e1 : (o == p) = true := by simpa using h1
          have e2 : (v == z) = true := by simpa using h2
          clear hxy h1 h2
          go_enter Try.func5, Try.ntmps5
          go_wp2_with fail; refine (HA.out _).mono ?_; rintro e w1 ⟨rfl, lw1⟩; have Lw1 := Lib.hid (btrans (Lw).out (Nat.le_refl _) lw1); clear lw1 Lw
          go_wp2_with fail; refine (HB.out _).mono ?_; rintro e w2 ⟨rfl, lw2⟩; have Lw2 := Lib.hid (btrans (Lw1).out (Nat.le_refl _) lw2); clear lw2 Lw1
          go_wp2_with fail; refine (live_any _).mono ?_; rintro e w3 ⟨rfl, lw3⟩; have Lw3 := Lib.hid (btrans (Lw2).out (Nat.le_refl _) lw3); clear lw3 Lw2
          go_wp2_with fail; refine (HC.out _).mono ?_; rintro e w4 ⟨rfl, lw4⟩; have Lw4 := Lib.hid (btrans (Lw3).out (Nat.le_refl _) lw4); clear lw4 Lw3
          go_wp2_with fail; refine (HD.out _).mono ?_; rintro e w5 ⟨rfl, lw5⟩; have Lw5 := Lib.hid (btrans (Lw4).out (Nat.le_refl _) lw5); clear lw5 Lw4
          go_wp2_with fail
          go_ret
          exact ⟨by simp, Lw5.out⟩
        · have h3 : (x == y) = false := by simp; intro h; exact h2 (hxy.1 h).2
          have e1 : (o == p) = true := by simpa using h1
          have e2 : (v == z) = false := by simpa using h2
          clear hxy h1 h2
          go_enter Try.func5, Try.ntmps5
          go_wp2_with fail; refine (HA.out _).mono ?_; rintro e w1 ⟨rfl, lw1⟩; have Lw1 := Lib.hid (btrans (Lw).out (Nat.le_refl _) lw1); clear lw1 Lw
          go_wp2_with fail; refine (HB.out _).mono ?_; rintro e w2 ⟨rfl, lw2⟩; have Lw2 := Lib.hid (btrans (Lw1).out (Nat.le_refl _) lw2); clear lw2 Lw1
          go_wp2_with fail; refine (live_any _).mono ?_; rintro e w3 ⟨rfl, lw3⟩; have Lw3 := Lib.hid (btrans (Lw2).out (Nat.le_refl _) lw3); clear lw3 Lw2
          go_wp2_with fail; refine (HC.out _).mono ?_; rintro e w4 ⟨rfl, lw4⟩; have Lw4 := Lib.hid (btrans (Lw3).out (Nat.le_refl _) lw4); clear lw4 Lw3
          go_wp2_with fail; refine (HD.out _).mono ?_; rintro e w5 ⟨rfl, lw5⟩; have Lw5 := Lib.hid (btrans (Lw4).out (Nat.le_refl _) lw5); clear lw5 Lw4
          go_wp2_with fail
          go_ret
          exact ⟨by simp, Lw5.out⟩
      · have h3 : (x == y) = false := by simp; intro h; exact h1 (hxy.1 h).1
        have e1 : (o == p) = false := by simpa using h1
        clear hxy h1
        go_enter Try.func5, Try.ntmps5
        go_wp2_with fail; refine (HA.out _).mono ?_; rintro e w1 ⟨rfl, lw1⟩; have Lw1 := Lib.hid (btrans (Lw).out (Nat.le_refl _) lw1); clear lw1 Lw
        go_wp2_with fail; refine (HB.out _).mono ?_; rintro e w2 ⟨rfl, lw2⟩; have Lw2 := Lib.hid (btrans (Lw1).out (Nat.le_refl _) lw2); clear lw2 Lw1
        go_wp2_with fail; refine (live_any _).mono ?_; rintro e w3 ⟨rfl, lw3⟩; have Lw3 := Lib.hid (btrans (Lw2).out (Nat.le_refl _) lw3); clear lw3 Lw2
        go_wp2_with fail; refine (HC.out _).mono ?_; rintro e w4 ⟨rfl, lw4⟩; have Lw4 := Lib.hid (btrans (Lw3).out (Nat.le_refl _) lw4); clear lw4 Lw3
        go_wp2_with fail; refine (HD.out _).mono ?_; rintro e w5 ⟨rfl, lw5⟩; have Lw5 := Lib.hid (btrans (Lw4).out (Nat.le_refl _) lw5); clear lw5 Lw4
        go_wp2_with fail
        go_ret
        exact ⟨by simp, Lw5.out⟩
end Go.Proofs.Ytgdflghfahlfpaa.Lkw
