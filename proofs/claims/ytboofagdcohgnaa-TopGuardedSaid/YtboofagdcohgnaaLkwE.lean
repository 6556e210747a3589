/- of, Lock, Unlock, Restore, Passes. -/
import Derived.Test.YtboofagdcohgnaaLkwD
namespace Go.Proofs.Ytboofagdcohgnaa.Lkw
open Go.RowKit
set_option linter.unusedSimpArgs false
set_option linter.unusedVariables false
set_option maxRecDepth 50000

/-- of: the error; where there is none, what the word says -/
def ofE (x n : Int) : Int := match saysV x with | none => 3 | some _ => if 0 ≤ n ∧ n < 4 then 0 else 2
theorem of_any (w : World) (x n : Int) (hx : 0 ≤ x ∧ x < 18446744073709551616) : Calls Try.prog 27 #[.int .u64 x, .int .i64 n] w fun e w' =>
    (∃ o v, e = .returned (.tuple #[.agg #[.int .i64 o, .int .u64 v], .int .i64 (ofE x n)]) ∧ (ofE x n = 0 → saysV x = some (o, v))) ∧ Below w.heap.size w w' := by
  have HS := Lib.hid (fun W => split_any W x hx)
  go_enter Try.func27, Try.ntmps27
  go_wp2_with fail
  have l0 : Below w.heap.size w (w.alloc (.cells #[.int .i64 0, .int .u64 0] 51)) := by repeat (first | (with_reducible exact Below.refl _ _) | (with_reducible apply Below.drew) | (with_reducible refine below_drewN ?_ _) | (with_reducible refine below_alloc' ?_ ?_ _; (focus ((try simp) <;> omega))) | (with_reducible refine below_set' ?_ ?_ _; (focus ((try simp) <;> omega))))
  have hres := blk_new w (.cells #[.int .i64 0, .int .u64 0] 51)
  generalize w.alloc (.cells #[.int .i64 0, .int .u64 0] 51) = w0 at *
  have hlt0 := blk_lt hres
  refine (HS.out _).mono ?_
  rintro e w1 ⟨o, v, rfl, hp, l1⟩
  have hr := bblk l1 hres
  have L1 := Lib.hid (btrans l0 (Nat.le_refl _) l1); have HP := Lib.hid hp; have HRR := Lib.hid hr
  have hlt1 := blk_lt hr
  clear l0 l1 hp HS hres hr
  go_upto_block 0 with (fail)
  refine (show ∀ (W1 : World), Below w1.heap.size w1 W1 → W1.heap[w1.heap.size]? = some (.cells #[.int .i64 o, .int .u64 v] 51 (0, 0)) → Code.wp _ _ _ _ W1 from ?_) _ (by repeat (first | (with_reducible exact Below.refl _ _) | (with_reducible apply Below.drew) | (with_reducible refine below_drewN ?_ _) | (with_reducible refine below_alloc' ?_ ?_ _; (focus ((try simp) <;> omega))) | (with_reducible refine below_set' ?_ ?_ _; (focus ((try simp) <;> omega))))) (by simp [↓heap_alloc_eq, ↓heap_set_eq, ↓heap_drew_eq, ↓heap_drewN_eq, setObj, size_drewN])
  intro W1 l2 hx2
  have hr := bblk l2 HRR.out
  have r0 := blk_cell hr 0; have r1 := blk_cell hr 1
  have rf := blk_free hr
  have p0 := blk_cell hx2 0; have p1 := blk_cell hx2 1
  simp only [List.getElem?_toArray, List.getElem?_cons_zero, List.getElem?_cons_succ] at r0 r1 p0 p1
  have L2 := Lib.hid (btrans L1.out (Nat.le_refl _) l2)
  clear l2 hx2 hr HRR L1
  cases hs : saysV x with
  | none =>
    have hE : ofE x n = 3 := by simp [ofE, hs]
    have HE := Lib.hid hE; clear hE hs
    simp only [Option.isSome_none]
    go_wp2_with fail
    refine bodyPost_ret (v := .tuple #[.agg #[.int .i64 0, .int .u64 0], .int .i64 3]) ?_ rfl ?_; (focus (simp [results, Try.results27, go_sem, r0, r1, p0, p1]; done))
    refine ⟨⟨0, 0, by rw [HE.out], fun h => by rw [HE.out] at h; cases h⟩, ?_⟩
    repeat (first | (with_reducible exact L2.out) | (with_reducible refine below_alloc' ?_ ?_ _; (focus ((try simp) <;> omega))) | (with_reducible refine below_set' ?_ ?_ _; (focus ((try simp) <;> omega))))
  | some p =>
    have hpp := HP.out p hs
    subst hpp
    have HSS := Lib.hid hs
    have hE : ofE x n = if 0 ≤ n ∧ n < 4 then 0 else 2 := by simp [ofE, hs]
    have HE := Lib.hid hE; clear hE hs
    simp only [Option.isSome_some]
    go_wp2_with fail
    refine (may_any _ n).mono ?_
    rintro e w2 ⟨rfl, rfl⟩
    by_cases h : 0 ≤ n ∧ n < 4
    · have hd : decide (0 ≤ n ∧ n < 4) = true := by simpa using h
      have hE2 := HE.out
      rw [if_pos h] at hE2
      have HE2 := Lib.hid hE2; clear hE2 h
      rw [hd]
      go_wp2_with fail
      refine bodyPost_ret (v := .tuple #[.agg #[.int .i64 o, .int .u64 v], .int .i64 0]) ?_ rfl ?_; (focus (simp [results, Try.results27, go_sem, r0, r1, p0, p1]; done))
      refine ⟨⟨o, v, by rw [HE2.out], fun _ => HSS.out⟩, ?_⟩
      repeat (first | (with_reducible exact L2.out) | (with_reducible refine below_alloc' ?_ ?_ _; (focus ((try simp) <;> omega))) | (with_reducible refine below_set' ?_ ?_ _; (focus ((try simp) <;> omega))))
    · have hd : decide (0 ≤ n ∧ n < 4) = false := by simpa using h
      have hE2 := HE.out
      rw [if_neg h] at hE2
      have HE2 := Lib.hid hE2; clear hE2 h
      rw [hd]
      go_wp2_with fail
      refine bodyPost_ret (v := .tuple #[.agg #[.int .i64 0, .int .u64 0], .int .i64 2]) ?_ rfl ?_; (focus (simp [results, Try.results27, go_sem, r0, r1, p0, p1]; done))
      refine ⟨⟨0, 0, by rw [HE2.out], fun h => by rw [HE2.out] at h; cases h⟩, ?_⟩
      repeat (first | (with_reducible exact L2.out) | (with_reducible refine below_alloc' ?_ ?_ _; (focus ((try simp) <;> omega))) | (with_reducible refine below_set' ?_ ?_ _; (focus ((try simp) <;> omega))))

def pairV (e : Int) (r : Int × Int) : Int × Int := if e ≠ 0 then (0, e) else r
def lockV (x n : Int) : Int × Int :=
  if ofE x n ≠ 0 then (0, ofE x n) else match saysV x with
    | none => (0, 3)
    | some (o, v) => if o = n then (0, 6) else if o ≠ -1 then (0, 7) else saidV n v
theorem says_ver {x o v : Int} (hx : 0 ≤ x) (h : saysV x = some (o, v)) : 0 ≤ v ∧ v = x / 32 := by
  unfold saysV at h
  split at h
  · split at h
    · injection h with h; injection h with h1 h2; omega
    · split at h
      · injection h with h; injection h with h1 h2; omega
      · cases h
  · cases h
theorem lock_any (w : World) (x n : Int) (hx : 0 ≤ x ∧ x < 18446744073709551616) : Calls Try.prog 18 #[.int .u64 x, .int .i64 n] w fun e w' =>
    e = .returned (.tuple #[.int .u64 (lockV x n).1, .int .i64 (lockV x n).2]) ∧ Below w.heap.size w w' := by
  have HS := Lib.hid (of_any w x n hx)
  by_cases hE : ofE x n = 0
  · rw [hE] at HS
    have HE := Lib.hid hE; clear hE
    go_enter Try.func18, Try.ntmps18
    go_wp2_with fail
    refine HS.out.mono ?_
    rintro e w1 ⟨⟨o, v, rfl, hp⟩, l1⟩
    have hsv := hp trivial
    have hv := (says_ver hx.1 hsv).1
    have hl : lockV x n = if o = n then (0, 6) else if o ≠ -1 then (0, 7) else saidV n v := by rw [lockV, HE.out, if_neg (by decide), hsv]
    have HLV := Lib.hid hl; have L1 := Lib.hid l1
    clear hl l1 hp hsv HS
    have HSD := Lib.hid (fun W => said_any W n v hv)
    generalize saidV n v = r at *
    obtain ⟨q1, q2⟩ := r
    by_cases h1 : o = n
    · have hq : (o == n) = true := by simpa using h1
      have hl := HLV.out
      rw [if_pos h1] at hl
      have HL2 := Lib.hid hl; clear hl h1 HLV
      go_wp2_with fail
      go_ret2
      exact ⟨by rw [HL2.out]; rfl, btrans L1.out (Nat.le_refl _) (by repeat (first | (with_reducible exact Below.refl _ _) | (with_reducible apply Below.drew) | (with_reducible refine below_drewN ?_ _) | (with_reducible refine below_alloc' ?_ ?_ _; (focus ((try simp) <;> omega))) | (with_reducible refine below_set' ?_ ?_ _; (focus ((try simp) <;> omega)))))⟩
    · have hq : (o == n) = false := by simpa using h1
      have hl := HLV.out
      rw [if_neg h1] at hl
      by_cases h2 : o = -1
      · have hq2 : (o != -1) = false := by simpa using h2
        rw [if_neg (by simpa using h2)] at hl
        have HL2 := Lib.hid hl; clear hl h1 h2 HLV
        go_wp2_with fail
        refine (HSD.out _).mono ?_
        rintro e w2 ⟨rfl, l2⟩
        have L2 := Lib.hid (btrans (btrans L1.out (Nat.le_refl _) (show Below w1.heap.size w1 _ by repeat (first | (with_reducible exact Below.refl _ _) | (with_reducible apply Below.drew) | (with_reducible refine below_drewN ?_ _) | (with_reducible refine below_alloc' ?_ ?_ _; (focus ((try simp) <;> omega))) | (with_reducible refine below_set' ?_ ?_ _; (focus ((try simp) <;> omega)))))) (Nat.le_refl _) l2)
        clear l2
        go_wp2_with fail
        go_ret2
        exact ⟨by rw [HL2.out]; rfl, L2.out⟩
      · have hq2 : (o != -1) = true := by simpa using h2
        rw [if_pos h2] at hl
        have HL2 := Lib.hid hl; clear hl h1 h2 HLV
        go_wp2_with fail
        go_ret2
        exact ⟨by rw [HL2.out]; rfl, btrans L1.out (Nat.le_refl _) (by repeat (first | (with_reducible exact Below.refl _ _) | (with_reducible apply Below.drew) | (with_reducible refine below_drewN ?_ _) | (with_reducible refine below_alloc' ?_ ?_ _; (focus ((try simp) <;> omega))) | (with_reducible refine below_set' ?_ ?_ _; (focus ((try simp) <;> omega)))))⟩
  · have hl : lockV x n = (0, ofE x n) := by rw [lockV, if_pos hE]
    have HL2 := Lib.hid hl
    obtain ⟨ee, he⟩ : ∃ ee, ofE x n = ee := ⟨_, rfl⟩
    rw [he] at HS HL2 hE
    have hq : (ee != 0) = true := by simpa using hE
    clear he hl
    go_enter Try.func18, Try.ntmps18
    go_wp2_with fail
    refine HS.out.mono ?_
    rintro e w1 ⟨⟨o, v, rfl, hp⟩, l1⟩
    have L1 := Lib.hid l1; clear l1 hp HS hE
    go_wp2_with fail
    go_ret2
    exact ⟨by rw [HL2.out]; rfl, btrans L1.out (Nat.le_refl _) (by repeat (first | (with_reducible exact Below.refl _ _) | (with_reducible apply Below.drew) | (with_reducible refine below_drewN ?_ _) | (with_reducible refine below_alloc' ?_ ?_ _; (focus ((try simp) <;> omega))) | (with_reducible refine below_set' ?_ ?_ _; (focus ((try simp) <;> omega)))))⟩

def restoreV (x n : Int) : Int × Int :=
  if ofE x n ≠ 0 then (0, ofE x n) else match saysV x with
    | none => (0, 3)
    | some (o, v) => if o = n then saidV (-1) v else (0, 8)
def unlockV (x n u : Int) : Int × Int :=
  if ofE x n ≠ 0 then (0, ofE x n) else if 1099511627776 < u then (0, 2) else match saysV x with
    | none => (0, 3)
    | some (o, v) => if o = n ∧ v ≤ u then saidV (-1) u else (0, 8)
theorem unlock_any (w : World) (x n u : Int) (hx : 0 ≤ x ∧ x < 18446744073709551616) (hu : 0 ≤ u) : Calls Try.prog 23 #[.int .u64 x, .int .i64 n, .int .u64 u] w fun e w' =>
    e = .returned (.tuple #[.int .u64 (unlockV x n u).1, .int .i64 (unlockV x n u).2]) ∧ Below w.heap.size w w' := by
  have HS := Lib.hid (of_any w x n hx)
  by_cases hE : ofE x n = 0
  · rw [hE] at HS
    have HE := Lib.hid hE; clear hE
    go_enter Try.func23, Try.ntmps23
    go_wp2_with fail
    refine HS.out.mono ?_
    rintro e w1 ⟨⟨o, v, rfl, hp⟩, l1⟩
    have hsv := hp trivial
    have hv := (says_ver hx.1 hsv).1
    have hl : unlockV x n u = if 1099511627776 < u then (0, 2) else if o = n ∧ v ≤ u then saidV (-1) u else (0, 8) := by rw [unlockV, HE.out, if_neg (by decide), hsv]
    have HLV := Lib.hid hl; have L1 := Lib.hid l1
    clear hl l1 hp hsv HS
    have HSD := Lib.hid (fun W => free_any W u hu)
    generalize saidV (-1) u = r at *
    obtain ⟨q1, q2⟩ := r
    have hl := HLV.out
    by_cases h0 : 1099511627776 < u
    · have hd : decide (1099511627776 < u) = true := by simpa using h0
      rw [if_pos h0] at hl
      have HL2 := Lib.hid hl; clear hl h0 HLV
      go_wp2_with fail
      go_ret2
      exact ⟨by rw [HL2.out]; rfl, btrans L1.out (Nat.le_refl _) (by repeat (first | (with_reducible exact Below.refl _ _) | (with_reducible apply Below.drew) | (with_reducible refine below_drewN ?_ _) | (with_reducible refine below_alloc' ?_ ?_ _; (focus ((try simp) <;> omega))) | (with_reducible refine below_set' ?_ ?_ _; (focus ((try simp) <;> omega)))))⟩
    · have hd : decide (1099511627776 < u) = false := by simpa using h0
      rw [if_neg h0] at hl
      by_cases h1 : o = n
      · have hq : (o != n) = false := by simpa using h1
        by_cases h2 : v ≤ u
        · have hd2 : decide (u < v) = false := by simpa using h2
          rw [if_pos ⟨h1, h2⟩] at hl
          have HL2 := Lib.hid hl; clear hl h1 h2 h0 HLV
          go_wp2_with fail
          refine (HSD.out _).mono ?_
          rintro e w2 ⟨rfl, l2⟩
          have L2 := Lib.hid (btrans (btrans L1.out (Nat.le_refl _) (show Below w1.heap.size w1 _ by repeat (first | (with_reducible exact Below.refl _ _) | (with_reducible apply Below.drew) | (with_reducible refine below_drewN ?_ _) | (with_reducible refine below_alloc' ?_ ?_ _; (focus ((try simp) <;> omega))) | (with_reducible refine below_set' ?_ ?_ _; (focus ((try simp) <;> omega)))))) (Nat.le_refl _) l2)
          clear l2
          go_wp2_with fail
          go_ret2
          exact ⟨by rw [HL2.out]; rfl, L2.out⟩
        · have hd2 : decide (u < v) = true := by simp; omega
          rw [if_neg (fun h => h2 h.2)] at hl
          have HL2 := Lib.hid hl; clear hl h1 h2 h0 HLV
          go_wp2_with fail
          go_ret2
          exact ⟨by rw [HL2.out]; rfl, btrans L1.out (Nat.le_refl _) (by repeat (first | (with_reducible exact Below.refl _ _) | (with_reducible apply Below.drew) | (with_reducible refine below_drewN ?_ _) | (with_reducible refine below_alloc' ?_ ?_ _; (focus ((try simp) <;> omega))) | (with_reducible refine below_set' ?_ ?_ _; (focus ((try simp) <;> omega)))))⟩
      · have hq : (o != n) = true := by simpa using h1
        rw [if_neg (fun h => h1 h.1)] at hl
        have HL2 := Lib.hid hl; clear hl h1 h0 HLV
        go_wp2_with fail
        go_ret2
        exact ⟨by rw [HL2.out]; rfl, btrans L1.out (Nat.le_refl _) (by repeat (first | (with_reducible exact Below.refl _ _) | (with_reducible apply Below.drew) | (with_reducible refine below_drewN ?_ _) | (with_reducible refine below_alloc' ?_ ?_ _; (focus ((try simp) <;> omega))) | (with_reducible refine below_set' ?_ ?_ _; (focus ((try simp) <;> omega)))))⟩
  · have hl : unlockV x n u = (0, ofE x n) := by rw [unlockV, if_pos hE]
    have HL2 := Lib.hid hl
    obtain ⟨ee, he⟩ : ∃ ee, ofE x n = ee := ⟨_, rfl⟩
    rw [he] at HS HL2 hE
    have hq : (ee != 0) = true := by simpa using hE
    clear he hl
    go_enter Try.func23, Try.ntmps23
    go_wp2_with fail
    refine HS.out.mono ?_
    rintro e w1 ⟨⟨o, v, rfl, hp⟩, l1⟩
    have L1 := Lib.hid l1; clear l1 hp HS hE
    go_wp2_with fail
    go_ret2
    exact ⟨by rw [HL2.out]; rfl, btrans L1.out (Nat.le_refl _) (by repeat (first | (with_reducible exact Below.refl _ _) | (with_reducible apply Below.drew) | (with_reducible refine below_drewN ?_ _) | (with_reducible refine below_alloc' ?_ ?_ _; (focus ((try simp) <;> omega))) | (with_reducible refine below_set' ?_ ?_ _; (focus ((try simp) <;> omega)))))⟩

def passesV (x n u : Int) : Bool := match saysV x with | none => false | some (o, v) => (o == -1 || o == n) && decide (v ≤ u)
theorem passes_any (w : World) (x n u : Int) (hx : 0 ≤ x ∧ x < 18446744073709551616) : Calls Try.prog 11 #[.int .u64 x, .int .i64 n, .int .u64 u] w fun e w' =>
    e = .returned (.bool (passesV x n u)) ∧ Below w.heap.size w w' := by
  have HS := Lib.hid (split_any w x hx)
  go_enter Try.func11, Try.ntmps11
  go_wp2_with fail
  refine HS.out.mono ?_
  rintro e w1 ⟨o, v, rfl, hp, l1⟩
  have L1 := Lib.hid l1; have HP := Lib.hid hp
  clear l1 hp HS
  cases hs : saysV x with
  | none =>
    have hr : passesV x n u = false := by simp [passesV, hs]
    have HR := Lib.hid hr; clear hr hs
    simp only [Option.isSome_none]
    go_wp2_with fail
    go_ret
    exact ⟨by rw [HR.out]; rfl, btrans L1.out (Nat.le_refl _) (by repeat (first | (with_reducible exact Below.refl _ _) | (with_reducible apply Below.drew) | (with_reducible refine below_drewN ?_ _) | (with_reducible refine below_alloc' ?_ ?_ _; (focus ((try simp) <;> omega))) | (with_reducible refine below_set' ?_ ?_ _; (focus ((try simp) <;> omega)))))⟩
  | some p =>
    have hpp := HP.out p hs
    subst hpp
    have hr : passesV x n u = ((o == -1 || o == n) && decide (v ≤ u)) := by simp [passesV, hs]
    simp only [Option.isSome_some]
    clear hs HP
    by_cases h1 : (o == -1) = true <;> by_cases h2 : (o == n) = true <;> by_cases h3 : decide (v ≤ u) = true <;> (try simp only [Bool.not_eq_true] at h1 h2 h3) <;> rw [h1, h2, h3] at hr <;> have HR := Lib.hid hr <;> clear hr <;> (go_wp2_with fail) <;> go_ret <;> exact ⟨by rw [HR.out]; rfl, btrans L1.out (Nat.le_refl _) (by repeat (first | (with_reducible exact Below.refl _ _) | (with_reducible apply Below.drew) | (with_reducible refine below_drewN ?_ _) | (with_reducible refine below_alloc' ?_ ?_ _; (focus ((try simp) <;> omega))) | (with_reducible refine below_set' ?_ ?_ _; (focus ((try simp) <;> omega)))))⟩
end Go.Proofs.Ytboofagdcohgnaa.Lkw
