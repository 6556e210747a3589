/- A small whole number as a value; the plain law of a log and the events that tell of it. -/
import Derived.Test.YtfpiecnbnoinnaaHisU
namespace Go.Proofs.Ytfpiecnbnoinnaa.His
open Go.RowKit Go.Proofs.Ytfpiecnbnoinnaa.Wri
set_option linter.unusedSimpArgs false
set_option linter.unusedVariables false
set_option maxRecDepth 50000

theorem near_all : (List.range 256).all (fun n => decide (FloatKind.nearest .f64 (n : Nat) < 18446744073709551616)) = true := by kernel_rfl
theorem near_lt {n : Int} (h : 0 ≤ n ∧ n < 256) : FloatKind.nearest .f64 n < 18446744073709551616 := by
  have := List.all_eq_true.1 near_all n.toNat (List.mem_range.2 (by omega))
  have e : ((n.toNat : Nat) : Int) = n := by omega
  rw [e] at this
  exact of_decide_eq_true this
theorem canon_any (w : World) (v : Int) (hv : 0 ≤ v ∧ v < 18446744073709551616) : Calls Try.prog 66 #[.int .u64 v] w fun e w' => ∃ u : Int, e = .returned (.int .u64 u) ∧ (0 ≤ u ∧ u < 18446744073709551616) ∧ w = w' := by
  have HV := Lib.hid hv
  have hr := vRight_any w v hv
  cases h : rightVal v with
  | true =>
    rw [h] at hr
    have HR := Lib.hid hr
    clear hr h hv
    go_enter Try.func66, Try.ntmps66
    go_wp2_with fail
    refine HR.out.mono ?_
    rintro e w1 ⟨rfl, rfl⟩
    go_wp2_with fail
    go_ret
    exact ⟨v, rfl, HV.out, rfl⟩
  | false =>
    rw [h] at hr
    have HR := Lib.hid hr
    clear hr h hv
    go_enter Try.func66, Try.ntmps66
    go_wp2_with fail
    refine HR.out.mono ?_
    rintro e w1 ⟨rfl, rfl⟩
    go_wp2_with fail
    go_ret
    exact ⟨_, rfl, by omega, rfl⟩
theorem of_any (w : World) (b : Nat) (hb : b < 18446744073709551616) : Calls Try.prog 48 #[.float .f64 b] w fun e w' => ∃ u : Int, e = .returned (.int .u64 u) ∧ (0 ≤ u ∧ u < 18446744073709551616) ∧ w = w' := by
  have hfb : ∀ W : World, (callFunc 67 #[.float .f64 b]).run Try.prog W = .ok (.value (.int .u64 b)) W := fun W => by kernel_rfl
  have HC := Lib.hid (canon_any w (b : Int) (by omega))
  go_enter Try.func48, Try.ntmps48
  go_wp2_with fail
  refine HC.out.mono ?_
  rintro e w1 ⟨u, rfl, hu, rfl⟩
  have HU := Lib.hid hu
  clear hu
  go_wp2_with fail
  go_ret
  exact ⟨u, rfl, HU.out, rfl⟩
theorem vInt_any (w : World) (n : Int) (h : 0 ≤ n ∧ n < 256) : Calls Try.prog 31 #[.int .i64 n] w fun e w' => ∃ u : Int, e = .returned (.tuple #[.int .u64 u, .bool true]) ∧ (0 ≤ u ∧ u < 18446744073709551616) ∧ w = w' := by
  have d1 : decide (n < -9007199254740992) = false := by simp; omega
  have d2 : decide (9007199254740992 < n) = false := by simp; omega
  obtain ⟨b, hb⟩ : ∃ b, FloatKind.nearest .f64 n = b := ⟨_, rfl⟩
  have hlt := near_lt h
  rw [hb] at hlt
  have hcv : ∀ W : World, (convert 3 86 (.int .i64 n)).run Try.prog W = .ok (.float .f64 b) W := fun W => by rw [← hb]; kernel_rfl
  have HO := Lib.hid (of_any w b hlt)
  clear hb hlt
  go_enter Try.func31, Try.ntmps31
  go_wp2_with fail
  refine HO.out.mono ?_
  rintro e w1 ⟨u, rfl, hu, rfl⟩
  have HU := Lib.hid hu
  clear hu
  go_wp2_with fail
  refine bodyPost_ret (results_tmp2 rfl _ _ _) rfl ?_
  exact ⟨u, rfl, HU.out, rfl⟩
/-! ### the plain law -/
theorem actN_ne {fs : List Frm} {x : Ev} (h : actN fs x ≠ 0) : actS fs x = fs := by
  unfold actN at h
  unfold actS
  split
  · rename_i hk
    rw [if_pos hk] at h
    unfold putS
    rw [if_neg h]
  · rename_i hk
    rw [if_neg hk] at h
    split
    · rename_i hk2
      rw [if_pos hk2] at h
      unfold pushN at h
      unfold pushS
      split
      · rfl
      · rename_i h5
        rw [if_neg h5] at h
        exact absurd rfl h
    · rename_i hk2
      rw [if_neg hk2] at h
      split
      · rename_i hk3
        rw [if_pos hk3] at h
        unfold dropN at h
        unfold dropS
        split
        · rfl
        · rename_i h5
          rw [if_neg h5] at h
          exact absurd rfl h
      · rename_i hk3
        rw [if_neg hk3] at h
        split
        · rename_i hk4
          rw [if_pos hk4] at h
          unfold dropN at h
          split at h
          · rename_i h5
            match fs, h5 with
            | [], _ => rfl
            | [f], _ => rfl
            | a :: b :: r, h5 => simp at h5
          · exact absurd rfl h
        · rfl
/-- events that tell of attempt 2 alone: right, it is live, and its log is fs -/
structure Tale (L : List Ev) (fs : List Frm) : Prop where
  good : Good L
  st : stA L 2 = some ⟨fs, false, false⟩
  well : WellS fs
theorem tale0 : Tale [⟨1, 2, 0, 0⟩] [[]] := ⟨(goodL_iff _).1 (by decide), by rfl, WellS.one⟩
theorem Tale.step {L : List Ev} {fs : List Frm} (h : Tale L fs) {x : Ev} (ha : x.a = 2) (hk : x.k = 3 ∨ ((x.k = 4 ∨ x.k = 5 ∨ x.k = 6) ∧ bareE x = true)) (h0 : actN fs x = 0) : Tale (L ++ [x]) (actS fs x) := by
  have hs : stepA (stA L x.a) x = some ⟨actS fs x, false, false⟩ := by
    rw [ha, h.st]
    unfold stepA
    rw [if_neg (by rw [ha]; decide)]
    rcases hk with hk | ⟨hk, hb⟩
    · simp [hk, h0]
    · rcases hk with hk | hk | hk <;> simp [hk, h0, hb]
  have h1 : (stepA (stA L x.a) x).isSome = true := by rw [hs]; rfl
  refine ⟨good_snoc h.good h1, ?_, WellS.act h.well x⟩
  rw [stA_step h.good h1, if_pos ha.symm, hs]
theorem Tale.own {L : List Ev} {fs : List Frm} (h : Tale L fs) : ownL L 2 = fs := by
  have := h.st
  unfold stA at this
  split at this
  · injection this with this
    injection this with this
  · cases this
theorem foldl_one : ∀ (l : List Ev), (∀ x ∈ l, x.k ≠ 7 ∧ x.k ≠ 8 ∧ x.k ≠ 9) → l.foldl stStep 1 = 1 := by
  intro l
  induction l with
  | nil => intro _; rfl
  | cons x l ih =>
    intro h
    have hx := h x (by simp)
    rw [List.foldl_cons, show stStep 1 x = 1 by unfold stStep; rw [if_neg hx.1, if_neg hx.2.1, if_neg hx.2.2]]
    exact ih fun y hy => h y (List.mem_cons_of_mem _ hy)
theorem hasK_no {l : List Ev} {n k : Int} (h : hasK l n k = false) : ∀ x ∈ cutL l n, x.k ≠ k := by
  intro x hx hk
  obtain ⟨h1, h2⟩ := List.mem_filter.1 hx
  obtain ⟨i, hi⟩ := List.mem_iff_getElem?.1 h1
  have : hasK l n k = true := hasK_at.2 ⟨i, x, hi, by simpa using h2, hk⟩
  rw [h] at this
  cases this
theorem Tale.live {L : List Ev} {fs : List Frm} (h : Tale L fs) : stateL L 2 = 1 := by
  have := h.st
  unfold stA at this
  split at this
  · rename_i hb
    injection this with this
    injection this with _ h7 he
    unfold endedL at he
    simp only [Bool.or_eq_false_iff] at he
    unfold stateL
    rw [if_pos hb]
    exact foldl_one _ fun x hx => ⟨hasK_no h7 x hx, hasK_no he.1 x hx, hasK_no he.2 x hx⟩
  · cases this
end Go.Proofs.Ytfpiecnbnoinnaa.His
