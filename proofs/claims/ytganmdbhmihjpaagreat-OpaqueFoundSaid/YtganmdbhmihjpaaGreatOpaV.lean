/- What is found is legal; where nothing is found, no order is. -/
import Derived.Test.YtganmdbhmihjpaaGreatOpaP
import Derived.Test.YtganmdbhmihjpaaGreatOpaS
namespace Go.Proofs.YtganmdbhmihjpaaGreat.Opa
open Go.RowKit Go.Proofs.YtganmdbhmihjpaaGreat.Wri Go.Proofs.YtganmdbhmihjpaaGreat.His
set_option linter.unusedSimpArgs false
set_option linter.unusedVariables false
set_option maxRecDepth 50000

theorem sorted_unique : ∀ xs ys : List Int, xs.Perm ys → xs.Pairwise (fun x y => x ≤ y) → ys.Pairwise (fun x y => x ≤ y) → xs = ys := by
  intro xs
  induction xs with
  | nil => intro ys hp _ _; exact (List.nil_perm.1 hp).symm
  | cons x xs ih =>
    intro ys hp hx hy
    cases ys with
    | nil => exact absurd hp.length_eq (by simp)
    | cons y ys =>
      have h1 := List.pairwise_cons.1 hx; have h2 := List.pairwise_cons.1 hy
      have a1 : y = x ∨ y ∈ xs := by simpa using hp.mem_iff.2 (List.mem_cons_self (a := y) (l := ys))
      have a2 : x = y ∨ x ∈ ys := by simpa using hp.mem_iff.1 (List.mem_cons_self (a := x) (l := xs))
      have e : x = y := by
        rcases a1 with a1 | a1
        · exact a1.symm
        · rcases a2 with a2 | a2
          · exact a2
          · have := h1.1 y a1; have := h2.1 x a2; omega
      subst e
      rw [ih ys (List.Perm.cons_inv hp) h1.2 h2.2]
theorem sortL_of_perm {xs ys : List Int} (h : xs.Perm ys) : sortL xs = sortL ys :=
  sorted_unique _ _ ((sortL_perm xs).trans (h.trans (sortL_perm ys).symm)) (sortL_le xs) (sortL_le ys)
theorem alike_perm {xs ys : List Int} (h : xs.Perm ys) (hn : xs.Nodup) : alikeB xs ys = true := by
  unfold alikeB
  rw [sortL_of_perm h]
  simp [hn]
theorem search_sound (l : List Ev) (f : Int → One) (all : List Int) : ∀ (k : Nat) (order vs o : List Int), order.Nodup → (∀ x ∈ order, x ∈ all) → searchL l f all k order vs = some o →
    ∃ rest, o = order ++ rest ∧ o.Nodup ∧ (∀ x ∈ o, x ∈ all) ∧ o.length = all.length ∧ ∀ i, ∃ vs', firstL l f rest i vs = (0, 0, vs') := by
  intro k
  induction k with
  | zero =>
    intro order vs o hnd hin h
    rw [searchL] at h
    split at h
    · injection h with h
      subst h
      rename_i he
      exact ⟨[], by simp, hnd, hin, he, fun i => ⟨vs, rfl⟩⟩
    · cases h
  | succ k ih =>
    intro order vs o hnd hin h
    rw [searchL] at h
    split at h
    · injection h with h
      subst h
      rename_i he
      exact ⟨[], by simp, hnd, hin, he, fun i => ⟨vs, rfl⟩⟩
    · obtain ⟨x, hx, hF⟩ := List.exists_of_findSome?_eq_some h
      split at hF
      · rename_i hc
        unfold candB at hc
        simp only [Bool.and_eq_true, Bool.not_eq_true', decide_eq_false_iff_not] at hc
        obtain ⟨rest, ho, hn2, hi2, hl2, hr⟩ := ih (order ++ [x]) (layL (f x) vs) o ((nodup_snoc _ _).2 ⟨hnd, hc.1.1⟩) (fun y hy => by
          rcases List.mem_append.1 hy with hy | hy
          · exact hin y hy
          · simp at hy; rw [hy]; exact hx) hF
        refine ⟨x :: rest, by rw [ho]; simp, hn2, hi2, hl2, fun i => ?_⟩
        obtain ⟨vs', hv⟩ := hr (i + 1)
        refine ⟨vs', ?_⟩
        have ha : rest.any (fun m => beforeL m x l false) = false := by
          rw [Bool.eq_false_iff]
          intro hh
          obtain ⟨m, hm, hb⟩ := List.any_eq_true.1 hh
          rw [ho] at hn2 hi2
          have hd := (List.nodup_append.1 hn2).2.2
          have hmo : m ∉ order ++ [x] := fun h' => hd m h' m hm rfl
          simp only [List.mem_append, List.mem_singleton, not_or] at hmo
          have hma := hi2 m (List.mem_append.2 (.inr hm))
          have : all.any (badB l order x) = true := List.any_eq_true.2 ⟨m, hma, by
            unfold badB
            rw [hb]
            simp [hmo.1, hmo.2]⟩
          rw [hc.1.2] at this
          cases this
        rw [firstL, ha, if_neg (by decide), if_pos hc.2, hv]
      · cases hF
theorem search_full (l : List Ev) (f : Int → One) (all : List Int) : ∀ (rest pre vs : List Int) (k : Nat) (i : Int), (pre ++ rest).Nodup → (∀ y ∈ all, y ∈ pre ++ rest) → (∀ y ∈ rest, y ∈ all) → (pre ++ rest).length = all.length → rest.length ≤ k →
    (firstL l f rest i vs).2.1 = 0 → searchL l f all k pre vs ≠ none := by
  intro rest
  induction rest with
  | nil =>
    intro pre vs k i _ _ _ hl _ _
    rw [List.append_nil] at hl
    cases k with
    | zero => rw [searchL, if_pos hl]; simp
    | succ k => rw [searchL, if_pos hl]; simp
  | cons x rest ih =>
    intro pre vs k i hnd hall hin hl hk hf
    cases k with
    | zero => simp at hk
    | succ k =>
      rw [firstL] at hf
      split at hf
      · cases hf
      · rename_i ha
        split at hf
        · rename_i hfit
          have hd := (List.nodup_append.1 hnd)
          have hxp : x ∉ pre := fun h => hd.2.2 x h x (by simp) rfl
          have hca : candB l f all pre vs x = true := by
            unfold candB
            have hb : all.any (badB l pre x) = false := by
              rw [Bool.eq_false_iff]
              intro hh
              obtain ⟨m, hm, hb⟩ := List.any_eq_true.1 hh
              unfold badB at hb
              simp only [Bool.and_eq_true, bne_iff_ne, ne_eq, Bool.not_eq_true', decide_eq_false_iff_not] at hb
              have h1 := hall m hm
              simp only [List.mem_append, List.mem_cons] at h1
              have h2 : m ∈ rest := (h1.resolve_left hb.1.2).resolve_left hb.1.1
              exact ha (List.any_eq_true.2 ⟨m, h2, hb.2⟩)
            rw [hb, hfit]
            simp [hxp]
          have e : pre ++ x :: rest = pre ++ [x] ++ rest := by simp
          rw [e] at hnd hl
          have hr := ih (pre ++ [x]) (layL (f x) vs) k (i + 1) hnd (fun y hy => by rw [← e]; exact hall y hy) (fun y hy => hin y (by simp [hy])) hl (by simpa using hk) hf
          rw [searchL, if_neg (by rw [← hl]; simp)]
          intro hn
          have := List.findSome?_eq_none_iff.1 hn x (hin x (by simp))
          rw [if_pos hca] at this
          exact hr this
        · cases hf
theorem first_zero (l : List Ev) (f : Int → One) : ∀ (o : List Int) (i : Int) (vs : List Int), (firstL l f o i vs).2.1 = 0 → (firstL l f o i vs).1 = 0 := by
  intro o
  induction o with
  | nil => intro i vs _; rfl
  | cons x o ih =>
    intro i vs h
    rw [firstL] at h ⊢
    split at h
    · cases h
    · rename_i ha
      split at h
      · rename_i hf
        rw [if_neg ha, if_pos hf]
        exact ih _ _ h
      · cases h
theorem legal_zero {l : List Ev} {vs order C : List Int} (h : (legalL l vs order C).2.1 = 0) : (legalL l vs order C).1 = 0 := by
  unfold legalL at h ⊢
  split
  · rfl
  · rename_i hc
    rw [if_neg hc] at h
    exact first_zero _ _ _ _ _ h
theorem found_legal {l : List Ev} {vs C o : List Int} (h : foundL l vs C = (0, o)) : (legalL l vs o C).1 = 0 ∧ (legalL l vs o C).2.1 = 0 ∧ o.length = (attL l).length := by
  unfold foundL at h
  split at h
  · cases h
  · rename_i hf
    split at h
    · cases h
    · rename_i hp
      split at h
      · cases h
      · cases hs : lookL l vs C with
        | none => rw [hs] at h; cases h
        | some o' =>
          rw [hs] at h
          injection h with _ h
          subst h
          obtain ⟨rest, ho, hnd, hin, hlen, hr⟩ := search_sound l (oneOf l C) (attL l) _ [] vs o' (by simp) (by simp) hs
          rw [List.nil_append] at ho
          subst ho
          obtain ⟨vs', hv⟩ := hr 0
          have hperm := perm_of_sub o' (attL l) hnd hin hlen
          have hc : checkE l vs o' C = 0 := by
            unfold checkE
            rw [if_neg hf, alike_perm hperm hnd]
            exact (pendE_or l C).resolve_right hp
          unfold legalL
          rw [if_neg (by rw [hc]; decide), hv]
          exact ⟨rfl, rfl, hlen⟩
theorem found_none {l : List Ev} {vs C o : List Int} {e : Int} (h : foundL l vs C = (e, o)) (he : e ≠ 0) :
    o = [] ∧ ((legalL l vs (attL l) C).2.1 ≠ 0 ∨ e = 4) ∧ ((legalL l vs (attL l) C).2.1 ≠ 0 ∨ (legalL l vs (attL l) C).1 = 0) := by
  have h3 : (legalL l vs (attL l) C).2.1 ≠ 0 ∨ (legalL l vs (attL l) C).1 = 0 := by
    by_cases hz : (legalL l vs (attL l) C).2.1 = 0
    · exact .inr (legal_zero hz)
    · exact .inl hz
  unfold foundL at h
  split at h
  · rename_i hf
    injection h with h1 h2
    subst h2
    refine ⟨rfl, .inl ?_, h3⟩
    unfold legalL checkE
    rw [hf]
    simp
  · rename_i hf
    have hc : checkE l vs (attL l) C = pendE l C := by
      unfold checkE
      rw [if_neg hf, alike_perm (List.Perm.refl _) (attL_nodup l)]
      rfl
    split at h
    · rename_i hp
      injection h with h1 h2
      subst h2
      refine ⟨rfl, .inl ?_, h3⟩
      unfold legalL
      rw [hc, hp]
      simp
    · rename_i hp
      have hp0 := (pendE_or l C).resolve_right hp
      split at h
      · injection h with h1 h2
        exact ⟨h2.symm, .inr h1.symm, h3⟩
      · cases hs : lookL l vs C with
        | some o' =>
          rw [hs] at h
          injection h with h1 h2
          exact absurd h1.symm he
        | none =>
          rw [hs] at h
          injection h with h1 h2
          refine ⟨h2.symm, .inl fun hz => ?_, h3⟩
          unfold legalL at hz
          rw [if_neg (by rw [hc, hp0]; decide)] at hz
          exact search_full l (oneOf l C) (attL l) (attL l) [] vs (attL l).length 0 (by simpa using attL_nodup l) (by simp) (by simp) (by simp) (Nat.le_refl _) hz hs
end Go.Proofs.YtganmdbhmihjpaaGreat.Opa
