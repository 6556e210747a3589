/- Without the aborted attempts' events the heap is the same. -/
import Derived.Test.YtganmdbhmihjpaaGreatOpaV
namespace Go.Proofs.YtganmdbhmihjpaaGreat.Opa
open Go.RowKit Go.Proofs.YtganmdbhmihjpaaGreat.Wri Go.Proofs.YtganmdbhmihjpaaGreat.His
set_option linter.unusedSimpArgs false
set_option linter.unusedVariables false
set_option maxRecDepth 50000

/-- the events of some attempts -/
def kp (p : Int → Bool) (l : List Ev) : List Ev := l.filter fun x => p x.a
theorem cut_kp (p : Int → Bool) (l : List Ev) (n : Int) : cutL (kp p l) n = if p n then cutL l n else [] := by
  unfold cutL kp
  rw [List.filter_filter]
  split
  · rename_i h
    refine List.filter_congr fun x _ => ?_
    cases hx : x.a == n
    · rfl
    · have : x.a = n := by simpa using hx
      rw [this, h]; rfl
  · rename_i h
    refine List.filter_eq_nil_iff.2 fun x _ => ?_
    intro hh
    simp only [Bool.and_eq_true, beq_iff_eq] at hh
    rw [hh.1] at hh
    exact h hh.2
theorem state_kp {p : Int → Bool} (l : List Ev) {n : Int} (h : p n = true) : stateL (kp p l) n = stateL l n := by
  rw [← stateL_cut (kp p l), cut_kp, if_pos h, stateL_cut]
theorem one_kp {p : Int → Bool} (l : List Ev) (C : List Int) {n : Int} (h : p n = true) : oneOf (kp p l) C n = oneOf l C n := by
  unfold oneOf
  rw [state_kp l h]
  have e : cutL (kp p l) n = cutL l n := by rw [cut_kp, if_pos h]
  unfold readsL ownL ownOk
  rw [e]
theorem good_kp {l : List Ev} (h : His.Good l) (p : Int → Bool) : His.Good (kp p l) := by
  refine good_of_cuts _ fun n => ?_
  rw [cut_kp]
  split
  · exact h.cut n
  · exact fun i x hx => by simp at hx
theorem kp_snoc (p : Int → Bool) (l : List Ev) (x : Ev) : kp p (l ++ [x]) = kp p l ++ (if p x.a then [x] else []) := by
  unfold kp
  rw [List.filter_append]
  cases h : p x.a <;> simp [h]
theorem att_kp (p : Int → Bool) : ∀ l : List Ev, attL (kp p l) = (attL l).filter p := by
  refine snocInd rfl fun l x ih => ?_
  rw [kp_snoc, attL_snoc]
  cases h : p x.a with
  | false =>
    rw [if_neg (by simp), List.append_nil, ih]
    unfold attF
    split
    · rw [List.filter_append]; simp [h]
    · rfl
  | true =>
    rw [if_pos rfl, attL_snoc, ih]
    unfold attF
    by_cases hc : x.k = 1 ∧ x.a ∉ attL l
    · rw [if_pos hc, if_pos ⟨hc.1, fun hm => hc.2 (List.mem_filter.1 hm).1⟩, List.filter_append]
      simp [h]
    · rw [if_neg hc, if_neg (fun hm => hc ⟨hm.1, fun h2 => hm.2 (List.mem_filter.2 ⟨h2, h⟩)⟩)]
theorem before_kp {p : Int → Bool} {a b : Int} (ha : p a = true) (hb : p b = true) : ∀ (l : List Ev) (e : Bool), beforeL a b (kp p l) e = beforeL a b l e := by
  intro l
  induction l with
  | nil => intro e; rfl
  | cons x l ih =>
    intro e
    unfold kp
    rw [List.filter_cons]
    split
    · rw [beforeL, beforeL]
      have := ih (e || (x.a == a && (x.k == 8 || x.k == 9)))
      unfold kp at this
      rw [this]
    · rename_i hx
      have h1 : x.a ≠ a := fun e => hx (by rw [e]; exact ha)
      have h2 : x.a ≠ b := fun e => hx (by rw [e]; exact hb)
      have := ih e
      unfold kp at this
      rw [this, beforeL, if_neg (fun h => h2 h.1), show (x.a == a) = false from beq_eq_false_iff_ne.2 h1, Bool.false_and, Bool.or_false]
theorem first_kp {p : Int → Bool} {l : List Ev} {C : List Int} (hp : ∀ n, p n = false → (oneOf l C n).com = false) : ∀ (O : List Int) (i j : Int) (vs : List Int), (firstL l (oneOf l C) O i vs).2.1 = 0 →
    firstL (kp p l) (oneOf (kp p l) C) (O.filter p) j vs = (0, 0, (firstL l (oneOf l C) O i vs).2.2) := by
  intro O
  induction O with
  | nil => intro i j vs _; rfl
  | cons n O ih =>
    intro i j vs h
    rw [firstL] at h ⊢
    split at h
    · cases h
    · rename_i ha
      split at h
      · rename_i hf
        rw [if_neg ha, if_pos hf, List.filter_cons]
        cases hn : p n with
        | false =>
          have hl : layL (oneOf l C n) vs = vs := by unfold layL; rw [hp n hn]; rfl
          rw [hl] at h ⊢
          rw [if_neg (by simp)]
          exact ih (i + 1) j vs h
        | true =>
          rw [if_pos rfl, firstL, one_kp l C hn, if_neg, if_pos hf]
          · exact ih (i + 1) (j + 1) _ h
          · intro hh
            obtain ⟨m, hm, hb⟩ := List.any_eq_true.1 hh
            have hm2 := List.mem_filter.1 hm
            rw [before_kp hm2.2 hn] at hb
            exact ha (List.any_eq_true.2 ⟨m, hm2.1, hb⟩)
      · cases h
/-- all but the aborted -/
def liveB (l : List Ev) (n : Int) : Bool := !(stateL l n == 4)
theorem legal_kept {l : List Ev} {vs O C : List Int} (h : (legalL l vs O C).2.1 = 0) :
    legalL (kp (liveB l) l) vs (O.filter (liveB l)) C = (0, 0, (legalL l vs O C).2.2) := by
  have hc : checkE l vs O C = 0 := by
    unfold legalL at h
    split at h
    · rename_i hh; exact absurd h hh
    · rename_i hh; exact Decidable.not_not.1 hh
  obtain ⟨hf, hg, h12, hperm, hnd, hpo⟩ := check_ok hc
  have hst : ∀ n ∈ C, liveB l n = true := fun n hn => by
    unfold pendOk at hpo
    simp only [Bool.and_eq_true, List.all_eq_true, beq_iff_eq] at hpo
    unfold liveB
    rw [hpo.1 n hn]; rfl
  have hpo2 : pendOk (kp (liveB l) l) C = true := by
    unfold pendOk at hpo ⊢
    simp only [Bool.and_eq_true, List.all_eq_true] at hpo ⊢
    exact ⟨fun n hn => by rw [state_kp l (hst n hn)]; exact hpo.1 n hn, hpo.2⟩
  have hc2 : checkE (kp (liveB l) l) vs (O.filter (liveB l)) C = 0 := by
    have hf2 : formE (kp (liveB l) l) vs = 0 := by
      unfold formE at hf ⊢
      split at hf
      · rename_i hh
        simp only [Bool.and_eq_true] at hh
        rw [if_pos]
        simp only [Bool.and_eq_true]
        exact ⟨⟨(goodL_iff _).2 (good_kp hg _), hh.1.2⟩, hh.2⟩
      · cases hf
    unfold checkE
    rw [hf2, if_neg (by decide), alike_perm (by rw [att_kp]; exact hperm.filter _) (hnd.sublist List.filter_sublist)]
    unfold pendE
    rw [hpo2]
    rfl
  have hcom : ∀ n, liveB l n = false → (oneOf l C n).com = false := fun n hn => by
    have h4 : stateL l n = 4 := by unfold liveB at hn; simpa using hn
    show ((stateL l n == 3) || decide (n ∈ C)) = false
    rw [h4]
    simp only [Bool.or_eq_false_iff, decide_eq_false_iff_not]
    exact ⟨rfl, fun hm => by have := hst n hm; rw [hn] at this; cases this⟩
  unfold legalL at h ⊢
  rw [hc] at h
  rw [hc, hc2]
  simp only [ne_eq, not_true_eq_false, if_false] at h ⊢
  exact first_kp hcom O 0 0 vs h
end Go.Proofs.YtganmdbhmihjpaaGreat.Opa
