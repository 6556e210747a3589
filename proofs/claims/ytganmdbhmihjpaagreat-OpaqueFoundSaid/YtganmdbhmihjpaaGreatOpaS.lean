/- Of right events, one attempt behind the other: they are right, and have the order. -/
import Derived.Test.YtganmdbhmihjpaaGreatOpaR
import Derived.Test.YtganmdbhmihjpaaGreatOpaG
namespace Go.Proofs.YtganmdbhmihjpaaGreat.Opa
open Go.RowKit Go.Proofs.YtganmdbhmihjpaaGreat.Wri Go.Proofs.YtganmdbhmihjpaaGreat.His
set_option linter.unusedSimpArgs false
set_option linter.unusedVariables false
set_option maxRecDepth 50000

theorem cutL_append (l l' : List Ev) (n : Int) : cutL (l ++ l') n = cutL l n ++ cutL l' n := List.filter_append ..
theorem cutL_other (l : List Ev) {n t : Int} (h : t ≠ n) : cutL (cutL l t) n = [] := by
  refine List.filter_eq_nil_iff.2 fun x hx => ?_
  have := (List.mem_filter.1 hx).2
  simp only [beq_iff_eq] at this ⊢
  omega
theorem good_of_cuts : ∀ l : List Ev, (∀ n, His.Good (cutL l n)) → His.Good l := by
  refine snocInd (fun _ i x hx => by simp at hx) fun l x ih h => ?_
  have h1 : His.Good l := ih fun n => by
    have h2 := h n
    rw [cutL_snoc] at h2
    split at h2
    · exact h2.snoc.1
    · simpa using h2
  refine good_snoc h1 ?_
  have h2 := h x.a
  rw [cutL_snoc, if_pos rfl] at h2
  have h3 := h2.snoc.2
  rwa [stA_cut] at h3
theorem serialL_cons (l : List Ev) (t : Int) (order : List Int) : serialL l (t :: order) = cutL l t ++ serialL l order := by simp [serialL]
theorem cut_serial (l : List Ev) (n : Int) : ∀ order : List Int, order.Nodup → cutL (serialL l order) n = if n ∈ order then cutL l n else [] := by
  intro order
  induction order with
  | nil => intro _; rfl
  | cons t order ih =>
    intro hnd
    have h := List.nodup_cons.1 hnd
    rw [serialL_cons, cutL_append, ih h.2]
    by_cases ht : t = n
    · subst ht
      rw [cutL_cut, if_neg h.1, if_pos (by simp), List.append_nil]
    · rw [cutL_other l ht, List.nil_append]
      by_cases hn : n ∈ order
      · rw [if_pos hn, if_pos (by simp [hn])]
      · rw [if_neg hn, if_neg (by simp [hn]; exact fun e => ht e.symm)]
theorem serial_good {l : List Ev} (h : His.Good l) {order : List Int} (hnd : order.Nodup) : His.Good (serialL l order) := by
  refine good_of_cuts _ fun n => ?_
  rw [cut_serial l n order hnd]
  split
  · exact h.cut n
  · exact fun i x hx => by simp at hx
theorem foldl_one (t : Int) : ∀ e : List Ev, (∀ x ∈ e, x.a = t) → ∀ acc : List Int, e.foldl attF acc = if t ∈ acc then acc else if e.any (fun x => x.k == 1) then acc ++ [t] else acc := by
  intro e
  induction e with
  | nil => intro _ acc; simp
  | cons x e ih =>
    intro h acc
    have hx := h x (by simp)
    rw [List.foldl_cons, ih (fun y hy => h y (by simp [hy]))]
    by_cases ht : t ∈ acc
    · have : attF acc x = acc := by unfold attF; rw [if_neg (by rw [hx]; simp [ht])]
      rw [this, if_pos ht, if_pos ht]
    · by_cases hk : x.k = 1
      · have : attF acc x = acc ++ [t] := by unfold attF; rw [if_pos (by rw [hx]; exact ⟨hk, ht⟩), hx]
        rw [this, if_pos (by simp), if_neg ht, if_pos (by simp [hk])]
      · have : attF acc x = acc := by unfold attF; rw [if_neg (by simp [hk])]
        rw [this, if_neg ht, if_neg ht]
        simp [hk]
theorem foldl_serial (l : List Ev) : ∀ (order acc : List Int), order.Nodup → (∀ t ∈ order, t ∉ acc) → (∀ t ∈ order, hasK l t 1 = true) → (serialL l order).foldl attF acc = acc ++ order := by
  intro order
  induction order with
  | nil => intro acc _ _ _; simp [serialL]
  | cons t order ih =>
    intro acc hnd hd hk
    have h := List.nodup_cons.1 hnd
    have hc : (cutL l t).any (fun x => x.k == 1) = true := by
      obtain ⟨x, hx, he⟩ := List.any_eq_true.1 (hk t (by simp))
      simp only [Bool.and_eq_true, beq_iff_eq] at he
      exact List.any_eq_true.2 ⟨x, List.mem_filter.2 ⟨hx, by simpa using he.1⟩, by simpa using he.2⟩
    rw [serialL_cons, List.foldl_append, foldl_one t (cutL l t) (fun x hx => by simpa using (List.mem_filter.1 hx).2), if_neg (hd t (by simp)), if_pos hc,
      ih (acc ++ [t]) h.2 (fun s hs => by
        rw [List.mem_append]
        rintro (h1 | h1)
        · exact hd s (by simp [hs]) h1
        · simp at h1
          subst h1
          exact h.1 hs) (fun s hs => hk s (by simp [hs]))]
    simp
theorem serial_att {l : List Ev} {order : List Int} (hnd : order.Nodup) (hm : ∀ t ∈ order, t ∈ attL l) : attL (serialL l order) = order := by
  have := foldl_serial l order [] hnd (by simp) (fun t ht => (mem_attL l t).1 (hm t ht))
  simpa [attL] using this
theorem flat_congr {f g : Int → List Ev} : ∀ l : List Int, (∀ x ∈ l, f x = g x) → l.flatMap f = l.flatMap g := by
  intro l
  induction l with
  | nil => intro _; rfl
  | cons x l ih => intro h; rw [List.flatMap_cons, List.flatMap_cons, h x (by simp), ih fun y hy => h y (by simp [hy])]
theorem len_split (p : Ev → Bool) (l : List Ev) : (l.filter p).length + (l.filter fun x => !p x).length = l.length := by
  induction l with
  | nil => rfl
  | cons x l ih => cases h : p x <;> simp [h] <;> omega
theorem serial_len : ∀ (order : List Int) (l : List Ev), order.Nodup → (∀ x ∈ l, x.a ∈ order) → (serialL l order).length = l.length := by
  intro order
  induction order with
  | nil =>
    intro l _ h
    cases l with
    | nil => rfl
    | cons x l => exact absurd (h x (by simp)) (by simp)
  | cons t order ih =>
    intro l hnd h
    have hn := List.nodup_cons.1 hnd
    have e : serialL l order = serialL (l.filter fun x => !(x.a == t)) order := by
      unfold serialL
      refine flat_congr _ fun s hs => ?_
      unfold cutL
      rw [List.filter_filter]
      refine List.filter_congr fun x _ => ?_
      have hst : s ≠ t := fun e => hn.1 (e ▸ hs)
      cases h1 : x.a == s
      · rfl
      · have : x.a = s := by simpa using h1
        simp [this, hst]
    rw [serialL_cons, List.length_append, e, ih _ hn.2 (fun x hx => by
      have h1 := List.mem_filter.1 hx
      have h2 := h x h1.1
      simp only [Bool.not_eq_true', beq_eq_false_iff_ne] at h1
      simp only [List.mem_cons] at h2
      exact h2.resolve_left h1.2)]
    unfold cutL
    have := len_split (fun x => x.a == t) l
    omega
theorem good_in {l : List Ev} (h : His.Good l) {x : Ev} (hx : x ∈ l) : x.a ∈ attL l := by
  rw [mem_attL]
  cases hk : hasK l x.a 1 with
  | true => rfl
  | false =>
    have h1 := h.none_cut hk
    have h2 : x ∈ cutL l x.a := List.mem_filter.2 ⟨hx, by simp⟩
    rw [h1] at h2
    simp at h2
theorem attL_nodup (l : List Ev) : (attL l).Nodup := by
  induction l using snocInd with
  | h0 => simp [attL]
  | h1 l x ih =>
    rw [attL_snoc]
    unfold attF
    split
    · rename_i hc
      exact (nodup_snoc _ _).2 ⟨ih, hc.2⟩
    · exact ih
end Go.Proofs.YtganmdbhmihjpaaGreat.Opa
