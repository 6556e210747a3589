/- What became of attempts, in plain words: events, an attempt's cut, how far it is, what was before what. -/
import Derived.Test.YtfpiecnbnoinnaaLib
namespace Go.Proofs.Ytfpiecnbnoinnaa.His
open Go.RowKit
set_option linter.unusedSimpArgs false
set_option linter.unusedVariables false
set_option maxRecDepth 50000

structure Ev where
  k : Int
  a : Int
  t : Int
  v : Int
def cutL (l : List Ev) (n : Int) : List Ev := l.filter fun x => x.a == n
/-- an event of a kind of an attempt -/
def hasK (l : List Ev) (n k : Int) : Bool := l.any fun x => x.a == n && x.k == k
def stStep (s : Int) (x : Ev) : Int := if x.k = 7 then 2 else if x.k = 8 then 3 else if x.k = 9 then 4 else s
def stFold (l : List Ev) : Int := l.foldl stStep 1
def stateL (l : List Ev) (n : Int) : Int := if hasK l n 1 then stFold (cutL l n) else 0
def endedL (l : List Ev) (n : Int) : Bool := hasK l n 8 || hasK l n 9
/-- had a ended when b began? -/
def beforeL (a b : Int) : List Ev → Bool → Bool
  | [], _ => false
  | x :: l, e => if x.a = b ∧ x.k = 1 then e else beforeL a b l (e || (x.a == a && (x.k == 8 || x.k == 9)))
theorem hasK_snoc (l : List Ev) (x : Ev) (n k : Int) : hasK (l ++ [x]) n k = (hasK l n k || (x.a == n && x.k == k)) := by simp [hasK]
theorem endedL_snoc (l : List Ev) (x : Ev) (n : Int) : endedL (l ++ [x]) n = (endedL l n || (x.a == n && (x.k == 8 || x.k == 9))) := by
  unfold endedL
  rw [hasK_snoc, hasK_snoc]
  cases hasK l n 8 <;> cases hasK l n 9 <;> cases (x.a == n) <;> cases (x.k == 8) <;> cases (x.k == 9) <;> rfl
theorem cutL_snoc (l : List Ev) (x : Ev) (n : Int) : cutL (l ++ [x]) n = cutL l n ++ (if x.a = n then [x] else []) := by
  unfold cutL
  rw [List.filter_append]
  congr 1
  by_cases h : x.a = n <;> simp [h]
theorem cutL_cut (l : List Ev) (n : Int) : cutL (cutL l n) n = cutL l n := by
  unfold cutL
  rw [List.filter_filter]
  congr 1
  funext x
  cases (x.a == n) <;> rfl
theorem hasK_cut (l : List Ev) (n k : Int) : hasK (cutL l n) n k = hasK l n k := by
  unfold hasK cutL
  induction l with
  | nil => rfl
  | cons x l ih =>
    rw [List.filter_cons]
    by_cases h : (x.a == n) = true
    · rw [if_pos h, List.any_cons, List.any_cons, ih]
    · rw [if_neg h, List.any_cons, ih]
      simp at h
      simp [h]
theorem stateL_cut (l : List Ev) (n : Int) : stateL (cutL l n) n = stateL l n := by
  unfold stateL
  rw [hasK_cut, cutL_cut]
/-- the document's side: the first beginning of b, and what is seen ahead of it -/
theorem beforeL_at (a b : Int) : ∀ (l p : List Ev) (i : Nat) (x : Ev), (∀ j y, l[j]? = some y → j < i → ¬ (y.a = b ∧ y.k = 1)) → l[i]? = some x → x.a = b → x.k = 1 → beforeL a b l (endedL p a) = endedL (p ++ l.take i) a := by
  intro l
  induction l with
  | nil => intro p i x _ h; cases h
  | cons y l ih =>
    intro p i x hno hx ha hk
    cases i with
    | zero =>
      simp at hx
      subst hx
      unfold beforeL
      rw [if_pos ⟨ha, hk⟩, List.take_zero, List.append_nil]
    | succ i =>
      unfold beforeL
      rw [if_neg (hno 0 y rfl (by omega)), ← endedL_snoc, ih (p ++ [y]) i x (fun j z hz hj => hno (j + 1) z hz (by omega)) (by simpa using hx) ha hk, List.take_succ_cons, List.append_assoc]
      rfl
theorem beforeL_none (a b : Int) : ∀ (l : List Ev) (e : Bool), (∀ y ∈ l, ¬ (y.a = b ∧ y.k = 1)) → beforeL a b l e = false := by
  intro l
  induction l with
  | nil => intro e _; rfl
  | cons y l ih =>
    intro e h
    unfold beforeL
    rw [if_neg (h y (by simp))]
    exact ih _ fun z hz => h z (List.mem_cons_of_mem _ hz)
theorem stFold_snoc (l : List Ev) (x : Ev) : stFold (l ++ [x]) = stStep (stFold l) x := by simp [stFold]
/-! ### the order -/
/-- what right events have: each begins once, and has no event ahead of its beginning -/
def Well (l : List Ev) : Prop := ∀ (i : Nat) (x : Ev), l[i]? = some x → (x.k = 1 → hasK (l.take i) x.a 1 = false) ∧ (x.k ≠ 1 → hasK (l.take i) x.a 1 = true)
theorem hasK_at {l : List Ev} {n k : Int} : hasK l n k = true ↔ ∃ (i : Nat) (x : Ev), l[i]? = some x ∧ x.a = n ∧ x.k = k := by
  unfold hasK
  rw [List.any_eq_true]
  constructor
  · rintro ⟨x, hx, h⟩
    simp at h
    obtain ⟨i, hi⟩ := List.mem_iff_getElem?.1 hx
    exact ⟨i, x, hi, h.1, h.2⟩
  · rintro ⟨i, x, hi, h1, h2⟩
    exact ⟨x, List.mem_of_getElem? hi, by simp [h1, h2]⟩
theorem before_true {a b : Int} {l : List Ev} (h : beforeL a b l false = true) : ∃ (i : Nat) (x : Ev), l[i]? = some x ∧ x.a = b ∧ x.k = 1 ∧ (∀ (j : Nat) (y : Ev), l[j]? = some y → j < i → ¬ (y.a = b ∧ y.k = 1)) ∧ endedL (l.take i) a = true := by
  by_cases hex : ∃ i : Nat, ∃ y : Ev, l[i]? = some y ∧ y.a = b ∧ y.k = 1
  · have hfirst : ∀ m : Nat, (∃ y : Ev, l[m]? = some y ∧ y.a = b ∧ y.k = 1) → ∃ (i : Nat) (x : Ev), l[i]? = some x ∧ x.a = b ∧ x.k = 1 ∧ ∀ (j : Nat) (y : Ev), l[j]? = some y → j < i → ¬ (y.a = b ∧ y.k = 1) := by
      intro m
      induction m using Nat.strongRecOn with
      | _ m ih =>
        rintro ⟨y, hy, h1, h2⟩
        by_cases hj : ∃ j : Nat, j < m ∧ ∃ z : Ev, l[j]? = some z ∧ z.a = b ∧ z.k = 1
        · obtain ⟨j, hjm, hz⟩ := hj
          exact ih j hjm hz
        · exact ⟨m, y, hy, h1, h2, fun j z hz hjm hh => hj ⟨j, hjm, z, hz, hh⟩⟩
    obtain ⟨m, hm⟩ := hex
    obtain ⟨i, x, hx, ha, hk, hno⟩ := hfirst m hm
    refine ⟨i, x, hx, ha, hk, hno, ?_⟩
    have := beforeL_at a b l [] i x hno hx ha hk
    rw [List.nil_append] at this
    rw [← this]
    exact h
  · rw [beforeL_none a b l false (fun y hy hh => by
      obtain ⟨i, hi⟩ := List.mem_iff_getElem?.1 hy
      exact hex ⟨i, y, hi, hh⟩)] at h
    cases h
theorem ended_at {l : List Ev} {n : Int} (h : endedL l n = true) : ∃ (i : Nat) (x : Ev), l[i]? = some x ∧ x.a = n ∧ (x.k = 8 ∨ x.k = 9) := by
  unfold endedL at h
  rw [Bool.or_eq_true] at h
  rcases h with h | h
  · obtain ⟨i, x, h1, h2, h3⟩ := hasK_at.1 h
    exact ⟨i, x, h1, h2, .inl h3⟩
  · obtain ⟨i, x, h1, h2, h3⟩ := hasK_at.1 h
    exact ⟨i, x, h1, h2, .inr h3⟩
/-- an event of b that is no beginning stands behind b's beginning -/
theorem Well.behind {l : List Ev} (h : Well l) {i j : Nat} {x y : Ev} (hx : l[i]? = some x) (hk : x.k = 1) (hy : l[j]? = some y) (ha : y.a = x.a) (hyk : y.k ≠ 1) : i < j := by
  rcases Nat.lt_or_ge i j with h1 | h1
  · exact h1
  · have h2 := (h j y hy).2 hyk
    have h3 := (h i x hx).1 hk
    obtain ⟨m, z, hz, hza, hzk⟩ := hasK_at.1 h2
    rw [List.getElem?_take] at hz
    split at hz
    · rename_i hm
      have : hasK (l.take i) x.a 1 = true := hasK_at.2 ⟨m, z, by rw [List.getElem?_take, if_pos (by omega)]; exact hz, by rw [hza, ha], hzk⟩
      rw [h3] at this
      cases this
    · cases hz
/-- where the ones ahead end and the ones behind begin -/
theorem before_idx {l : List Ev} (h : Well l) {a b : Int} (hb : beforeL a b l false = true) : ∃ (i j : Nat) (x y : Ev), l[i]? = some x ∧ x.a = a ∧ (x.k = 8 ∨ x.k = 9) ∧ l[j]? = some y ∧ y.a = b ∧ y.k = 1 ∧ i < j := by
  obtain ⟨j, y, hy, h1, h2, _, he⟩ := before_true hb
  obtain ⟨i, x, hx, h3, h4⟩ := ended_at he
  rw [List.getElem?_take] at hx
  split at hx
  · exact ⟨i, j, x, y, hx, h3, h4, hy, h1, h2, by omega⟩
  · cases hx
theorem before_irr {l : List Ev} (h : Well l) (a : Int) : beforeL a a l false = false := by
  cases hb : beforeL a a l false with
  | false => rfl
  | true =>
    obtain ⟨i, j, x, y, hx, h1, h2, hy, h3, h4, h5⟩ := before_idx h hb
    have := h.behind hy h4 hx (by rw [h1, h3]) (by rcases h2 with h2 | h2 <;> omega)
    omega
theorem before_asym {l : List Ev} (h : Well l) {a b : Int} (h1 : beforeL a b l false = true) (h2 : beforeL b a l false = true) : False := by
  obtain ⟨i, j, x, y, hx, a1, a2, hy, a3, a4, a5⟩ := before_idx h h1
  obtain ⟨i', j', x', y', hx', b1, b2, hy', b3, b4, b5⟩ := before_idx h h2
  have c1 := h.behind hy a4 hx' (by rw [b1, a3]) (by rcases b2 with h2 | h2 <;> omega)
  have c2 := h.behind hy' b4 hx (by rw [a1, b3]) (by rcases a2 with h2 | h2 <;> omega)
  omega
theorem before_trans {l : List Ev} (h : Well l) {a b c : Int} (h1 : beforeL a b l false = true) (h2 : beforeL b c l false = true) : beforeL a c l false = true := by
  obtain ⟨m, y, hy, hya, hyk, hno, he⟩ := before_true h2
  have e := beforeL_at a c l [] m y hno hy hya hyk
  rw [List.nil_append, show endedL [] a = false from rfl] at e
  rw [e]
  obtain ⟨i, j, x, z, hx, a1, a2, hz, a3, a4, a5⟩ := before_idx h h1
  obtain ⟨i', x', hx', b1, b2⟩ := ended_at he
  rw [List.getElem?_take] at hx'
  split at hx'
  · have c1 := h.behind hz a4 hx' (by rw [b1, a3]) (by rcases b2 with h2 | h2 <;> omega)
    have hxt : (l.take m)[i]? = some x := by rw [List.getElem?_take, if_pos (by omega)]; exact hx
    unfold endedL
    rw [Bool.or_eq_true]
    rcases a2 with a2 | a2
    · exact .inl (hasK_at.2 ⟨i, x, hxt, a1, a2⟩)
    · exact .inr (hasK_at.2 ⟨i, x, hxt, a1, a2⟩)
  · cases hx'
/-! ### the states -/
def attF (acc : List Int) (x : Ev) : List Int := if x.k = 1 ∧ x.a ∉ acc then acc ++ [x.a] else acc
def attL (l : List Ev) : List Int := l.foldl attF []
theorem attL_snoc (l : List Ev) (x : Ev) : attL (l ++ [x]) = attF (attL l) x := by simp [attL]
theorem mem_attF (n : Int) (l : List Ev) : ∀ acc : List Int, n ∈ l.foldl attF acc ↔ n ∈ acc ∨ hasK l n 1 = true := by
  induction l with
  | nil => intro acc; simp [hasK]
  | cons x l ih =>
    intro acc
    rw [List.foldl_cons, ih]
    have hc : hasK (x :: l) n 1 = ((x.a == n && x.k == 1) || hasK l n 1) := by simp [hasK]
    rw [hc]
    unfold attF
    by_cases h1 : x.k = 1
    · by_cases h2 : x.a = n
      · subst h2
        by_cases h3 : x.a ∈ acc
        · simp [h1, h3]
        · simp [h1, h3]
      · by_cases h3 : x.a ∈ acc
        · simp [h1, h2, h3]
        · have h2' : ¬ n = x.a := fun h => h2 h.symm
          simp [h1, h2, h3, h2']
    · simp [h1]
theorem mem_attL (l : List Ev) (n : Int) : n ∈ attL l ↔ hasK l n 1 = true := by
  unfold attL
  rw [mem_attF]
  simp
theorem stFold_range (l : List Ev) : ∀ s : Int, (s = 1 ∨ s = 2 ∨ s = 3 ∨ s = 4) → (l.foldl stStep s = 1 ∨ l.foldl stStep s = 2 ∨ l.foldl stStep s = 3 ∨ l.foldl stStep s = 4) := by
  induction l with
  | nil => intro s h; exact h
  | cons x l ih =>
    intro s h
    rw [List.foldl_cons]
    refine ih _ ?_
    unfold stStep
    split
    · simp
    · split
      · simp
      · split
        · simp
        · exact h
theorem stateL_range {l : List Ev} {n : Int} (h : n ∈ attL l) : stateL l n = 1 ∨ stateL l n = 2 ∨ stateL l n = 3 ∨ stateL l n = 4 := by
  unfold stateL
  rw [if_pos ((mem_attL l n).1 h)]
  exact stFold_range _ 1 (.inl rfl)
/-- each attempt is in just one state -/
theorem states_sum (g : Int → Int) (l : List Int) (h : ∀ n ∈ l, g n = 1 ∨ g n = 2 ∨ g n = 3 ∨ g n = 4) : (l.filter fun n => g n == 1).length + (l.filter fun n => g n == 2).length + (l.filter fun n => g n == 3).length + (l.filter fun n => g n == 4).length = l.length := by
  induction l with
  | nil => rfl
  | cons n l ih =>
    have ih' := ih fun m hm => h m (List.mem_cons_of_mem _ hm)
    have hn := h n (by simp)
    simp only [List.filter_cons, List.length_cons]
    rcases hn with hn | hn | hn | hn <;> (simp [hn]; omega)
/-- what right events have: behind an attempt's end it has no event -/
def Done (l : List Ev) : Prop := ∀ (i : Nat) (x : Ev), l[i]? = some x → endedL (l.take i) x.a = false
theorem stFold_end (l : List Ev) : ∀ s : Int, s ≠ 3 → s ≠ 4 → (l.foldl stStep s = 3 ∨ l.foldl stStep s = 4) → ∃ x ∈ l, x.k = 8 ∨ x.k = 9 := by
  induction l with
  | nil => intro s h3 h4 h; rcases h with h | h; exact absurd h h3; exact absurd h h4
  | cons x l ih =>
    intro s h3 h4 h
    by_cases h8 : x.k = 8
    · exact ⟨x, by simp, .inl h8⟩
    by_cases h9 : x.k = 9
    · exact ⟨x, by simp, .inr h9⟩
    rw [List.foldl_cons] at h
    have hs : stStep s x ≠ 3 ∧ stStep s x ≠ 4 := by
      unfold stStep
      rw [if_neg h8, if_neg h9]
      split
      · decide
      · exact ⟨h3, h4⟩
    obtain ⟨y, hy, hk⟩ := ih _ hs.1 hs.2 h
    exact ⟨y, List.mem_cons_of_mem _ hy, hk⟩
theorem state_stays {l : List Ev} (h : Done l) (k : Nat) (n : Int) (hs : stateL (l.take k) n = 3 ∨ stateL (l.take k) n = 4) : stateL l n = stateL (l.take k) n := by
  have hb : hasK (l.take k) n 1 = true := by
    cases hb : hasK (l.take k) n 1
    · unfold stateL at hs
      rw [hb] at hs
      simp at hs
    · rfl
  have hst : stateL (l.take k) n = stFold (cutL (l.take k) n) := by unfold stateL; rw [if_pos hb]
  rw [hst] at hs
  obtain ⟨x, hx, hk⟩ := stFold_end _ 1 (by decide) (by decide) hs
  obtain ⟨hx1, hx2⟩ := List.mem_filter.1 hx
  obtain ⟨i, hi⟩ := List.mem_iff_getElem?.1 hx1
  have he : endedL (l.take k) n = true := by
    unfold endedL
    rw [Bool.or_eq_true]
    rcases hk with hk | hk
    · exact .inl (hasK_at.2 ⟨i, x, hi, by simpa using hx2, hk⟩)
    · exact .inr (hasK_at.2 ⟨i, x, hi, by simpa using hx2, hk⟩)
  have hnone : ∀ y ∈ l.drop k, ¬ y.a = n := by
    intro y hy hya
    obtain ⟨j, hj⟩ := List.mem_iff_getElem?.1 hy
    rw [List.getElem?_drop] at hj
    have := h (k + j) y hj
    rw [hya] at this
    obtain ⟨i2, x2, hx2, e1, e2⟩ := ended_at he
    have hx3 : (l.take (k + j))[i2]? = some x2 := by
      rw [List.getElem?_take] at hx2 ⊢
      split at hx2
      · rw [if_pos (by omega)]; exact hx2
      · cases hx2
    have ht : endedL (l.take (k + j)) n = true := by
      unfold endedL
      rw [Bool.or_eq_true]
      rcases e2 with e2 | e2
      · exact .inl (hasK_at.2 ⟨i2, x2, hx3, e1, e2⟩)
      · exact .inr (hasK_at.2 ⟨i2, x2, hx3, e1, e2⟩)
    rw [this] at ht
    cases ht
  have hcut : cutL l n = cutL (l.take k) n := by
    conv => lhs; rw [← List.take_append_drop k l]
    unfold cutL
    rw [List.filter_append]
    have : (l.drop k).filter (fun x => x.a == n) = [] := by
      rw [List.filter_eq_nil_iff]
      intro y hy
      simpa using hnone y hy
    rw [this, List.append_nil]
  have hbl : hasK l n 1 = true := by
    obtain ⟨i3, x3, h3, h4, h5⟩ := hasK_at.1 hb
    rw [List.getElem?_take] at h3
    split at h3
    · exact hasK_at.2 ⟨i3, x3, h3, h4, h5⟩
    · cases h3
  rw [hst]
  unfold stateL
  rw [if_pos hbl, hcut]
end Go.Proofs.Ytfpiecnbnoinnaa.His
