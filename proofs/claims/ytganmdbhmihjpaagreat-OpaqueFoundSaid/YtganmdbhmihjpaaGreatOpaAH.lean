/- Of the orders of some, the least first: the search finds the first one that is legal. -/
import Derived.Test.YtganmdbhmihjpaaGreatOpaV
namespace Go.Proofs.YtganmdbhmihjpaaGreat.Opa
open Go.RowKit Go.Proofs.YtganmdbhmihjpaaGreat.Wri Go.Proofs.YtganmdbhmihjpaaGreat.His
set_option linter.unusedSimpArgs false
set_option linter.unusedVariables false
set_option maxRecDepth 50000

def fct : Nat → Nat
  | 0 => 1
  | n + 1 => (n + 1) * fct n
theorem fct_pos : ∀ n, 0 < fct n
  | 0 => Nat.one_pos
  | n + 1 => Nat.mul_pos (Nat.succ_pos n) (fct_pos n)
/-- the k-th order of some -/
def permL : Nat → List Int → Nat → List Int
  | 0, _, _ => []
  | n + 1, left, k => left.getD (k / fct n) 0 :: permL n (left.eraseIdx (k / fct n)) (k % fct n)
theorem range_mul {α : Type} (f : Nat → Option α) (b : Nat) : ∀ a : Nat, (List.range (a * b)).findSome? f = (List.range a).findSome? fun q => (List.range b).findSome? fun r => f (q * b + r) := by
  intro a
  induction a with
  | zero => simp
  | succ a ih =>
    rw [Nat.succ_mul, List.range_add, List.findSome?_append, ih, List.range_succ, List.findSome?_append, List.findSome?_map]
    congr 1
    simp only [List.findSome?_cons, List.findSome?_nil]
    show _ = match (List.range b).findSome? (fun r => f (a * b + r)) with | some b => some b | none => none
    rw [show (f ∘ fun x => a * b + x) = fun r => f (a * b + r) from rfl]
    cases (List.range b).findSome? (fun r => f (a * b + r)) <;> rfl
theorem findSome_congr {α β : Type} {f g : α → Option β} : ∀ l : List α, (∀ x ∈ l, f x = g x) → l.findSome? f = l.findSome? g := by
  intro l
  induction l with
  | nil => intro _; rfl
  | cons x l ih => intro h; rw [List.findSome?_cons, List.findSome?_cons, h x (by simp), ih fun y hy => h y (by simp [hy])]
theorem erase_get {left : List Int} (hn : left.Nodup) {q : Nat} (hq : q < left.length) : left.eraseIdx q = left.filter fun x => !(x == left.getD q 0) := by
  induction left generalizing q with
  | nil => simp at hq
  | cons y left ih =>
    have h := List.nodup_cons.1 hn
    cases q with
    | zero =>
      rw [List.eraseIdx_cons_zero, List.getD_cons_zero, List.filter_cons]
      rw [if_neg (by simp)]
      exact (List.filter_eq_self.2 fun x hx => by
        have : x ≠ y := fun e => h.1 (e ▸ hx)
        simp [this]).symm
    | succ q =>
      have hq' : q < left.length := by simpa using hq
      rw [List.eraseIdx_cons_succ, List.getD_cons_succ, List.filter_cons, ih h.2 hq']
      have hm : left.getD q 0 ∈ left := by
        rw [List.getD_eq_getElem?_getD, List.getElem?_eq_getElem hq']
        exact List.getElem_mem _
      have hne : y ≠ left.getD q 0 := fun e => h.1 (e ▸ hm)
      rw [if_pos (by rw [show (y == left.getD q 0) = false from beq_eq_false_iff_ne.2 hne]; rfl)]
theorem erase_perm : ∀ (left : List Int) (q : Nat), q < left.length → (left.getD q 0 :: left.eraseIdx q).Perm left := by
  intro left
  induction left with
  | nil => intro q hq; simp at hq
  | cons y left ih =>
    intro q hq
    cases q with
    | zero => exact List.Perm.refl _
    | succ q =>
      rw [List.eraseIdx_cons_succ, List.getD_cons_succ]
      exact (List.Perm.swap _ _ _).trans ((ih q (by simpa using hq)).cons y)
theorem perm_mem : ∀ (n : Nat) (left : List Int) (k : Nat), left.length = n → k < fct n → (permL n left k).Perm left := by
  intro n
  induction n with
  | zero => intro left k hl _; rw [List.length_eq_zero_iff.1 hl]; exact List.Perm.refl _
  | succ n ih =>
    intro left k hl hk
    have hq : k / fct n < left.length := by
      rw [hl]
      exact Nat.div_lt_of_lt_mul (by rw [Nat.mul_comm]; exact hk)
    rw [permL]
    have hle : (left.eraseIdx (k / fct n)).length = n := by rw [List.length_eraseIdx_of_lt hq, hl]; rfl
    refine ((ih _ (k % fct n) hle (Nat.mod_lt _ (fct_pos n))).cons _).trans ?_
    exact erase_perm left _ hq
/-- attempts are laid, one behind the other, out of those left -/
def searchP (l : List Ev) (f : Int → One) : Nat → List Int → List Int → Option (List Int)
  | 0, _, _ => some []
  | n + 1, left, vs => (List.range left.length).findSome? fun q =>
    if (!(left.eraseIdx q).any (fun m => beforeL m (left.getD q 0) l false) && fitsB (f (left.getD q 0)) vs) = true then (searchP l f n (left.eraseIdx q) (layL (f (left.getD q 0)) vs)).map (left.getD q 0 :: ·) else none
def okF (l : List Ev) (f : Int → One) (vs : List Int) (i : Int) (o : List Int) : Option (List Int) := if (firstL l f o i vs).2.1 = 0 then some o else none
theorem okF_cons (l : List Ev) (f : Int → One) (vs : List Int) (i x : Int) (o : List Int) : okF l f vs i (x :: o) = if (!o.any (fun m => beforeL m x l false) && fitsB (f x) vs) = true then (okF l f (layL (f x) vs) (i + 1) o).map (x :: ·) else none := by
  unfold okF
  rw [firstL]
  cases h1 : o.any (fun m => beforeL m x l false) with
  | true => simp
  | false =>
    cases h2 : fitsB (f x) vs with
    | false => simp
    | true =>
      show (if (firstL l f o (i + 1) (layL (f x) vs)).2.1 = 0 then some (x :: o) else none) = Option.map (x :: ·) (if (firstL l f o (i + 1) (layL (f x) vs)).2.1 = 0 then some o else none)
      split <;> rfl
theorem any_perm {p : Int → Bool} {xs ys : List Int} (h : xs.Perm ys) : xs.any p = ys.any p := by
  rw [Bool.eq_iff_iff, List.any_eq_true, List.any_eq_true]
  exact ⟨fun ⟨x, hx, hp⟩ => ⟨x, h.mem_iff.1 hx, hp⟩, fun ⟨x, hx, hp⟩ => ⟨x, h.mem_iff.2 hx, hp⟩⟩
theorem findSome_map {α : Type} (f : α → Option (List Int)) (x : Int) : ∀ l : List α, l.findSome? (fun r => (f r).map (x :: ·)) = (l.findSome? f).map (x :: ·) := by
  intro l
  induction l with
  | nil => rfl
  | cons y l ih =>
    rw [List.findSome?_cons, List.findSome?_cons]
    cases f y with
    | none => exact ih
    | some v => rfl
theorem findSome_none {α β : Type} : ∀ l : List α, l.findSome? (fun _ => (none : Option β)) = none := by
  intro l
  induction l with
  | nil => rfl
  | cons y l ih => rw [List.findSome?_cons]; exact ih
/-- the first legal one of all orders -/
theorem perm_search (l : List Ev) (f : Int → One) : ∀ (n : Nat) (left vs : List Int) (i : Int), left.length = n → (List.range (fct n)).findSome? (fun k => okF l f vs i (permL n left k)) = searchP l f n left vs := by
  intro n
  induction n with
  | zero =>
    intro left vs i _
    simp [fct, permL, okF, firstL, searchP]
  | succ n ih =>
    intro left vs i hl
    rw [fct, range_mul, searchP, hl]
    refine findSome_congr _ fun q hq => ?_
    rw [List.mem_range] at hq
    have hle : (left.eraseIdx q).length = n := by rw [List.length_eraseIdx_of_lt (by omega), hl]; rfl
    have hk : ∀ r ∈ List.range (fct n), okF l f vs i (permL (n + 1) left (q * fct n + r)) = if (!(left.eraseIdx q).any (fun m => beforeL m (left.getD q 0) l false) && fitsB (f (left.getD q 0)) vs) = true then (okF l f (layL (f (left.getD q 0)) vs) (i + 1) (permL n (left.eraseIdx q) r)).map (left.getD q 0 :: ·) else none := by
      intro r hr
      rw [List.mem_range] at hr
      have hd : (q * fct n + r) / fct n = q := by
        rw [Nat.add_comm, Nat.add_mul_div_right _ _ (fct_pos n), Nat.div_eq_of_lt hr, Nat.zero_add]
      have hm : (q * fct n + r) % fct n = r := by
        rw [Nat.add_comm, Nat.add_mul_mod_self_right, Nat.mod_eq_of_lt hr]
      rw [permL, hd, hm, okF_cons, any_perm (perm_mem n (left.eraseIdx q) r hle hr)]
    rw [findSome_congr _ hk]
    split
    · rw [findSome_map, ih _ _ _ hle]
    · exact findSome_none _
theorem range_get {β : Type} (F : Int → Option β) : ∀ left : List Int, (List.range left.length).findSome? (fun q => F (left.getD q 0)) = left.findSome? F := by
  intro left
  induction left with
  | nil => rfl
  | cons x left ih =>
    rw [List.length_cons, List.range_succ_eq_map, List.findSome?_cons, List.findSome?_cons, List.getD_cons_zero, List.findSome?_map]
    cases F x with
    | some v => rfl
    | none => exact ih
theorem findSome_filter {β : Type} (F : Int → Option β) (p : Int → Bool) : ∀ all : List Int, (∀ x ∈ all, p x = false → F x = none) → all.findSome? F = (all.filter p).findSome? F := by
  intro all
  induction all with
  | nil => intro _; rfl
  | cons x all ih =>
    intro h
    rw [List.findSome?_cons, List.filter_cons]
    cases hp : p x with
    | true =>
      rw [if_pos rfl, List.findSome?_cons, ih fun y hy => h y (by simp [hy])]
    | false =>
      rw [if_neg (by simp), h x (by simp) hp]
      exact ih fun y hy => h y (by simp [hy])
theorem search_left (l : List Ev) (f : Int → One) (all : List Int) (hnd : all.Nodup) : ∀ (n : Nat) (pre vs : List Int), pre.length + n = all.length → (all.filter fun x => !decide (x ∈ pre)).length = n →
    searchL l f all n pre vs = (searchP l f n (all.filter fun x => !decide (x ∈ pre)) vs).map (pre ++ ·) := by
  intro n
  induction n with
  | zero =>
    intro pre vs hl _
    rw [searchL, if_pos (by omega), searchP]
    simp
  | succ n ih =>
    intro pre vs hl hf
    rw [searchL, if_neg (by omega), searchP]
    obtain ⟨left, hleft⟩ : ∃ left, (all.filter fun x => !decide (x ∈ pre)) = left := ⟨_, rfl⟩
    rw [hleft] at hf ⊢
    have hln : left.Nodup := hleft ▸ hnd.sublist List.filter_sublist
    have hpre : ∀ x, x ∈ left ↔ x ∈ all ∧ x ∉ pre := fun x => by rw [← hleft, List.mem_filter]; simp
    rw [findSome_filter _ (fun x => !decide (x ∈ pre)) all (fun x _ hp => by
      rw [if_neg]
      unfold candB
      rw [hp]
      simp), hleft, ← range_get]
    have key : ∀ q ∈ List.range left.length, (if candB l f all pre vs (left.getD q 0) = true then searchL l f all n (pre ++ [left.getD q 0]) (layL (f (left.getD q 0)) vs) else none) =
        ((if (!(left.eraseIdx q).any (fun m => beforeL m (left.getD q 0) l false) && fitsB (f (left.getD q 0)) vs) = true then (searchP l f n (left.eraseIdx q) (layL (f (left.getD q 0)) vs)).map (left.getD q 0 :: ·) else none) : Option (List Int)).map (pre ++ ·) := by
      intro q hq
      rw [List.mem_range] at hq
      have hx : left.getD q 0 ∈ left := by
        rw [List.getD_eq_getElem?_getD, List.getElem?_eq_getElem hq]
        exact List.getElem_mem _
      have hxp := (hpre _).1 hx
      have he := erase_get hln hq
      obtain ⟨x, hxx⟩ : ∃ x, left.getD q 0 = x := ⟨_, rfl⟩
      rw [hxx] at hx hxp he ⊢
      have hany : all.any (badB l pre x) = (left.eraseIdx q).any (fun m => beforeL m x l false) := by
        rw [Bool.eq_iff_iff, List.any_eq_true, List.any_eq_true, he]
        constructor
        · rintro ⟨y, hy, hb⟩
          unfold badB at hb
          simp only [Bool.and_eq_true, bne_iff_ne, ne_eq, Bool.not_eq_true', decide_eq_false_iff_not] at hb
          exact ⟨y, List.mem_filter.2 ⟨(hpre y).2 ⟨hy, hb.1.2⟩, by simp [hb.1.1]⟩, hb.2⟩
        · rintro ⟨y, hy, hb⟩
          have h1 := List.mem_filter.1 hy
          have h2 := (hpre y).1 h1.1
          have h3 : y ≠ x := by simpa using h1.2
          refine ⟨y, h2.1, ?_⟩
          unfold badB
          rw [hb]
          simp [h3, h2.2]
      have hc : candB l f all pre vs x = (!(left.eraseIdx q).any (fun m => beforeL m x l false) && fitsB (f x) vs) := by
        unfold candB
        rw [hany]
        simp [hxp.2]
      rw [hc]
      split
      · have hfl : (all.filter fun y => !decide (y ∈ pre ++ [x])) = left.eraseIdx q := by
          rw [he, ← hleft, List.filter_filter]
          refine List.filter_congr fun y _ => ?_
          by_cases h1 : y = x
          · simp [h1]
          · simp [h1]
        have hle : (left.eraseIdx q).length = n := by rw [List.length_eraseIdx_of_lt hq, hf]; rfl
        rw [ih (pre ++ [x]) (layL (f x) vs) (by rw [List.length_append, List.length_singleton]; omega) (by rw [hfl, hle]), hfl]
        cases searchP l f n (left.eraseIdx q) (layL (f x) vs) <;> simp
      · rfl
    rw [findSome_congr _ key]
    have hmap : ∀ (L : List Nat) (G : Nat → Option (List Int)), L.findSome? (fun q => (G q).map (pre ++ ·)) = (L.findSome? G).map (pre ++ ·) := by
      intro L G
      induction L with
      | nil => rfl
      | cons y L ihL =>
        rw [List.findSome?_cons, List.findSome?_cons]
        cases G y with
        | none => exact ihL
        | some v => rfl
    exact hmap _ _
theorem look_perm {l : List Ev} {vs C : List Int} : lookL l vs C = (List.range (fct (attL l).length)).findSome? fun k => okF l (oneOf l C) vs 0 (permL (attL l).length (attL l) k) := by
  rw [perm_search l (oneOf l C) (attL l).length (attL l) vs 0 rfl]
  unfold lookL
  have hfil : ((attL l).filter fun x => !decide (x ∈ ([] : List Int))) = attL l := List.filter_eq_self.2 fun x _ => by simp
  rw [search_left l (oneOf l C) (attL l) (attL_nodup l) (attL l).length [] vs (by simp) (by rw [hfil]), hfil]
  cases searchP l (oneOf l C) (attL l).length (attL l) vs <;> simp
end Go.Proofs.YtganmdbhmihjpaaGreat.Opa
