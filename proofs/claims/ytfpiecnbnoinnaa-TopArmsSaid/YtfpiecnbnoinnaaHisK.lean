/- Right events, in plain words: how far an attempt is, and what one more event leaves. -/
import Derived.Test.YtfpiecnbnoinnaaHisM
import Derived.Test.YtfpiecnbnoinnaaWriY
namespace Go.Proofs.Ytfpiecnbnoinnaa.His
open Go.RowKit Go.Proofs.Ytfpiecnbnoinnaa.Wri
set_option linter.unusedSimpArgs false
set_option linter.unusedVariables false
set_option maxRecDepth 50000

/-- an attempt, as far as it is -/
structure Att where
  fs : List Frm
  tried : Bool
  ended : Bool
def actN (fs : List Frm) (x : Ev) : Int := if x.k = 3 then putN fs x.t x.v else if x.k = 4 then pushN fs else if x.k = 5 then dropN fs else if x.k = 6 then dropN fs else 0
def actS (fs : List Frm) (x : Ev) : List Frm := if x.k = 3 then putS fs x.t x.v else if x.k = 4 then pushS fs else if x.k = 5 then dropS fs else if x.k = 6 then mergeS fs else fs
theorem _root_.Go.Proofs.Ytfpiecnbnoinnaa.Wri.WellS.act {fs : List Frm} (h : WellS fs) (x : Ev) : WellS (actS fs x) := by
  unfold actS
  split
  · exact h.put _ _
  split
  · exact h.push
  split
  · exact h.drop
  split
  · exact h.merge
  · exact h
def bareE (x : Ev) : Bool := x.t == 0 && x.v == 0
def stepA (o : Option Att) (x : Ev) : Option Att :=
  if ¬ (0 ≤ x.a ∧ x.a < 64) then none
  else if x.k = 1 then (match o with | none => if bareE x then some ⟨[[]], false, false⟩ else none | some _ => none)
  else match o with
    | none => none
    | some a =>
      if a.ended then none
      else if x.k = 8 then (if a.tried && bareE x then some ⟨a.fs, a.tried, true⟩ else none)
      else if x.k = 9 then (if bareE x then some ⟨a.fs, a.tried, true⟩ else none)
      else if a.tried then none
      else if x.k = 2 then (if okT x.t ∧ rightVal x.v = true then some a else none)
      else if x.k = 3 then (if actN a.fs x = 0 then some ⟨actS a.fs x, false, false⟩ else none)
      else if x.k = 4 ∨ x.k = 5 ∨ x.k = 6 then (if bareE x = true ∧ actN a.fs x = 0 then some ⟨actS a.fs x, false, false⟩ else none)
      else if x.k = 7 then (if bareE x = true ∧ a.fs.length = 1 then some ⟨a.fs, true, false⟩ else none)
      else none
/-- an attempt's own log behind events -/
def ownL (l : List Ev) (n : Int) : List Frm := (cutL l n).foldl actS [[]]
theorem WellS.one : WellS [[]] := ⟨fun f hf => by simp at hf; subst hf; exact GoodF.nil, by simp [lenF]⟩
theorem foldl_well : ∀ (l : List Ev) (fs : List Frm), WellS fs → WellS (l.foldl actS fs)
  | [], _, h => h
  | x :: l, fs, h => foldl_well l _ (h.act x)
theorem ownL_well (l : List Ev) (n : Int) : WellS (ownL l n) := foldl_well _ _ WellS.one
theorem ownL_snoc (l : List Ev) (x : Ev) (n : Int) : ownL (l ++ [x]) n = if x.a = n then actS (ownL l n) x else ownL l n := by
  unfold ownL
  rw [cutL_snoc]
  split <;> simp
theorem ownL_cut (l : List Ev) (n : Int) : ownL (cutL l n) n = ownL l n := by
  unfold ownL
  rw [cutL_cut]
/-- what an attempt is behind right events -/
def stA (l : List Ev) (n : Int) : Option Att := if hasK l n 1 then some ⟨ownL l n, hasK l n 7, endedL l n⟩ else none
theorem endedL_cut (l : List Ev) (n : Int) : endedL (cutL l n) n = endedL l n := by
  unfold endedL
  rw [hasK_cut, hasK_cut]
theorem stA_cut (l : List Ev) (n : Int) : stA (cutL l n) n = stA l n := by
  unfold stA
  rw [hasK_cut, hasK_cut, ownL_cut, endedL_cut]
/-- right events: each can be, behind those ahead -/
def Good (l : List Ev) : Prop := ∀ (i : Nat) (x : Ev), l[i]? = some x → (stepA (stA (l.take i) x.a) x).isSome = true
def goodFrom (p : List Ev) : List Ev → Bool
  | [] => true
  | x :: l => (stepA (stA p x.a) x).isSome && goodFrom (p ++ [x]) l
def goodL (l : List Ev) : Bool := goodFrom [] l
theorem goodFrom_iff : ∀ (l p : List Ev), goodFrom p l = true ↔ ∀ (i : Nat) (x : Ev), l[i]? = some x → (stepA (stA (p ++ l.take i) x.a) x).isSome = true := by
  intro l
  induction l with
  | nil => intro p; simp [goodFrom]
  | cons y l ih =>
    intro p
    unfold goodFrom
    rw [Bool.and_eq_true, ih]
    constructor
    · rintro ⟨h1, h2⟩ i x hx
      cases i with
      | zero =>
        simp at hx
        subst hx
        simpa using h1
      | succ i =>
        have := h2 i x (by simpa using hx)
        rw [List.take_succ_cons]
        simpa using this
    · intro h
      refine ⟨by simpa using h 0 y rfl, fun i x hx => ?_⟩
      have := h (i + 1) x (by simpa using hx)
      rw [List.take_succ_cons] at this
      simpa using this
theorem goodL_iff (l : List Ev) : goodL l = true ↔ Good l := by
  unfold goodL
  rw [goodFrom_iff]
  simp [Good]
theorem Good.take {l : List Ev} (h : Good l) (k : Nat) : Good (l.take k) := by
  intro i x hx
  rw [List.getElem?_take] at hx
  split at hx
  · rename_i hi
    have := h i x hx
    rw [List.take_take, Nat.min_eq_left (by omega)]
    exact this
  · cases hx
theorem Good.snoc {l : List Ev} {x : Ev} (h : Good (l ++ [x])) : Good l ∧ (stepA (stA l x.a) x).isSome = true := by
  constructor
  · have := h.take l.length
    rwa [List.take_left] at this
  · have := h l.length x (by simp)
    rwa [List.take_left] at this
theorem good_snoc {l : List Ev} {x : Ev} (h : Good l) (hx : (stepA (stA l x.a) x).isSome = true) : Good (l ++ [x]) := by
  intro i y hy
  rcases Nat.lt_trichotomy i l.length with h1 | h1 | h1
  · rw [List.getElem?_append_left h1] at hy
    rw [List.take_append_of_le_length (by omega)]
    exact h i y hy
  · subst h1
    simp at hy
    subst hy
    rw [List.take_left]
    exact hx
  · rw [List.getElem?_eq_none (by simp; omega)] at hy
    cases hy
theorem snocInd {C : List Ev → Prop} (h0 : C []) (h1 : ∀ l x, C l → C (l ++ [x])) : ∀ l, C l := by
  intro l
  have : ∀ r : List Ev, C r.reverse := by
    intro r
    induction r with
    | nil => exact h0
    | cons x r ih => rw [List.reverse_cons]; exact h1 _ _ ih
  have := this l.reverse
  rwa [List.reverse_reverse] at this
/-- what a step asks -/
theorem stepA_k1 {o : Option Att} {x : Ev} (hk : x.k = 1) (h : (stepA o x).isSome = true) : o = none ∧ stepA o x = some ⟨[[]], false, false⟩ := by
  unfold stepA at h ⊢
  split at h
  · cases h
  · rename_i ha
    try rw [if_neg ha]
    try rw [if_pos hk]
    try rw [if_pos hk] at h
    cases o with
    | none =>
      simp only at h ⊢
      split at h
      · rename_i hb
        rw [if_pos hb]
        simp
      · cases h
    | some a => cases h
theorem stepA_none {x : Ev} (hk : x.k ≠ 1) : stepA none x = none := by
  unfold stepA
  split
  · rfl
  · first | rfl | (rw [if_neg hk])
theorem stepA_other {o : Option Att} {x : Ev} (hk : x.k ≠ 1) (h : (stepA o x).isSome = true) : ∃ a, o = some a ∧ a.ended = false ∧ stepA o x = some ⟨actS a.fs x, a.tried || x.k == 7, x.k == 8 || x.k == 9⟩ := by
  cases o with
  | none => rw [stepA_none hk] at h; cases h
  | some a =>
    refine ⟨a, rfl, ?_⟩
    obtain ⟨fs, tr, en⟩ := a
    unfold stepA at h ⊢
    split at h
    · cases h
    rename_i ha
    rw [if_neg ha, if_neg hk]
    try rw [if_neg hk] at h
    simp only at h ⊢
    cases en
    case true => cases h
    simp only [Bool.false_eq_true, if_false] at h ⊢
    refine ⟨trivial, ?_⟩
    unfold actS
    by_cases h8 : x.k = 8
    · rw [if_pos h8] at h ⊢
      split at h
      · rename_i hb
        rw [if_pos hb]
        simp [h8]
      · cases h
    rw [if_neg h8] at h ⊢
    by_cases h9 : x.k = 9
    · rw [if_pos h9] at h ⊢
      split at h
      · rename_i hb
        rw [if_pos hb]
        simp [h9]
      · cases h
    rw [if_neg h9] at h ⊢
    cases tr
    case true => cases h
    simp only [Bool.false_eq_true, if_false] at h ⊢
    by_cases h2 : x.k = 2
    · rw [if_pos h2] at h ⊢
      split at h
      · rename_i hb
        rw [if_pos hb]
        simp [h2]
      · cases h
    rw [if_neg h2] at h ⊢
    by_cases h3 : x.k = 3
    · rw [if_pos h3] at h ⊢
      split at h
      · rename_i hb
        rw [if_pos hb]
        simp [h3]
      · cases h
    rw [if_neg h3] at h ⊢
    by_cases h4 : x.k = 4 ∨ x.k = 5 ∨ x.k = 6
    · rw [if_pos h4] at h ⊢
      split at h
      · rename_i hb
        rw [if_pos hb]
        rcases h4 with h4 | h4 | h4 <;> simp [h4]
      · cases h
    rw [if_neg h4] at h ⊢
    split at h
    · rename_i h7
      rw [if_pos h7]
      split at h
      · rename_i hb
        rw [if_pos hb]
        simp [h7]
      · cases h
    · cases h
/-- who did not begin has no event -/
theorem Good.none_cut {l : List Ev} (h : Good l) {n : Int} (hn : hasK l n 1 = false) : cutL l n = [] := by
  induction l using snocInd with
  | h0 => rfl
  | h1 l x ih =>
    obtain ⟨g1, g2⟩ := h.snoc
    rw [hasK_snoc] at hn
    simp only [Bool.or_eq_false_iff] at hn
    rw [cutL_snoc, ih g1 hn.1, List.nil_append]
    split
    · rename_i ha
      subst ha
      have hk : x.k ≠ 1 := by
        have := hn.2
        simpa using this
      rw [show stA l x.a = none by unfold stA; rw [hn.1]; rfl, stepA_none hk] at g2
      cases g2
    · rfl
theorem cutL_hasK {l : List Ev} {n : Int} (h : cutL l n = []) (k : Int) : hasK l n k = false := by
  rw [← hasK_cut, h]
  rfl
/-- one more -/
theorem stA_step {l : List Ev} {x : Ev} (h : Good l) (hx : (stepA (stA l x.a) x).isSome = true) (n : Int) : stA (l ++ [x]) n = if n = x.a then stepA (stA l x.a) x else stA l n := by
  by_cases hn : n = x.a
  · rw [if_pos hn]
    subst hn
    by_cases hk : x.k = 1
    · obtain ⟨h1, h2⟩ := stepA_k1 hk hx
      have hb : hasK l x.a 1 = false := by
        unfold stA at h1
        split at h1
        · cases h1
        · rename_i hh; simpa using hh
      have hc := h.none_cut hb
      rw [h2]
      unfold stA
      rw [hasK_snoc, hk, ownL_snoc, if_pos rfl, hasK_snoc, endedL_snoc]
      have e7 := cutL_hasK hc 7
      have e8 := cutL_hasK hc 8
      have e9 := cutL_hasK hc 9
      unfold endedL ownL
      rw [e7, e8, e9, hc, hk]
      simp [actS, hk]
    · obtain ⟨a, h1, h2, h3⟩ := stepA_other hk hx
      have hb : hasK l x.a 1 = true := by
        unfold stA at h1
        split at h1
        · assumption
        · cases h1
      have h1' := h1
      unfold stA at h1'
      rw [if_pos hb] at h1'
      injection h1' with h1'
      rw [h3]
      unfold stA
      rw [hasK_snoc, hb, ownL_snoc, if_pos rfl, hasK_snoc, endedL_snoc]
      subst h1'
      simp only at h2 ⊢
      rw [h2]
      simp
  · rw [if_neg hn]
    have hn' : ¬ x.a = n := fun e => hn e.symm
    unfold stA
    have hb : (x.a == n) = false := by simpa using hn'
    rw [hasK_snoc, ownL_snoc, if_neg hn', hasK_snoc, endedL_snoc, hb]
    simp only [Bool.false_and, Bool.or_false]
theorem stA_nil (n : Int) : stA [] n = none := rfl
theorem Good.well {l : List Ev} (h : Good l) : Well l := by
  intro i x hx
  have := h i x hx
  refine ⟨fun hk => ?_, fun hk => ?_⟩
  · obtain ⟨h1, _⟩ := stepA_k1 hk this
    unfold stA at h1
    split at h1
    · cases h1
    · rename_i hh; simpa using hh
  · obtain ⟨a, h1, _, _⟩ := stepA_other hk this
    unfold stA at h1
    split at h1
    · assumption
    · cases h1
theorem Good.done {l : List Ev} (h : Good l) : Done l := by
  intro i x hx
  have hs := h i x hx
  by_cases hk : x.k = 1
  · obtain ⟨h1, _⟩ := stepA_k1 hk hs
    have hb : hasK (l.take i) x.a 1 = false := by
      unfold stA at h1
      split at h1
      · cases h1
      · rename_i hh; simpa using hh
    have hc := (h.take i).none_cut hb
    unfold endedL
    rw [cutL_hasK hc 8, cutL_hasK hc 9]
    rfl
  · obtain ⟨a, h1, h2, _⟩ := stepA_other hk hs
    unfold stA at h1
    split at h1
    · injection h1 with h1
      subst h1
      exact h2
    · cases h1
/-- one attempt's events are right -/
theorem Good.cut {l : List Ev} (h : Good l) (n : Int) : Good (cutL l n) := by
  induction l using snocInd with
  | h0 => intro i x hx; simp [cutL] at hx
  | h1 l x ih =>
    obtain ⟨g1, g2⟩ := h.snoc
    rw [cutL_snoc]
    split
    · rename_i ha
      refine good_snoc (ih g1) ?_
      subst ha
      rw [stA_cut]
      exact g2
    · rw [List.append_nil]
      exact ih g1
end Go.Proofs.Ytfpiecnbnoinnaa.His
