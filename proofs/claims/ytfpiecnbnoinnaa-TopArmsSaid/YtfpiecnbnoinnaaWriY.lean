/- The deeds on plain frames; a deed on both, and deeds. -/
import Derived.Test.YtfpiecnbnoinnaaWriX
namespace Go.Proofs.Ytfpiecnbnoinnaa.Wri
open Go.RowKit
set_option linter.unusedSimpArgs false
set_option linter.unusedVariables false
set_option maxRecDepth 50000

def LAt (w : World) (b : Nat) (fs : List Frm) : Prop := ∃ xs, xs.map (·.2) = fs ∧ LogAt w b xs
def RAt (w : World) (b : Nat) (fs : List Frm) : Prop := RLogAt w b fs.reverse
def putN (fs : List Frm) (t v : Int) : Int :=
  if ¬ okT t then 2 else if rightVal v = false then 3 else match fs with
    | [] => 0
    | f :: _ => if getF f t = none ∧ 16 ≤ lenF fs then 4 else 0
def putS (fs : List Frm) (t v : Int) : List Frm := if putN fs t v = 0 then (match fs with | [] => [] | f :: r => putF f t v :: r) else fs
def pushN (fs : List Frm) : Int := if 5 ≤ fs.length then 4 else 0
def pushS (fs : List Frm) : List Frm := if 5 ≤ fs.length then fs else [] :: fs
def dropN (fs : List Frm) : Int := if fs.length ≤ 1 then 8 else 0
def dropS (fs : List Frm) : List Frm := if fs.length ≤ 1 then fs else fs.tail
def mergeS : List Frm → List Frm
  | x :: y :: r => mergeF y x :: r
  | fs => fs
theorem WellS.put {fs : List Frm} (h : WellS fs) (t v : Int) : WellS (putS fs t v) := by
  unfold putS
  split
  · rename_i hE
    cases fs with
    | nil => exact h
    | cons f r =>
      have ht : okT t := by
        unfold putN at hE
        by_cases ht : okT t
        · exact ht
        · rw [if_pos ht] at hE; cases hE
      have hl := h.len
      have hs : ¬ (getF f t = none ∧ 16 ≤ lenF (f :: r)) := by
        intro hs
        unfold putN at hE
        rw [if_neg (by simpa using ht)] at hE
        split at hE
        · cases hE
        · simp only [if_pos hs] at hE; cases hE
      refine ⟨?_, ?_⟩
      · intro g hg
        rcases List.mem_cons.1 hg with rfl | hg
        · exact (h.good f (by simp)).put ht v
        · exact h.good g (List.mem_cons_of_mem _ hg)
      · rw [lenF_cons, putF_len_eq]
        rw [lenF_cons] at hs hl
        by_cases hn : getF f t = none
        · rw [if_pos hn]
          have : ¬ 16 ≤ f.length + lenF r := fun h => hs ⟨hn, h⟩
          omega
        · rw [if_neg hn]; omega
  · exact h
theorem WellS.push {fs : List Frm} (h : WellS fs) : WellS (pushS fs) := by
  unfold pushS
  split
  · exact h
  · refine ⟨?_, by rw [lenF_cons]; simpa using h.len⟩
    intro g hg
    rcases List.mem_cons.1 hg with rfl | hg
    · exact GoodF.nil
    · exact h.good g hg
theorem WellS.drop {fs : List Frm} (h : WellS fs) : WellS (dropS fs) := by
  unfold dropS
  split
  · exact h
  · cases fs with
    | nil => exact h
    | cons f r =>
      refine ⟨fun g hg => h.good g (List.mem_cons_of_mem _ hg), ?_⟩
      have := h.len
      rw [lenF_cons] at this
      show lenF r ≤ 16
      omega
theorem WellS.drop_of {f : Frm} {fs : List Frm} (h : WellS (f :: fs)) : WellS fs := by
  refine ⟨fun g hg => h.good g (List.mem_cons_of_mem _ hg), ?_⟩
  have := h.len
  rw [lenF_cons] at this
  omega
theorem WellS.merge {fs : List Frm} (h : WellS fs) : WellS (mergeS fs) := by
  match fs, h with
  | [], h => exact h
  | [x], h => exact h
  | x :: y :: r, h =>
    have hl := h.len
    have := mergeF_len x y
    rw [lenF_cons, lenF_cons] at hl
    refine ⟨?_, by show lenF (mergeF y x :: r) ≤ 16; rw [lenF_cons]; omega⟩
    intro g hg
    rcases List.mem_cons.1 hg with rfl | hg
    · exact (h.good y (by simp)).merge (h.good x (by simp))
    · exact h.good g (List.mem_cons_of_mem _ (List.mem_cons_of_mem _ hg))
def OpPost (w : World) (b : Nat) (A : World → Nat → List Frm → Prop) (n : Int) (fs' : List Frm) (e : Ending) (w' : World) : Prop :=
  e = .returned (.int .i64 n) ∧ Only (fun k => k = b) w w' ∧ A w' b fs'
theorem LAt.ne {w : World} {b : Nat} {fs : List Frm} (h : LAt w b fs) : fs ≠ [] := by
  obtain ⟨xs, rfl, o, _, _, h1, _⟩ := h
  rintro h0
  rw [List.map_eq_nil_iff] at h0
  subst h0
  simp at h1
theorem RAt.ne {w : World} {b : Nat} {fs : List Frm} (h : RAt w b fs) : fs ≠ [] := by
  obtain ⟨_, _, _, _, h1, _⟩ := h
  rintro rfl
  simp at h1
theorem lput_p {w : World} {b : Nat} {fs : List Frm} (h : LAt w b fs) (hi : WellS fs) (t v : Int) (hv : 0 ≤ v ∧ v < 18446744073709551616) :
    Calls Try.prog 32 #[ptr b, .int .i64 t, .int .u64 v] w (OpPost w b LAt (putN fs t v) (putS fs t v)) := by
  obtain ⟨xs, hx, h⟩ := h
  have hE : putE xs t v = putN fs t v := by
    subst hx
    unfold putE putN
    by_cases ht : okT t
    · simp only [ht, not_true_eq_false, if_false]
      cases xs with
      | nil => rfl
      | cons x r =>
        have e : (16 ≤ lenAll (x :: r)) = (16 ≤ lenF ((x :: r).map (·.2))) := by rw [lenAll_eq]; apply propext; omega
        simp only [e, List.map_cons]
    · simp only [ht, not_false_eq_true, if_true]
  refine (lput_any w b xs h (fun x hm => by have := hi.small hx x hm; omega) t v hv).mono ?_
  rintro e w' ⟨rfl, ho, hn, hp⟩
  refine ⟨by rw [hE], ho, ?_⟩
  unfold putS
  rw [← hE]
  split
  · rename_i h0
    cases xs with
    | nil => obtain ⟨_, _, _, h1, _⟩ := h; simp at h1
    | cons x r =>
      obtain ⟨u, hL⟩ := hp h0 x r rfl
      subst hx
      exact ⟨_, rfl, hL⟩
  · rename_i h0
    exact ⟨xs, hx, hn h0⟩
theorem rput_p {w : World} {b : Nat} {fs : List Frm} (h : RAt w b fs) (hi : WellS fs) (t v : Int) (hv : 0 ≤ v ∧ v < 18446744073709551616) :
    Calls Try.prog 71 #[ptr b, .int .i64 t, .int .u64 v] w (OpPost w b RAt (putN fs t v) (putS fs t v)) := by
  cases fs with
  | nil => exact absurd rfl h.ne
  | cons f r =>
    unfold RAt at h
    have hc := cntG_rev (f :: r) hi.good
    rw [List.reverse_cons] at h hc
    have hE : putG (r.reverse ++ [f]) f t v = putN (f :: r) t v := by
      unfold putG putN
      rw [hc]
    refine (rput_any w b _ f h t v hv).mono ?_
    rintro e w' ⟨rfl, ho, hn, hp⟩
    refine ⟨by rw [hE], ho, ?_⟩
    unfold putS RAt
    rw [← hE]
    split
    · rename_i h0
      simpa using hp h0
    · rename_i h0
      simpa using hn h0
theorem lpush_p {w : World} {b : Nat} {fs : List Frm} (h : LAt w b fs) : Calls Try.prog 28 #[ptr b] w (OpPost w b LAt (pushN fs) (pushS fs)) := by
  obtain ⟨xs, hx, h⟩ := h
  have hl : xs.length = fs.length := by rw [← hx, List.length_map]
  refine (lpush_any w b xs h).mono ?_
  unfold PushPost pushN pushS
  rw [hl]
  intro e w'
  split
  · rintro ⟨rfl, rfl⟩
    exact ⟨rfl, Only.refl _ _, xs, hx, h⟩
  · rintro ⟨rfl, ho, hL⟩
    exact ⟨rfl, ho, _, by rw [List.map_cons, hx], hL⟩
theorem rpush_p {w : World} {b : Nat} {fs : List Frm} (h : RAt w b fs) : Calls Try.prog 72 #[ptr b] w (OpPost w b RAt (pushN fs) (pushS fs)) := by
  refine (rpush_any w b _ h).mono ?_
  unfold RPushPost pushN pushS
  rw [List.length_reverse]
  intro e w'
  split
  · rintro ⟨rfl, rfl⟩
    exact ⟨rfl, Only.refl _ _, h⟩
  · rintro ⟨rfl, ho, hL⟩
    exact ⟨rfl, ho, by unfold RAt; simpa using hL⟩
theorem ldrop_p {w : World} {b : Nat} {fs : List Frm} (h : LAt w b fs) : Calls Try.prog 29 #[ptr b] w (OpPost w b LAt (dropN fs) (dropS fs)) := by
  obtain ⟨xs, hx, h⟩ := h
  have hl : xs.length = fs.length := by rw [← hx, List.length_map]
  refine (drop_any w b xs h).mono ?_
  unfold DropPost dropN dropS
  rw [hl]
  intro e w'
  split
  · rintro ⟨rfl, rfl⟩
    exact ⟨rfl, Only.refl _ _, xs, hx, h⟩
  · rintro ⟨rfl, ho, hL⟩
    exact ⟨rfl, ho, _, by rw [← hx, List.map_tail], hL⟩
theorem rdrop_p {w : World} {b : Nat} {fs : List Frm} (h : RAt w b fs) : Calls Try.prog 73 #[ptr b] w (OpPost w b RAt (dropN fs) (dropS fs)) := by
  refine (rdrop_any w b _ h).mono ?_
  unfold RDropPost dropN dropS
  rw [List.length_reverse]
  intro e w'
  split
  · rintro ⟨rfl, rfl⟩
    exact ⟨rfl, Only.refl _ _, h⟩
  · rintro ⟨rfl, ho, hL⟩
    exact ⟨rfl, ho, by unfold RAt; rw [List.dropLast_reverse] at hL; exact hL⟩
theorem lmerge_p {w : World} {b : Nat} {fs : List Frm} (h : LAt w b fs) (hi : WellS fs) : Calls Try.prog 30 #[ptr b] w (OpPost w b LAt (dropN fs) (mergeS fs)) := by
  obtain ⟨xs, hx, h⟩ := h
  have hl : xs.length = fs.length := by rw [← hx, List.length_map]
  refine (merge_any w b xs h (fun x hm => by have := hi.small hx x hm; omega)).mono ?_
  unfold MergePost dropN
  rw [hl]
  intro e w'
  split
  · rename_i h1
    rintro ⟨rfl, rfl⟩
    refine ⟨rfl, Only.refl _ _, xs, ?_, h⟩
    match fs, h1 with
    | [], _ => exact hx
    | [x], _ => exact hx
  · rintro ⟨x, y, r, u, rfl, rfl, ho, hL⟩
    subst hx
    exact ⟨rfl, ho, _, rfl, hL⟩
theorem rmerge_p {w : World} {b : Nat} {fs : List Frm} (h : RAt w b fs) (hi : WellS fs) : Calls Try.prog 74 #[ptr b] w (OpPost w b RAt (dropN fs) (mergeS fs)) := by
  refine (rmerge_any w b _ h).mono ?_
  unfold RMergePost dropN
  rw [List.length_reverse]
  intro e w'
  split
  · rename_i h1
    rintro ⟨rfl, rfl⟩
    refine ⟨rfl, Only.refl _ _, ?_⟩
    match fs, h1 with
    | [], _ => exact h
    | [x], _ => exact h
  · rename_i h1
    rintro ⟨ys, g, f, hg, rfl, ho, hL⟩
    refine ⟨rfl, ho, ?_⟩
    match fs, h1 with
    | x :: y :: r, _ =>
      have e1 : r.reverse ++ [y, x] = ys ++ [g, f] := by simpa using hg
      obtain ⟨rfl, e2⟩ := List.append_inj' e1 rfl
      injection e2 with e2 e3
      injection e3 with e3 _
      subst e2 e3
      show RLogAt w' b (mergeF y x :: r).reverse
      rw [List.reverse_cons]
      exact hL.congr (by simp) (rowV_last (mrg_eq (hi.good x (by simp))))

theorem LAt.strange {w w' : World} {S : Nat → Prop} {b : Nat} {fs : List Frm} (h : LAt w b fs) (ho : Only S w w') (hs : Strange w S) (hb : ¬ S b) : LAt w' b fs := by
  obtain ⟨xs, hx, h⟩ := h
  exact ⟨xs, hx, h.strange ho hs hb⟩
theorem RAt.strange {w w' : World} {S : Nat → Prop} {b : Nat} {fs : List Frm} (h : RAt w b fs) (ho : Only S w w') (hs : Strange w S) (hb : ¬ S b) : RAt w' b fs := RLogAt.strange h ho hs hb
theorem LAt.odd {w : World} {b : Nat} {fs : List Frm} (h : LAt w b fs) : Strange w (fun k => k = b) := by
  obtain ⟨xs, hx, h⟩ := h
  exact h.odd
theorem RAt.odd {w : World} {b : Nat} {fs : List Frm} (h : RAt w b fs) : Strange w (fun k => k = b) := RLogAt.odd h
theorem LAt.below {w w' : World} {b : Nat} {fs : List Frm} (h : LAt w b fs) (l : Below w.heap.size w w') : LAt w' b fs := by
  obtain ⟨xs, hx, h⟩ := h
  exact ⟨xs, hx, h.below l⟩
theorem RAt.below {w w' : World} {b : Nat} {fs : List Frm} (h : RAt w b fs) (l : Below w.heap.size w w') : RAt w' b fs := RLogAt.below h l
/-- one deed on both -/
theorem both_step {w w0 w1 w2 : World} {b rb : Nat} {fs fs' : List Frm} {e : Ending} {n m : Int} (h : Both w b rb fs) (lW : Below w.heap.size w w0) (o1 : Only (fun k => k = b) w0 w1) (h1 : LAt w1 b fs') (o2 : Only (fun k => k = rb) w1 w2) (h2 : RAt w2 rb fs') (hr1 : RAt w1 rb fs) (hi : WellS fs') :
    DoPost w b rb (.returned (.bool true)) w2 := by
  refine ⟨rfl, ⟨fs', ⟨h1.strange o2 hr1.odd (by have := h.ne; exact this), h2, hi⟩⟩, ?_⟩
  have a := (Only.of_below (S := fun j => j = b ∨ j = rb) lW (fun k hk h => by omega)).trans (o1.mono fun k _ e => .inl e)
  exact a.trans (o2.mono fun k _ e => .inr e)
end Go.Proofs.Ytfpiecnbnoinnaa.Wri
