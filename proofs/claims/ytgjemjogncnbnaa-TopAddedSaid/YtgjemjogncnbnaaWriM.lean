/- What was written, in plain words; how frames stand in memory. -/
import Derived.Test.YtgjemjogncnbnaaWriR
import Derived.Test.YtgjemjogncnbnaaChecked
namespace Go.Proofs.Ytgjemjogncnbnaa.Wri
open Go.RowKit
set_option linter.unusedSimpArgs false
set_option linter.unusedVariables false
set_option maxRecDepth 50000

abbrev ptr (b : Nat) : Value := .pointer (some ⟨b, 0, none⟩)
abbrev Frm := List (Int × Int)
def pairVals (f : Frm) : List Value := f.flatMap fun p => [.int .i64 p.1, .int .u64 p.2]
theorem pairVals_length (f : Frm) : (pairVals f).length = f.length * 2 := by
  induction f with
  | nil => rfl
  | cons x f ih => simp [pairVals] at ih ⊢; omega
theorem pairVals_get (f : Frm) (i : Nat) (p : Int × Int) (h : f[i]? = some p) : (pairVals f)[i * 2]? = some (.int .i64 p.1) ∧ (pairVals f)[i * 2 + 1]? = some (.int .u64 p.2) := by
  induction f generalizing i with
  | nil => simp at h
  | cons x f ih =>
    cases i with
    | zero => simp at h; subst h; exact ⟨rfl, rfl⟩
    | succ i =>
      have := ih i (by simpa using h)
      have e : pairVals (x :: f) = .int .i64 x.1 :: .int .u64 x.2 :: pairVals f := rfl
      rw [e, show (i + 1) * 2 = i * 2 + 1 + 1 by omega, show i * 2 + 1 + 1 + 1 = (i * 2 + 1) + 1 + 1 by omega]
      simpa using this
theorem pairVals_one (f : Frm) : ∀ u ∈ pairVals f, u.oneCell' = true := by
  intro u hu
  obtain ⟨p, _, hp⟩ := List.mem_flatMap.1 hu
  simp at hp
  rcases hp with rfl | rfl <;> rfl
theorem pairVals_append (f g : Frm) : pairVals (f ++ g) = pairVals f ++ pairVals g := by simp [pairVals]
theorem pairVals_set (f : Frm) (i : Nat) (t v v' : Int) (h : f[i]? = some (t, v)) : (pairVals f).set (i * 2 + 1) (.int .u64 v') = pairVals (f.set i (t, v')) := by
  induction f generalizing i with
  | nil => simp at h
  | cons x f ih =>
    cases i with
    | zero => simp at h; subst h; rfl
    | succ i =>
      have := ih i (by simpa using h)
      have e : ∀ (y : Int × Int) (g : Frm), pairVals (y :: g) = .int .i64 y.1 :: .int .u64 y.2 :: pairVals g := fun _ _ => rfl
      rw [e, show (i + 1) * 2 + 1 = (i * 2 + 1) + 1 + 1 by omega, List.set_cons_succ, List.set_cons_succ, this, List.set_cons_succ, e]
/-- a frame's value of a variable -/
def getF (f : Frm) (t : Int) : Option Int := (f.find? fun p => p.1 == t).map (·.2)
/-- a frame with a value more, or another one -/
def putF : Frm → Int → Int → Frm
  | [], t, v => [(t, v)]
  | p :: f, t, v => if p.1 = t then (t, v) :: f else p :: putF f t v
theorem getF_put (f : Frm) (t v s : Int) : getF (putF f t v) s = if s = t then some v else getF f s := by
  induction f with
  | nil =>
    by_cases h : s = t
    · simp [putF, getF, h]
    · have : ¬ t = s := fun e => h e.symm
      simp [putF, getF, h, this]
  | cons p f ih =>
    unfold putF
    by_cases hp : p.1 = t
    · rw [if_pos hp]
      by_cases h : s = t
      · simp [getF, h]
      · have h2 : ¬ t = s := fun e => h e.symm
        have h3 : ¬ p.1 = s := by rw [hp]; exact h2
        simp [getF, h, h2, h3]
    · rw [if_neg hp]
      by_cases h3 : p.1 = s
      · have h : ¬ s = t := by rw [← h3]; exact hp
        simp [getF, h3, h]
      · have e1 : getF (p :: putF f t v) s = getF (putF f t v) s := by simp [getF, h3]
        have e2 : getF (p :: f) s = getF f s := by simp [getF, h3]
        rw [e1, e2, ih]
/-- the first k are not t: where t stands -/
theorem putF_at (f : Frm) (i : Nat) (t v v' : Int) (h : f[i]? = some (t, v)) (hn : ∀ j p, j < i → f[j]? = some p → p.1 ≠ t) : putF f t v' = f.set i (t, v') := by
  induction f generalizing i with
  | nil => simp at h
  | cons x f ih =>
    cases i with
    | zero => simp at h; subst h; simp [putF]
    | succ i =>
      have hx : x.1 ≠ t := hn 0 x (by omega) rfl
      rw [putF, if_neg hx, List.set_cons_succ, ih i (by simpa using h) (fun j p hj hp => hn (j + 1) p (by omega) (by simpa using hp))]
theorem putF_new (f : Frm) (t v : Int) (hn : ∀ j p, j < f.length → f[j]? = some p → p.1 ≠ t) : putF f t v = f ++ [(t, v)] := by
  induction f with
  | nil => rfl
  | cons x f ih =>
    have hx : x.1 ≠ t := hn 0 x (by simp) rfl
    rw [putF, if_neg hx, ih (fun j p hj hp => hn (j + 1) p (by simp; omega) (by simpa using hp))]
    rfl
theorem getF_at (f : Frm) (i : Nat) (t v : Int) (h : f[i]? = some (t, v)) (hn : ∀ j p, j < i → f[j]? = some p → p.1 ≠ t) : getF f t = some v := by
  induction f generalizing i with
  | nil => simp at h
  | cons x f ih =>
    cases i with
    | zero => simp at h; subst h; simp [getF]
    | succ i =>
      have hx : x.1 ≠ t := hn 0 x (by omega) rfl
      have e : getF (x :: f) t = getF f t := by simp [getF, hx]
      rw [e]
      exact ih i (by simpa using h) (fun j p hj hp => hn (j + 1) p (by omega) (by simpa using hp))
theorem getF_none (f : Frm) (t : Int) (hn : ∀ j p, j < f.length → f[j]? = some p → p.1 ≠ t) : getF f t = none := by
  induction f with
  | nil => rfl
  | cons x f ih =>
    have hx : x.1 ≠ t := hn 0 x (by simp) rfl
    have e : getF (x :: f) t = getF f t := by simp [getF, hx]
    rw [e]
    exact ih (fun j p hj hp => hn (j + 1) p (by simp; omega) (by simpa using hp))

/-- a frame in memory -/
abbrev FrAt (w : World) (v : Value) (f : Frm) : Prop := w.ownsRow 0 100 2 v f.length (pairVals f)
/-- a row that was made since -/
def Fr (w : World) (u : Value) : Prop := ∀ k, u.ownBlock = some k → w.heap.size ≤ k
def StackAt (w : World) (p : Value) : List (Value × Frm) → Prop
  | [] => p = .pointer none
  | x :: r => ∃ b q, p = ptr b ∧ w.heap[b]? = some (.cells #[x.1, q] 127 (0, 0)) ∧ FrAt w x.1 x.2 ∧ x.2.length ≤ 1000 ∧ StackAt w q r
theorem frAt_below {w w' : World} {v : Value} {f : Frm} (h : FrAt w v f) (l : Below w.heap.size w w') : FrAt w' v f :=
  ownsRow_only h (Only.empty l (Nat.le_refl _)) (fun _ _ h => h)
theorem StackAt.below {w w' : World} (l : Below w.heap.size w w') : ∀ {p : Value} {xs : List (Value × Frm)}, StackAt w p xs → StackAt w' p xs
  | _, [], h => h
  | _, x :: r, ⟨b, q, e, hb, hf, hl, hr⟩ => ⟨b, q, e, bblk l hb, frAt_below hf l, hl, StackAt.below l hr⟩
theorem frAt_cell {w : World} {g cap n : Nat} {f : Frm} (h : FrAt w (.slice (some ⟨g, 0, none⟩) n cap) f) {i : Nat} {p : Int × Int} (hi : f[i]? = some p) :
    w.cell? ⟨g, i * 2, none⟩ = some (.int .i64 p.1) ∧ w.cell? ⟨g, i * 2 + 1, none⟩ = some (.int .u64 p.2) := by
  obtain ⟨h0, h1⟩ := pairVals_get f i p hi
  have hc := h.cells (g := g) rfl
  have e0 := hc _ _ h0
  have e1 := hc _ _ h1
  rw [Addr.add_lit, Nat.zero_add] at e0 e1
  exact ⟨e0, e1⟩
/-- a frame's slice value -/
theorem frAt_slice {w : World} {v : Value} {f : Frm} (h : FrAt w v f) : (v = .slice none 0 0 ∧ f = []) ∨ ∃ g cap, v = .slice (some ⟨g, 0, none⟩) f.length cap := by
  rcases h.2 with ⟨rfl, h0⟩ | ⟨g, cap, cur, rfl, _⟩
  · exact .inl ⟨rfl, List.length_eq_zero_iff.1 h0⟩
  · exact .inr ⟨g, cap, rfl⟩
theorem row_set {w : World} {base : Nat} {e : TypeId} {size g cap n k : Nat} {xs : List Value} {u : Value} (h : w.ownsRow base e size (.slice (some ⟨g, 0, none⟩) n cap) n xs) (hk : k < n * size) :
    (w.setCell ⟨g, k, none⟩ u).ownsRow base e size (.slice (some ⟨g, 0, none⟩) n cap) n (xs.set k u) := by
  have hxl : xs.length = n * size := h.1
  rcases h.2 with ⟨h0, _⟩ | ⟨g', cap', cur, he, hb, hg, hn, hm, hs, ht⟩
  · cases h0
  injection he with e1 _ e3
  injection e1 with e1
  injection e1 with e1 _ _
  subst e1 e3
  refine ⟨by simpa using hxl, .inr ⟨g, cap, cur.setIfInBounds k u, rfl, hb, blk_set hg k u, hn, hm, by simpa using hs, ?_⟩⟩
  rw [← ht]
  simp only [Array.toList_setIfInBounds]
  rw [List.take_set]
end Go.Proofs.Ytgjemjogncnbnaa.Wri
