/- Plain laws on frames; both logs at once. -/
import Derived.Test.YtfpiecnbnoinnaaWriV
namespace Go.Proofs.Ytfpiecnbnoinnaa.Wri
open Go.RowKit
set_option linter.unusedSimpArgs false
set_option linter.unusedVariables false
set_option maxRecDepth 50000

/-- each variable once, and each one that may be -/
def GoodF (f : Frm) : Prop := (f.map (·.1)).Nodup ∧ ∀ p ∈ f, 0 ≤ p.1 ∧ p.1 < 12
def lenF (fs : List Frm) : Nat := (fs.map List.length).sum
structure WellS (fs : List Frm) : Prop where
  good : ∀ f ∈ fs, GoodF f
  len : lenF fs ≤ 16
theorem GoodF.nil : GoodF [] := ⟨List.nodup_nil, fun p h => by cases h⟩
theorem GoodF.tail {p : Int × Int} {f : Frm} (h : GoodF (p :: f)) : GoodF f := by
  have h1 := h.1
  rw [List.map_cons, List.nodup_cons] at h1
  exact ⟨h1.2, fun q hq => h.2 q (List.mem_cons_of_mem _ hq)⟩
theorem getF_cons (p : Int × Int) (f : Frm) (t : Int) : getF (p :: f) t = if p.1 = t then some p.2 else getF f t := by
  by_cases h : p.1 = t <;> simp [getF, h]
theorem getF_isNone (f : Frm) (t : Int) : getF f t = none ↔ t ∉ f.map (·.1) := by
  induction f with
  | nil => simp [getF]
  | cons p f ih =>
    rw [getF_cons, List.map_cons, List.mem_cons]
    by_cases h : p.1 = t
    · simp [h]
    · have h2 : ¬ t = p.1 := fun e => h e.symm
      rw [if_neg h, ih]
      simp [h2]
theorem keys_putF (f : Frm) (t v : Int) : (putF f t v).map (·.1) = if t ∈ f.map (·.1) then f.map (·.1) else f.map (·.1) ++ [t] := by
  induction f with
  | nil => simp [putF]
  | cons p f ih =>
    unfold putF
    by_cases h : p.1 = t
    · simp [h]
    · have h2 : ¬ t = p.1 := fun e => h e.symm
      rw [if_neg h, List.map_cons, ih, List.map_cons]
      by_cases hm : t ∈ f.map (·.1)
      · rw [if_pos hm, if_pos (List.mem_cons_of_mem _ hm)]
      · rw [if_neg hm, if_neg (by rw [List.mem_cons]; rintro (e | e); exact h2 e; exact hm e)]; rfl
theorem GoodF.put {f : Frm} (h : GoodF f) {t : Int} (ht : okT t) (v : Int) : GoodF (putF f t v) := by
  refine ⟨?_, ?_⟩
  · rw [keys_putF]
    split
    · exact h.1
    · rename_i hn
      rw [List.nodup_append]
      refine ⟨h.1, by simp, ?_⟩
      intro a ha b hb
      rw [List.mem_singleton] at hb
      subst hb
      rintro rfl
      exact hn ha
  · intro p hp
    have hm : p.1 ∈ (putF f t v).map (·.1) := List.mem_map_of_mem hp
    rw [keys_putF] at hm
    have hk : ∀ k ∈ f.map (·.1), 0 ≤ k ∧ k < 12 := by
      intro k hk
      obtain ⟨q, hq, rfl⟩ := List.mem_map.1 hk
      exact h.2 q hq
    split at hm
    · exact hk _ hm
    · rcases List.mem_append.1 hm with hm | hm
      · exact hk _ hm
      · rw [List.mem_singleton] at hm
        rw [hm]; exact ht
theorem putF_len_eq (f : Frm) (t v : Int) : (putF f t v).length = f.length + if getF f t = none then 1 else 0 := by
  have h := congrArg List.length (keys_putF f t v)
  rw [List.length_map] at h
  rw [h]
  by_cases hm : t ∈ f.map (·.1)
  · rw [if_pos hm, if_neg (by rw [getF_isNone]; exact fun h => h hm), List.length_map]; rfl
  · rw [if_neg hm, if_pos ((getF_isNone f t).2 hm)]; simp
theorem GoodF.merge {x : Frm} : ∀ {y : Frm}, GoodF y → GoodF x → GoodF (mergeF y x) := by
  induction x with
  | nil => intro y hy _; exact hy
  | cons p x ih =>
    intro y hy hx
    exact ih (hy.put (hx.2 p (by simp)) p.2) hx.tail
theorem getF_mergeF {x : Frm} : ∀ {y : Frm}, GoodF x → ∀ t, getF (mergeF y x) t = (getF x t).or (getF y t) := by
  induction x with
  | nil => intro y _ t; rfl
  | cons p x ih =>
    intro y hx t
    have e : mergeF y (p :: x) = mergeF (putF y p.1 p.2) x := rfl
    rw [e, ih hx.tail, getF_put, getF_cons]
    have h1 := hx.1
    rw [List.map_cons, List.nodup_cons] at h1
    by_cases h : p.1 = t
    · subst h
      rw [(getF_isNone x p.1).2 h1.1, if_pos rfl, if_pos rfl]; rfl
    · rw [if_neg h, if_neg (fun e => h e.symm)]
theorem cntK_cons (p : Int × Int) (f : Frm) (k : Nat) : cntK (p :: f) k = cntK f k + if 0 ≤ p.1 ∧ p.1 < k ∧ getF f p.1 = none then 1 else 0 := by
  induction k with
  | zero =>
    rw [if_neg (by rintro ⟨h1, h2, _⟩; simp at h2; omega)]; rfl
  | succ k ih =>
    simp only [cntK]
    rw [ih, getF_cons]
    by_cases h : p.1 = (k : Int)
    · rw [if_neg (show ¬ (0 ≤ p.1 ∧ p.1 < (k : Int) ∧ getF f p.1 = none) by rw [h]; omega), if_pos h, ← h]
      cases hg : getF f p.1 with
      | none => simp; omega
      | some v => simp
    · rw [if_neg h]
      have e : (0 ≤ p.1 ∧ p.1 < (k : Int) ∧ getF f p.1 = none) = (0 ≤ p.1 ∧ p.1 < ((k + 1 : Nat) : Int) ∧ getF f p.1 = none) := by
        apply propext; constructor
        · rintro ⟨a, b, c⟩; exact ⟨a, by omega, c⟩
        · rintro ⟨a, b, c⟩; exact ⟨a, by omega, c⟩
      simp only [e]
      omega
theorem cntK_good {f : Frm} (h : GoodF f) : cntK f 12 = f.length := by
  induction f with
  | nil => rfl
  | cons p f ih =>
    have h1 := h.1
    rw [List.map_cons, List.nodup_cons] at h1
    have h2 := h.2 p (by simp)
    rw [cntK_cons, ih h.tail, if_pos ⟨h2.1, h2.2, (getF_isNone f p.1).2 h1.1⟩]; rfl
theorem lenF_cons (f : Frm) (fs : List Frm) : lenF (f :: fs) = f.length + lenF fs := rfl
theorem cntG_rev (fs : List Frm) (h : ∀ f ∈ fs, GoodF f) : cntG fs.reverse = lenF fs := by
  induction fs with
  | nil => rfl
  | cons f fs ih =>
    have := ih (fun g hg => h g (List.mem_cons_of_mem _ hg))
    have hf := cntK_good (h f (by simp))
    unfold cntG at this ⊢
    rw [List.reverse_cons, List.map_append, List.sum_append, this, lenF_cons]
    simp [hf]; omega
theorem lenAll_eq (xs : Frs) : lenAll xs = (lenF (xs.map (·.2)) : Nat) := by
  induction xs with
  | nil => rfl
  | cons x xs ih =>
    have e : lenAll (x :: xs) = x.2.length + lenAll xs := rfl
    rw [e, ih, List.map_cons, lenF_cons]; omega
theorem getS_eq (xs : Frs) (t : Int) : getS xs t = getL (xs.map (·.2)) t := by
  induction xs with
  | nil => rfl
  | cons x xs ih =>
    rw [getS, List.map_cons, getL, List.findSome?_cons]
    cases getF x.2 t with
    | none => exact ih
    | some v => rfl
theorem getL_cons (f : Frm) (fs : List Frm) (t : Int) : getL (f :: fs) t = (getF f t).or (getL fs t) := by
  rw [getL, List.findSome?_cons]
  cases getF f t <;> rfl
theorem getL_out {fs : List Frm} (h : ∀ f ∈ fs, GoodF f) {t : Int} (ht : ¬ okT t) : getL fs t = none := by
  unfold getL
  rw [List.findSome?_eq_none_iff]
  intro f hf
  rw [getF_isNone]
  intro hm
  obtain ⟨p, hp, rfl⟩ := List.mem_map.1 hm
  exact ht ((h f hf).2 p hp)
theorem rowV_last {ys : List Frm} {f g : Frm} (h : rc f = rc g) : rowV (ys ++ [f]) = rowV (ys ++ [g]) := by
  rw [rowV_append, rowV_append]
  simp [rowV, h]
theorem RLogAt.congr {w : World} {b : Nat} {gs hs : List Frm} (h : RLogAt w b gs) (hl : gs.length = hs.length) (hr : rowV gs = rowV hs) : RLogAt w b hs := by
  unfold RLogAt at h ⊢
  rw [← hl, ← hr]
  exact h
theorem mrg_eq {y x : Frm} (hx : GoodF x) : rc (mrgK y x 12) = rc (mergeF y x) := rc_congr fun k hk => by
  rw [getF_mrgK, if_pos hk, getF_mergeF hx]
/-! ### what another object's change leaves -/
/-- none of these blocks is a part of a frame -/
def Strange (w : World) (S : Nat → Prop) : Prop := ∀ k, S k → w.heap.size ≤ k ∨ ∃ cs t fr, w.heap[k]? = some (.cells cs t fr) ∧ t ≠ 83 ∧ t ≠ 61 ∧ t ≠ 115
theorem Strange.not {w : World} {S : Nat → Prop} (h : Strange w S) {k : Nat} {cs : Array Value} {t : TypeId} {fr : Nat × Nat} (hk : w.heap[k]? = some (.cells cs t fr)) (ht : t = 83 ∨ t = 61 ∨ t = 115) : ¬ S k := by
  intro hS
  have hlt := blk_lt hk
  rcases h k hS with h1 | ⟨cs', t', fr', h1, h2, h3, h4⟩
  · omega
  · rw [hk] at h1
    injection h1 with h1
    injection h1 with _ h1 _
    subst h1
    rcases ht with rfl | rfl | rfl
    · exact h2 rfl
    · exact h3 rfl
    · exact h4 rfl
theorem row_strange {w w' : World} {S : Nat → Prop} {base : Nat} {e : TypeId} {size n : Nat} {v : Value} {xs : List Value} (h : w.ownsRow base e size v n xs) (ho : Only S w w') (hs : Strange w S) (he : e = 83 ∨ e = 61 ∨ e = 115) : w'.ownsRow base e size v n xs := by
  refine ownsRow_only h ho fun k hk hS => ?_
  rcases h.2 with ⟨rfl, _⟩ | ⟨g, cap, cur, rfl, _, hg, _⟩
  · cases hk
  · have : g = k := by simpa [Value.ownBlock] using hk
    subst this
    exact hs.not hg he hS
theorem StackAt.strange {w w' : World} {S : Nat → Prop} (ho : Only S w w') (hs : Strange w S) : ∀ {p : Value} {xs : Frs}, StackAt w p xs → StackAt w' p xs
  | _, [], h => h
  | _, x :: r, ⟨b, q, e, hb, hf, hl, hr⟩ => ⟨b, q, e, ho.blk hb (hs.not hb (.inl rfl)), row_strange hf ho hs (.inr (.inl rfl)), hl, StackAt.strange ho hs hr⟩
theorem LogAt.strange {w w' : World} {S : Nat → Prop} {b : Nat} {xs : Frs} (h : LogAt w b xs) (ho : Only S w w') (hs : Strange w S) (hb : ¬ S b) : LogAt w' b xs := by
  obtain ⟨o, h1, h2, h3⟩ := h
  exact ⟨o, ho.blk h1 hb, h2.strange ho hs, h3⟩
theorem RLogAt.strange {w w' : World} {S : Nat → Prop} {b : Nat} {gs : List Frm} (h : RLogAt w b gs) (ho : Only S w w') (hs : Strange w S) (hb : ¬ S b) : RLogAt w' b gs := by
  obtain ⟨g, cap, h1, h2, h3⟩ := h
  exact ⟨g, cap, ho.blk h1 hb, row_strange h2 ho hs (.inr (.inr rfl)), h3⟩
theorem LogAt.odd {w : World} {b : Nat} {xs : Frs} (h : LogAt w b xs) : Strange w (fun k => k = b) := by
  obtain ⟨o, h1, _⟩ := h
  rintro k rfl
  exact .inr ⟨_, _, _, h1, by decide, by decide, by decide⟩
theorem RLogAt.odd {w : World} {b : Nat} {gs : List Frm} (h : RLogAt w b gs) : Strange w (fun k => k = b) := by
  obtain ⟨g, cap, h1, _⟩ := h
  rintro k rfl
  exact .inr ⟨_, _, _, h1, by decide, by decide, by decide⟩
theorem Strange.or {w : World} {S T : Nat → Prop} (h : Strange w S) (k : Strange w T) : Strange w (fun j => S j ∨ T j) := fun j hj => hj.elim (h j) (k j)
theorem LogAt.lt {w : World} {b : Nat} {xs : Frs} (h : LogAt w b xs) : b < w.heap.size := by
  obtain ⟨o, h1, _⟩ := h
  exact blk_lt h1
theorem LogAt.ne {w : World} {b rb : Nat} {xs : Frs} {gs : List Frm} (h : LogAt w b xs) (k : RLogAt w rb gs) : b ≠ rb := by
  obtain ⟨o, h1, _⟩ := h
  obtain ⟨g, cap, k1, _⟩ := k
  rintro rfl
  rw [h1] at k1
  injection k1 with k1
  injection k1 with _ k1 _
  exact absurd k1 (by decide)
/-- both logs, with the same frames, the uppermost first -/
structure Both (w : World) (b rb : Nat) (fs : List Frm) : Prop where
  l : ∃ xs, xs.map (·.2) = fs ∧ LogAt w b xs
  r : RLogAt w rb fs.reverse
  i : WellS fs
theorem Both.ne {w : World} {b rb : Nat} {fs : List Frm} (h : Both w b rb fs) : b ≠ rb := by
  obtain ⟨xs, _, hl⟩ := h.l
  exact hl.ne h.r
theorem Both.below {w w' : World} {b rb : Nat} {fs : List Frm} (h : Both w b rb fs) (l : Below w.heap.size w w') : Both w' b rb fs := by
  obtain ⟨xs, hx, hl⟩ := h.l
  exact ⟨⟨xs, hx, hl.below l⟩, h.r.below l, h.i⟩
theorem Both.odd {w : World} {b rb : Nat} {fs : List Frm} (h : Both w b rb fs) : Strange w (fun k => k = b ∨ k = rb) := by
  obtain ⟨xs, hx, hl⟩ := h.l
  exact hl.odd.or h.r.odd
theorem Both.blt {w : World} {b rb : Nat} {fs : List Frm} (h : Both w b rb fs) : b < w.heap.size := by
  obtain ⟨xs, hx, hl⟩ := h.l
  exact hl.lt
theorem Both.strange {w w' : World} {S : Nat → Prop} {b rb : Nat} {fs : List Frm} (h : Both w b rb fs) (ho : Only S w w') (hs : Strange w S) (hb : ¬ S b) (hr : ¬ S rb) : Both w' b rb fs := by
  obtain ⟨xs, hx, hl⟩ := h.l
  exact ⟨⟨xs, hx, hl.strange ho hs hb⟩, h.r.strange ho hs hr, h.i⟩
def DoPost (w : World) (b rb : Nat) (e : Ending) (w' : World) : Prop :=
  e = .returned (.bool true) ∧ (∃ fs', Both w' b rb fs') ∧ Only (fun j => j = b ∨ j = rb) w w'
theorem WellS.small {xs : Frs} {fs : List Frm} (h : WellS fs) (hx : xs.map (·.2) = fs) : ∀ x ∈ xs, x.2.length ≤ 16 := by
  intro x hm
  have h1 := h.len
  subst hx
  clear h
  induction xs with
  | nil => cases hm
  | cons y xs ih =>
    rw [List.map_cons, lenF_cons] at h1
    rcases List.mem_cons.1 hm with rfl | hm
    · omega
    · exact ih hm (by omega)
end Go.Proofs.Ytfpiecnbnoinnaa.Wri
