/- Who waits for what, in plain words; sets of variables as bits. -/
import Derived.Test.YtddcpehncbcliaaLib
import Derived.Test.YtddcpehncbcliaaMap
import Derived.Test.YtddcpehncbcliaaChecked
import Derived.Laws.BitsAllLaws
namespace Go.Proofs.Ytddcpehncbcliaa.Wai
open Go.RowKit
set_option linter.unusedSimpArgs false
set_option linter.unusedVariables false

abbrev ptr (b : Nat) : Value := .pointer (some ⟨b, 0, none⟩)
def okB (t : Int) : Bool := decide (0 ≤ t) && decide (t < 12)
theorem okB_iff {t : Int} : okB t = true ↔ 0 ≤ t ∧ t < 12 := by simp [okB]
def setN (ts : List Int) : Nat := ts.foldl (fun s t => s ||| 2 ^ t.toNat) 0
theorem fold_bit (ts : List Int) (hok : ∀ t ∈ ts, 0 ≤ t) (i : Nat) : ∀ s : Nat, (ts.foldl (fun s t => s ||| 2 ^ t.toNat) s).testBit i = (s.testBit i || decide ((i : Int) ∈ ts)) := by
  induction ts with
  | nil => intro s; simp
  | cons t ts ih =>
    intro s
    have h0 := hok t (by simp)
    rw [List.foldl_cons, ih (fun x hx => hok x (List.mem_cons_of_mem _ hx)), Nat.testBit_or, Nat.testBit_two_pow]
    by_cases h : (i : Int) = t
    · have : t.toNat = i := by omega
      simp [h, this]
    · have : ¬ t.toNat = i := by omega
      simp [h, this]
theorem setN_bit {ts : List Int} (hok : ∀ t ∈ ts, 0 ≤ t) (i : Nat) : (setN ts).testBit i = decide ((i : Int) ∈ ts) := by
  unfold setN
  rw [fold_bit ts hok]
  simp
theorem setN_lt {ts : List Int} (hok : ∀ t ∈ ts, okB t = true) : setN ts < 4096 := by
  refine Nat.lt_pow_two_of_testBit (n := 12) _ (fun i hi => ?_)
  rw [setN_bit (fun t ht => (okB_iff.1 (hok t ht)).1)]
  simp
  intro hm
  have := okB_iff.1 (hok _ hm)
  omega
theorem setN_snoc (ts : List Int) (t : Int) : setN (ts ++ [t]) = setN ts ||| 2 ^ t.toNat := by simp [setN]
theorem setN_zero {ts : List Int} (hok : ∀ t ∈ ts, okB t = true) : setN ts = 0 ↔ ts = [] := by
  constructor
  · intro h
    cases ts with
    | nil => rfl
    | cons t ts =>
      have h1 := okB_iff.1 (hok t (by simp))
      have h2 := setN_bit (ts := t :: ts) (fun x hx => (okB_iff.1 (hok x hx)).1) t.toNat
      rw [h] at h2
      have : ((t.toNat : Nat) : Int) = t := by omega
      simp [this] at h2
  · rintro rfl; rfl
theorem and_ne_zero {s u : Nat} (hs : s < 4096) : (s &&& u ≠ 0) ↔ ∃ i, i < 12 ∧ s.testBit i = true ∧ u.testBit i = true := by
  constructor
  · intro h
    obtain ⟨i, hi⟩ := Nat.exists_testBit_of_ne_zero h
    rw [Nat.testBit_and] at hi
    simp at hi
    refine ⟨i, ?_, hi⟩
    rcases Nat.lt_or_ge i 12 with h12 | h12
    · exact h12
    · have := Nat.testBit_lt_two_pow (x := s) (i := i) (Nat.lt_of_lt_of_le hs (Nat.pow_le_pow_right (by decide) h12 : 2 ^ 12 ≤ 2 ^ i))
      rw [this] at hi
      exact absurd hi.1 (by decide)
  · rintro ⟨i, _, h1, h2⟩ h0
    have : (s &&& u).testBit i = true := by rw [Nat.testBit_and, h1, h2]; rfl
    rw [h0] at this
    simp at this

/-! ### who waits -/
structure Wt where
  th : Int
  of : Nat
  sl : Bool
abbrev Ws := List Wt
def okTh (th : Int) : Prop := 0 ≤ th ∧ th < 4
instance (th : Int) : Decidable (okTh th) := inferInstanceAs (Decidable (_ ∧ _))
theorem okTh_in {th : Int} (h : okTh th) : inInt th := ⟨by have := h.1; omega, by have := h.2; omega⟩
def findW (ws : Ws) (th : Int) : Option Wt := ws.find? fun x => x.th == th
def ths (ws : Ws) : List Int := ws.map (·.th)
structure WfW (ws : Ws) : Prop where
  nodup : (ths ws).Nodup
  ok : ∀ x ∈ ws, okTh x.th ∧ x.of < 4096 ∧ x.of ≠ 0
theorem WfW.nil : WfW [] := ⟨List.nodup_nil, fun x h => by cases h⟩
theorem findW_none {ws : Ws} {th : Int} : findW ws th = none ↔ th ∉ ths ws := by
  unfold findW ths
  rw [List.find?_eq_none]
  constructor
  · intro h hm
    obtain ⟨x, hx, rfl⟩ := List.mem_map.1 hm
    exact h x hx (by simp)
  · intro h x hx he
    exact h (List.mem_map.2 ⟨x, hx, by simpa using he⟩)
theorem findW_some {ws : Ws} {th : Int} {x : Wt} (h : findW ws th = some x) : x ∈ ws ∧ x.th = th := by
  unfold findW at h
  exact ⟨List.mem_of_find?_eq_some h, by simpa using List.find?_some h⟩
theorem findW_at {ws : Ws} (h : (ths ws).Nodup) {x : Wt} (hx : x ∈ ws) : findW ws x.th = some x := by
  induction ws with
  | nil => cases hx
  | cons y ws ih =>
    have h' : (y.th :: ths ws).Nodup := h
    rw [List.nodup_cons] at h'
    unfold findW
    rcases List.mem_cons.1 hx with rfl | hx
    · rw [List.find?_cons_of_pos (by simp)]
    · rw [List.find?_cons_of_neg]
      · exact ih h'.2 hx
      · intro he
        exact h'.1 (List.mem_map.2 ⟨x, hx, by simpa using (beq_iff_eq.1 he).symm⟩)
theorem findW_snoc (ws : Ws) (x : Wt) (s : Int) : findW (ws ++ [x]) s = (findW ws s).or (if x.th = s then some x else none) := by
  unfold findW
  rw [List.find?_append]
  congr 1
  by_cases h : x.th = s <;> simp [h]
def without (ws : Ws) (th : Int) : Ws := ws.filter fun x => decide (x.th ≠ th)
theorem ths_without (ws : Ws) (th : Int) : ths (without ws th) = (ths ws).filter fun t => decide (t ≠ th) := by
  unfold ths without
  rw [List.filter_map]; rfl
theorem findW_without (ws : Ws) (th s : Int) : findW (without ws th) s = if s = th then none else findW ws s := by
  unfold findW without
  rw [List.find?_filter]
  by_cases h : s = th
  · rw [if_pos h, List.find?_eq_none]
    intro x _ hx
    simp at hx
    exact hx.1 (hx.2.trans h)
  · rw [if_neg h]
    congr 1
    funext x
    by_cases hx : x.th = s
    · simp [hx, h]
    · simp [hx]
theorem WfW.without {ws : Ws} (h : WfW ws) (th : Int) : WfW (without ws th) :=
  ⟨by rw [ths_without]; exact h.nodup.sublist List.filter_sublist, fun x hx => h.ok x ((List.mem_filter.1 hx).1)⟩
def bedded (ws : Ws) (th : Int) : Ws := ws.map fun x => if x.th = th then { x with sl := true } else x
theorem ths_bedded (ws : Ws) (th : Int) : ths (bedded ws th) = ths ws := by
  unfold ths bedded
  rw [List.map_map]
  refine List.map_congr_left fun x _ => ?_
  show (if x.th = th then { x with sl := true } else x).th = x.th
  split <;> rfl
theorem findW_bedded (ws : Ws) (th s : Int) : findW (bedded ws th) s = (findW ws s).map fun x => if x.th = th then { x with sl := true } else x := by
  unfold findW bedded
  rw [List.find?_map]
  congr 2
  funext x
  show ((if x.th = th then { x with sl := true } else x : Wt).th == s) = _
  split <;> rfl
theorem WfW.bedded {ws : Ws} (h : WfW ws) (th : Int) : WfW (bedded ws th) := by
  refine ⟨by rw [ths_bedded]; exact h.nodup, fun x hx => ?_⟩
  obtain ⟨y, hy, rfl⟩ := List.mem_map.1 hx
  have := h.ok y hy
  split <;> exact this
/-! ### the deeds -/
def getEr (th : Int) : Int := if okTh th then 0 else 2
def regE (ws : Ws) (th : Int) (ts : List Int) : Int :=
  if ¬ okTh th then 2 else if ts.all okB = false then 2 else if ts = [] then 3 else if (findW ws th).isSome then 6 else 0
def regS (ws : Ws) (th : Int) (ts : List Int) : Ws := if regE ws th ts = 0 then ws ++ [⟨th, setN ts, false⟩] else ws
def sleepE (ws : Ws) (th : Int) : Int := if ¬ okTh th then 2 else match findW ws th with | none => 8 | some x => if x.sl then 8 else 0
def sleepS (ws : Ws) (th : Int) : Ws := if sleepE ws th = 0 then bedded ws th else ws
def cancE (ws : Ws) (th : Int) : Int := if ¬ okTh th then 2 else if (findW ws th).isSome then 0 else 5
def cancS (ws : Ws) (th : Int) : Ws := if cancE ws th = 0 then without ws th else ws
def meets (u : Nat) (x : Wt) : Bool := x.of &&& u != 0
def wakeN (ts : List Int) : Nat := ts.foldl (fun s t => s ||| (if okB t then 2 ^ t.toNat else 0)) 0
def meetW (ws : Ws) (u : Nat) : List Int := ths (ws.filter (meets u))
def wakeS (ws : Ws) (u : Nat) : Ws := ws.filter fun x => !meets u x
theorem WfW.reg {ws : Ws} (h : WfW ws) (th : Int) (ts : List Int) : WfW (regS ws th ts) := by
  unfold regS
  split
  · rename_i hE
    unfold regE at hE
    have ht : okTh th := Decidable.not_not.1 fun hn => by rw [if_pos hn] at hE; cases hE
    rw [if_neg (fun hn => hn ht)] at hE
    have hall : ts.all okB = true := by
      cases ha : ts.all okB
      · rw [if_pos ha] at hE; cases hE
      · rfl
    rw [if_neg (by rw [hall]; decide)] at hE
    have hne : ts ≠ [] := fun hn => by rw [if_pos hn] at hE; cases hE
    rw [if_neg hne] at hE
    have hf : findW ws th = none := by
      cases hf : findW ws th with
      | none => rfl
      | some x => rw [hf] at hE; cases hE
    have hok : ∀ t ∈ ts, okB t = true := List.all_eq_true.1 hall
    refine ⟨?_, ?_⟩
    · unfold ths
      rw [List.map_append, List.nodup_append]
      refine ⟨h.nodup, by simp, ?_⟩
      intro a ha b hb
      simp at hb
      subst hb
      rintro rfl
      exact findW_none.1 hf ha
    · intro x hx
      rcases List.mem_append.1 hx with hx | hx
      · exact h.ok x hx
      · rw [List.mem_singleton] at hx
        subst hx
        exact ⟨ht, setN_lt hok, fun h0 => hne ((setN_zero hok).1 h0)⟩
  · exact h
theorem WfW.sleep {ws : Ws} (h : WfW ws) (th : Int) : WfW (sleepS ws th) := by unfold sleepS; split; exact h.bedded th; exact h
theorem WfW.canc {ws : Ws} (h : WfW ws) (th : Int) : WfW (cancS ws th) := by unfold cancS; split; exact h.without th; exact h
theorem WfW.wake {ws : Ws} (h : WfW ws) (u : Nat) : WfW (wakeS ws u) :=
  ⟨h.nodup.sublist ((List.filter_sublist (l := ws)).map _), fun x hx => h.ok x ((List.mem_filter.1 hx).1)⟩
theorem nodup_le (l : List Int) (h : l.Nodup) (n : Nat) (hb : ∀ x ∈ l, 0 ≤ x ∧ x < (n : Int)) : l.length ≤ n := by
  induction n generalizing l with
  | zero =>
    cases l with
    | nil => exact Nat.le_refl _
    | cons x l => have := hb x (by simp); omega
  | succ n ih =>
    have h1 := ih (l.filter fun x => decide (x ≠ (n : Int))) (h.sublist List.filter_sublist) (by
      intro x hx
      rw [List.mem_filter] at hx
      have := hb x hx.1
      have h2 : x ≠ (n : Int) := by simpa using hx.2
      omega)
    have h3 : l.length ≤ (l.filter fun x => decide (x ≠ (n : Int))).length + 1 := by
      clear ih h1 hb
      induction l with
      | nil => simp
      | cons x l ih =>
        rw [List.nodup_cons] at h
        by_cases hx : x = (n : Int)
        · subst hx
          rw [List.filter_cons_of_neg (by simp)]
          have : l.filter (fun x => decide (x ≠ (n : Int))) = l := List.filter_eq_self.2 fun y hy => by
            have : y ≠ (n : Int) := fun e => h.1 (e ▸ hy)
            simpa using this
          rw [this]; simp
        · rw [List.filter_cons_of_pos (by simpa using hx)]
          have := ih h.2
          simp only [List.length_cons]
          omega
    omega
theorem WfW.len {ws : Ws} (h : WfW ws) : ws.length ≤ 4 := by
  have := nodup_le (ths ws) h.nodup 4 (fun t ht => by
    obtain ⟨x, hx, rfl⟩ := List.mem_map.1 ht
    exact (h.ok x hx).1)
  simpa [ths] using this
end Go.Proofs.Ytddcpehncbcliaa.Wai
