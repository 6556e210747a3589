/- The plain side of shared words: ops, what was done, what an op comes to. No Go here. -/
import Derived.Test.YtiopopplbehieaaLib
namespace Go.Proofs.Ytiopopplbehieaa.Cel

structure OpV where
  k : Int
  c : Int
  a : Int
  b : Int
deriving DecidableEq
structure Dn where
  o : OpV
  w : Int
  ok : Bool
deriving DecidableEq

def OpV.vals (o : OpV) : List Value := [.int .u8 o.k, .int .i64 o.c, .int .u64 o.a, .int .u64 o.b]
def Dn.vals (d : Dn) : List Value := [.int .u8 d.o.k, .int .i64 d.o.c, .int .u64 d.o.a, .int .u64 d.o.b, .int .u64 d.w, .bool d.ok]
def noDn : Dn := ⟨⟨0, 0, 0, 0⟩, 0, false⟩
def logVals (l : List Dn) : List Value := l.flatMap Dn.vals
def wordVals (l : List Int) : List Value := l.map (Value.int .u64)

theorem logVals_length (l : List Dn) : (logVals l).length = l.length * 6 := by
  induction l with
  | nil => rfl
  | cons d l ih => simp [logVals, Dn.vals] at ih ⊢; omega
theorem logVals_snoc (l : List Dn) (d : Dn) : logVals (l ++ [d]) = logVals l ++ d.vals := by simp [logVals]
theorem wordVals_length (l : List Int) : (wordVals l).length = l.length := by simp [wordVals]

/-- words, and what was done -/
structure CSt where
  ws : List Int
  log : List Dn

/-- what stands behind an op, whether it changed what it should, the error -/
def becV (o : OpV) (was : Int) : Int × Bool × Int :=
  if o.k = 1 then (was, true, 0)
  else if o.k = 3 then (if was = o.a then (o.b, true, 0) else (was, false, 0))
  else if o.k = 2 then (o.a, true, 0)
  else if o.k = 4 then (if 18446744073709551616 ≤ was + o.a then (was, false, 4) else (was + o.a, true, 0))
  else (was, false, 3)

def CSt.at (s : CSt) (i : Int) : Int := s.ws.getD i.toNat 0
def CSt.inr (s : CSt) (i : Int) : Bool := decide (0 ≤ i ∧ i < s.ws.length)
def CSt.doE (s : CSt) (o : OpV) : Int := if s.inr o.c then (becV o (s.at o.c)).2.2 else 2
def CSt.doD (s : CSt) (o : OpV) : Dn := if s.doE o = 0 then ⟨o, s.at o.c, (becV o (s.at o.c)).2.1⟩ else noDn
def CSt.doS (s : CSt) (o : OpV) : CSt :=
  if s.doE o = 0 then ⟨s.ws.set o.c.toNat (becV o (s.at o.c)).1, s.log ++ [s.doD o]⟩ else s

/-- numbers that fit -/
def U64 (x : Int) : Prop := 0 ≤ x ∧ x < 18446744073709551616
def OpV.Fit (o : OpV) : Prop := 0 ≤ o.k ∧ o.k ≤ 255 ∧ U64 o.a ∧ U64 o.b
structure CSt.Inv (s : CSt) : Prop where
  ws : ∀ x ∈ s.ws, U64 x
  small : s.ws.length ≤ 1000
  log : s.log.length ≤ 1000
theorem CSt.at_fit {s : CSt} (h : s.Inv) (i : Int) : U64 (s.at i) := by
  unfold CSt.at
  rw [List.getD_eq_getElem?_getD]
  cases hg : s.ws[i.toNat]? with
  | none => exact ⟨by simp, by simp⟩
  | some x => exact h.ws x (List.mem_of_getElem? hg)
theorem becV_fit {o : OpV} (ho : o.Fit) {was : Int} (hw : U64 was) : U64 (becV o was).1 := by
  obtain ⟨h1, h2, h3, h4⟩ := ho
  unfold becV
  unfold U64 at *
  split
  · exact hw
  split
  · split
    · exact h4
    · exact hw
  split
  · exact h3
  split
  · split
    · exact hw
    · exact ⟨by simp; omega, by simp; omega⟩
  · exact hw
theorem inv_do {s : CSt} (h : s.Inv) (hl : s.log.length < 1000) {o : OpV} (ho : o.Fit) : (s.doS o).Inv := by
  unfold CSt.doS
  split
  · refine ⟨fun x hx => ?_, by simpa using h.small, by simp; omega⟩
    rcases List.mem_or_eq_of_mem_set hx with hx | hx
    · exact h.ws x hx
    · rw [hx]
      exact becV_fit ho (CSt.at_fit h _)
  · exact h
end Go.Proofs.Ytiopopplbehieaa.Cel
