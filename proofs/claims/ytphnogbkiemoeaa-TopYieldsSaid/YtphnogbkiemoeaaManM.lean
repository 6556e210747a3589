/- What a manager knows, in plain words, and how it stands in a block. -/
import Derived.Test.YtphnogbkiemoeaaLib
namespace Go.Proofs.Ytphnogbkiemoeaa.Man
open Go.RowKit
set_option linter.unusedSimpArgs false
set_option linter.unusedVariables false

structure Th where
  runs : Bool
  waits : Bool
  tries : Int
  merit : Int
  stamp : Int
def Th.zero : Th := ⟨false, false, 0, 0, 0⟩
def upd (T : Nat → Th) (i : Nat) (t : Th) : Nat → Th := fun j => if j = i then t else T j
theorem upd_same (T : Nat → Th) (i : Nat) (t : Th) : upd T i t i = t := if_pos rfl
theorem upd_other (T : Nat → Th) {i j : Nat} (h : j ≠ i) (t : Th) : upd T i t j = T j := if_neg h
theorem upd_upd (T : Nat → Th) (i : Nat) (t u : Th) : upd (upd T i t) i u = upd T i u := by
  funext j
  unfold upd
  split <;> rfl
theorem upd_self (T : Nat → Th) (i : Nat) : upd T i (T i) = T := by
  funext j
  unfold upd
  split
  · subst_vars; rfl
  · rfl
/-- what it knows: the threads, the last stamp -/
structure MSt where
  T : Nat → Th
  last : Int
def mcells (h : Value) (s : MSt) : Array Value :=
  #[h, .bool (s.T 0).runs, .bool (s.T 0).waits, .int .i64 (s.T 0).tries, .int .i64 (s.T 0).merit, .int .i64 (s.T 0).stamp,
    .bool (s.T 1).runs, .bool (s.T 1).waits, .int .i64 (s.T 1).tries, .int .i64 (s.T 1).merit, .int .i64 (s.T 1).stamp,
    .bool (s.T 2).runs, .bool (s.T 2).waits, .int .i64 (s.T 2).tries, .int .i64 (s.T 2).merit, .int .i64 (s.T 2).stamp,
    .bool (s.T 3).runs, .bool (s.T 3).waits, .int .i64 (s.T 3).tries, .int .i64 (s.T 3).merit, .int .i64 (s.T 3).stamp, .int .i64 s.last]
section
variable (h : Value) (s : MSt) {i : Nat} (hi : i < 4)
include hi
theorem four : i = 0 ∨ i = 1 ∨ i = 2 ∨ i = 3 := by omega
theorem mc0 : (mcells h s)[1 + i * 5]? = some (.bool (s.T i).runs) := by rcases four hi with rfl | rfl | rfl | rfl <;> rfl
theorem mc1 : (mcells h s)[1 + i * 5 + 1]? = some (.bool (s.T i).waits) := by rcases four hi with rfl | rfl | rfl | rfl <;> rfl
theorem mc2 : (mcells h s)[1 + i * 5 + 2]? = some (.int .i64 (s.T i).tries) := by rcases four hi with rfl | rfl | rfl | rfl <;> rfl
theorem mc3 : (mcells h s)[1 + i * 5 + 3]? = some (.int .i64 (s.T i).merit) := by rcases four hi with rfl | rfl | rfl | rfl <;> rfl
theorem mc4 : (mcells h s)[1 + i * 5 + 4]? = some (.int .i64 (s.T i).stamp) := by rcases four hi with rfl | rfl | rfl | rfl <;> rfl
theorem ms0 (v : Bool) : (mcells h s).setIfInBounds (1 + i * 5) (.bool v) = mcells h ⟨upd s.T i { s.T i with runs := v }, s.last⟩ := by rcases four hi with rfl | rfl | rfl | rfl <;> simp [mcells, upd]
theorem ms1 (v : Bool) : (mcells h s).setIfInBounds (1 + i * 5 + 1) (.bool v) = mcells h ⟨upd s.T i { s.T i with waits := v }, s.last⟩ := by rcases four hi with rfl | rfl | rfl | rfl <;> simp [mcells, upd]
theorem ms2 (v : Int) : (mcells h s).setIfInBounds (1 + i * 5 + 2) (.int .i64 v) = mcells h ⟨upd s.T i { s.T i with tries := v }, s.last⟩ := by rcases four hi with rfl | rfl | rfl | rfl <;> simp [mcells, upd]
theorem ms3 (v : Int) : (mcells h s).setIfInBounds (1 + i * 5 + 3) (.int .i64 v) = mcells h ⟨upd s.T i { s.T i with merit := v }, s.last⟩ := by rcases four hi with rfl | rfl | rfl | rfl <;> simp [mcells, upd]
theorem ms4 (v : Int) : (mcells h s).setIfInBounds (1 + i * 5 + 4) (.int .i64 v) = mcells h ⟨upd s.T i { s.T i with stamp := v }, s.last⟩ := by rcases four hi with rfl | rfl | rfl | rfl <;> simp [mcells, upd]
end
theorem msl (h : Value) (s : MSt) (v : Int) : (mcells h s).setIfInBounds 21 (.int .i64 v) = mcells h ⟨s.T, v⟩ := by simp [mcells]
/-- it stands in block b -/
def MAt (t : TypeId) (w : World) (b : Nat) (h : Value) (s : MSt) : Prop := w.heap[b]? = some (.cells (mcells h s) t (0, 0))
namespace MAt
variable {t : TypeId} {w w' : World} {b : Nat} {h : Value} {s : MSt}
theorem head (H : MAt t w b h s) : w.cell? ⟨b, 0, none⟩ = some h := blk_cell H 0
theorem last (H : MAt t w b h s) : w.cell? ⟨b, 21, none⟩ = some (.int .i64 s.last) := blk_cell H 21
theorem free (H : MAt t w b h s) : ∀ i, w.frozen? ⟨b, i, none⟩ = false := fun i => blk_free H i
theorem below (H : MAt t w b h s) (l : Below w.heap.size w w') : MAt t w' b h s := bblk l H
theorem only (H : MAt t w b h s) {S : Nat → Prop} (l : Only S w w') (hs : ¬ S b) : MAt t w' b h s := l.blk H hs
theorem lt (H : MAt t w b h s) : b < w.heap.size := blk_lt H
variable {i : Nat} (hi : i < 4)
include hi
theorem runs (H : MAt t w b h s) : w.cell? ⟨b, 1 + i * 5, none⟩ = some (.bool (s.T i).runs) := (blk_cell H _).trans (mc0 h s hi)
theorem waits (H : MAt t w b h s) : w.cell? ⟨b, 1 + i * 5 + 1, none⟩ = some (.bool (s.T i).waits) := (blk_cell H _).trans (mc1 h s hi)
theorem tries (H : MAt t w b h s) : w.cell? ⟨b, 1 + i * 5 + 2, none⟩ = some (.int .i64 (s.T i).tries) := (blk_cell H _).trans (mc2 h s hi)
theorem merit (H : MAt t w b h s) : w.cell? ⟨b, 1 + i * 5 + 3, none⟩ = some (.int .i64 (s.T i).merit) := (blk_cell H _).trans (mc3 h s hi)
theorem stamp (H : MAt t w b h s) : w.cell? ⟨b, 1 + i * 5 + 4, none⟩ = some (.int .i64 (s.T i).stamp) := (blk_cell H _).trans (mc4 h s hi)
theorem setRuns (H : MAt t w b h s) (v : Bool) : MAt t (w.setCell ⟨b, 1 + i * 5, none⟩ (.bool v)) b h ⟨upd s.T i { s.T i with runs := v }, s.last⟩ := by
  unfold MAt; rw [← ms0 h s hi]; exact blk_set H _ _
theorem setWaits (H : MAt t w b h s) (v : Bool) : MAt t (w.setCell ⟨b, 1 + i * 5 + 1, none⟩ (.bool v)) b h ⟨upd s.T i { s.T i with waits := v }, s.last⟩ := by
  unfold MAt; rw [← ms1 h s hi]; exact blk_set H _ _
theorem setTries (H : MAt t w b h s) (v : Int) : MAt t (w.setCell ⟨b, 1 + i * 5 + 2, none⟩ (.int .i64 v)) b h ⟨upd s.T i { s.T i with tries := v }, s.last⟩ := by
  unfold MAt; rw [← ms2 h s hi]; exact blk_set H _ _
theorem setMerit (H : MAt t w b h s) (v : Int) : MAt t (w.setCell ⟨b, 1 + i * 5 + 3, none⟩ (.int .i64 v)) b h ⟨upd s.T i { s.T i with merit := v }, s.last⟩ := by
  unfold MAt; rw [← ms3 h s hi]; exact blk_set H _ _
theorem setStamp (H : MAt t w b h s) (v : Int) : MAt t (w.setCell ⟨b, 1 + i * 5 + 4, none⟩ (.int .i64 v)) b h ⟨upd s.T i { s.T i with stamp := v }, s.last⟩ := by
  unfold MAt; rw [← ms4 h s hi]; exact blk_set H _ _
omit hi in
theorem setLast (H : MAt t w b h s) (v : Int) : MAt t (w.setCell ⟨b, 21, none⟩ (.int .i64 v)) b h ⟨s.T, v⟩ := by
  unfold MAt; rw [← msl h s]; exact blk_set H _ _
end MAt

/-! ### the deeds -/
def okTh (th : Int) : Prop := 0 ≤ th ∧ th < 4
instance (th : Int) : Decidable (okTh th) := inferInstanceAs (Decidable (_ ∧ _))
def MSt.at (s : MSt) (th : Int) : Th := if okTh th then s.T th.toNat else .zero
def errAt (th : Int) : Int := if okTh th then 0 else 2
def MSt.errRun (s : MSt) (th : Int) : Int := if okTh th then (if (s.T th.toNat).runs then 0 else 8) else 2
def MSt.put (s : MSt) (th : Int) (t : Th) : MSt := ⟨upd s.T th.toNat t, s.last⟩
def MSt.beganE (s : MSt) (th : Int) (again : Bool) : Int := if okTh th then (if (s.T th.toNat).runs = again then 0 else 8) else 2
def MSt.beganS (s : MSt) (th : Int) (again : Bool) : MSt :=
  if s.beganE th again = 0 then (if again then s.put th { s.T th.toNat with waits := false, tries := 0 } else ⟨upd s.T th.toNat ⟨true, false, 0, 0, s.last + 1⟩, s.last + 1⟩) else s
def MSt.openedS (s : MSt) (th : Int) : MSt := if s.errRun th = 0 then s.put th { s.T th.toNat with merit := min ((s.T th.toNat).merit + 1) 1000 } else s
def MSt.passedS (s : MSt) (th : Int) : MSt := if s.errRun th = 0 then s.put th { s.T th.toNat with tries := 0, waits := false } else s
def MSt.endedS (s : MSt) (th : Int) : MSt := if s.errRun th = 0 then s.put th .zero else s
/-- does it kill? -/
def killV (k : Nat) (x y : Th) : Bool :=
  if k = 1 then decide (4 ≤ x.tries) else if k = 2 then decide (y.merit < x.merit + x.tries) else y.waits || decide (x.stamp < y.stamp)
def ticksV (k : Nat) (x : Th) : Int := if k = 1 then 2 ^ x.tries.toNat else 1
def MSt.chooseE (s : MSt) (th other : Int) : Int :=
  if okTh th ∧ okTh other then (if th = other ∨ (s.T th.toNat).runs = false ∨ (s.T other.toNat).runs = false then 8 else 0) else 2
def MSt.kill (s : MSt) (k : Nat) (th other : Int) : Bool := killV k (s.T th.toNat) (s.T other.toNat)
def MSt.chooseC (s : MSt) (k : Nat) (th other : Int) : Int := if s.chooseE th other = 0 then (if s.kill k th other then 2 else 1) else 0
def MSt.chooseN (s : MSt) (k : Nat) (th other : Int) : Int := if s.chooseE th other = 0 then (if s.kill k th other then 0 else ticksV k (s.T th.toNat)) else 0
def waited (k : Nat) (x : Th) : Th := { x with tries := x.tries + 1, waits := x.waits || k == 3 }
def MSt.chooseS (s : MSt) (k : Nat) (th other : Int) : MSt := if s.chooseE th other = 0 then (if s.kill k th other then s else s.put th (waited k (s.T th.toNat))) else s

/-- what holds behind n deeds -/
structure Inv (s : MSt) (n : Int) : Prop where
  lo : 0 ≤ s.last
  hi : s.last ≤ n
  tr : ∀ i, 0 ≤ (s.T i).tries ∧ (s.T i).tries ≤ n
  me : ∀ i, 0 ≤ (s.T i).merit ∧ (s.T i).merit ≤ 1000
  st : ∀ i, 0 ≤ (s.T i).stamp ∧ (s.T i).stamp ≤ s.last
  idle : ∀ i, (s.T i).runs = false → s.T i = .zero
  run : ∀ i, (s.T i).runs = true → 0 < (s.T i).stamp
  apart : ∀ i j, (s.T i).runs = true → (s.T j).runs = true → (s.T i).stamp = (s.T j).stamp → i = j
end Go.Proofs.Ytphnogbkiemoeaa.Man
