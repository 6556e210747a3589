/- What an argument that can be read holds, cell by cell: for the rows of this seat's statements. -/
import Derived.WalkKit
import Derived.ProofKit
import Derived.OpenShut
import Derived.ShutString
import Derived.ChangeOld
import Derived.Below
import Derived.Deep.Slices
import Derived.Deep.Fields
namespace Go.Proofs.Ytgjemjogncnbnaa
open Go.ChangeShapes Go.WideShapes Go.ChangeAt Go.RowKit

section
variable {H : Type} (enc : TypeId × Value → H) (P : Program) (w : World)
/-- These cells can be read at type t. -/
def Fits (t : TypeId) (cs : List Value) : Prop := ∃ (n : Nat) (x : DataW H × List MemPlace), DataW.trod enc P w 0 (fun _ => true) true n t cs = some x
end

section
variable {H : Type} {enc : TypeId × Value → H} {P : Program} {w : World} {t : TypeId} {cs : List Value}
theorem Fits.of {v : Value} {d : DataW H} {ps : List MemPlace} (h : DataW.Trod enc P w 0 (fun _ => true) true t v d ps) : Fits enc P w t v.cells.toList :=
  let ⟨n, hn⟩ := h
  ⟨n, (d, ps), hn⟩
theorem Fits.int {k : IntKind} (h : Fits enc P w t cs) (ht : P.underlying t = some (.int k)) : ∃ n, cs = [.int k n] ∧ (Lit.int k n).wf = true := by
  obtain ⟨n, x, h⟩ := h
  obtain ⟨m, rfl, _, hw⟩ := DataW.trod_int ht h
  exact ⟨m, rfl, hw⟩
theorem Fits.bool (h : Fits enc P w t cs) (ht : P.underlying t = some .bool) : ∃ b, cs = [.bool b] := by
  obtain ⟨n, x, h⟩ := h
  obtain ⟨b, rfl, _⟩ := DataW.trod_bool ht h
  exact ⟨b, rfl⟩
theorem Fits.struct {fs : Array Field} (h : Fits enc P w t cs) (ht : P.underlying t = some (.struct fs)) :
    cs.length = P.cellsOf t ∧ ∀ (i : Nat) (f : Field), fs[i]? = some f → Fits enc P w f.type ((cs.drop f.offset).take (P.cellsOf f.type)) := by
  obtain ⟨n, x, h⟩ := h
  obtain ⟨xs, m, _, _, hl, hx, hf⟩ := DataW.trod_struct ht h
  refine ⟨hl, fun i f hi => ?_⟩
  have hlt : i < xs.length := by rw [hx]; exact (Array.getElem?_eq_some_iff.1 hi).1
  exact ⟨m, xs[i], (hf i f hi).trans (List.getElem?_eq_getElem hlt)⟩
theorem Fits.array {n : Nat} {e : TypeId} (h : Fits enc P w t cs) (ht : P.underlying t = some (.array n e)) :
    cs.length = P.cellsOf t ∧ ∀ i, i < n → Fits enc P w e ((cs.drop (i * P.cellsOf e)).take (P.cellsOf e)) := by
  obtain ⟨m, x, h⟩ := h
  obtain ⟨xs, m', _, _, hl, hx, hf⟩ := DataW.trod_array ht h
  refine ⟨hl, fun i hi => ?_⟩
  have hlt : i < xs.length := by rw [hx]; exact hi
  exact ⟨m', xs[i], (hf i hi).trans (List.getElem?_eq_getElem hlt)⟩
/-- A slice: empty, or a row of cells behind an address without a spot. -/
theorem Fits.slice {e : TypeId} {a : Option Addr} {len cap : Nat} (h : Fits enc P w t [.slice a len cap]) (ht : P.underlying t = some (.slice e)) (hC : 0 < P.cellsOf e) :
    len ≤ 9223372036854775807 ∧ (len = 0 ∨ ∃ b off, a = some ⟨b, off, none⟩ ∧ ∀ i, i < len → ∃ cs', cs'.length = P.cellsOf e ∧ (∀ j, j < P.cellsOf e → w.cell? ⟨b, off + (i * P.cellsOf e + j), none⟩ = cs'[j]?) ∧ Fits enc P w e cs') := by
  obtain ⟨n, x, h⟩ := h
  rcases Go.Deep.open_slice ht h with ⟨h0, _⟩ | ⟨a', len', cap', m, n', D, Pl, hcs, _, hl, hm, hmm, _, hi⟩
  · injection h0 with h0
    injection h0 with h1 h2 h3
    subst h2
    exact ⟨by omega, .inl rfl⟩
  · injection hcs with hcs
    injection hcs with h1 h2 h3
    subst h1 h2 h3
    have hmm' : m = cap := by simpa using hmm
    refine ⟨by simp only [maxLen] at hm; omega, ?_⟩
    rcases Nat.eq_zero_or_pos len with h0 | h0
    · exact .inl h0
    right
    obtain ⟨b, off, spot⟩ := a'
    have hcell : ∀ i, i < len → ∃ cs', cs'.length = P.cellsOf e ∧ (∀ j, j < P.cellsOf e → w.cell? ((⟨b, off, spot⟩ : Addr).add (i * P.cellsOf e + j)) = cs'[j]?) ∧ Fits enc P w e cs' := by
      intro i hil
      obtain ⟨cs', hc, ht'⟩ := hi i (by omega)
      obtain ⟨_, hcl, hat⟩ := World.cells?_some hc
      refine ⟨cs', hcl, fun j hj => ?_, n', _, ht'⟩
      rw [← Go.Deep.add_add]
      exact hat j hj
    have hspot : spot = none := by
      obtain ⟨cs', hcl, hat, _⟩ := hcell 0 h0
      have h := hat 0 hC
      rw [List.getElem?_eq_getElem (by omega)] at h
      have h := World.cell?_spot h
      simpa [Addr.add] using h
    subst hspot
    refine ⟨b, off, rfl, fun i hil => ?_⟩
    obtain ⟨cs', hcl, hat, hf⟩ := hcell i hil
    refine ⟨cs', hcl, fun j hj => ?_, hf⟩
    rw [← hat j hj, Addr.add_lit]
end
/-- The field of a struct, one cell. -/
theorem take_one {α : Type} {l : List α} {i : Nat} {x : α} (h : (l.drop i).take 1 = [x]) : l[i]? = some x := by
  have h2 : ((l.drop i).take 1)[0]? = some x := by rw [h]; rfl
  simpa using h2
end Go.Proofs.Ytgjemjogncnbnaa
