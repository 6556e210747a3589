/- Maps keyed by int, as functions: what a look-up tells, what a store and a delete leave. -/
import Derived.Test.YtgjemjogncnbnaaLib
import Derived.Maps.OwnSet
namespace Go.Proofs.Ytgjemjogncnbnaa
open Go.RowKit Go.Maps
set_option linter.unusedVariables false
set_option maxRecDepth 50000

def heldR : Value → Option (DataW Value × List MemPlace) := fun v => some (.held v, [])
def inInt (t : Int) : Prop := -9223372036854775808 ≤ t ∧ t ≤ 9223372036854775807
/-- block b is a map of at most n entries that holds just m -/
def MapIs (P : Program) (k : TypeId) (w : World) (b n : Nat) (m : Int → Option Value) : Prop :=
  ∃ D : DataW Value, w.ownsMap P k heldR b n D ∧ ∀ t : Int, inInt t → Maps.has D (.int .i64 t) = (m t).isSome ∧ ∀ v, m t = some v → ∀ z, D.atKey (.int .i64 t) z = .held v
def updM (m : Int → Option Value) (t : Int) (v : Option Value) : Int → Option Value := fun s => if s = t then v else m s
theorem inInt_wf {t : Int} (h : inInt t) : (Lit.int .i64 t).wf = true := by
  have h1 := h.1; have h2 := h.2
  simp only [Lit.wf]
  simp
  exact ⟨h1, h2⟩
section
variable {P : Program} {k : TypeId} {w w' : World} {b n : Nat} {m : Int → Option Value}
theorem MapIs.made (P : Program) (k : TypeId) (w : World) : MapIs P k (w.alloc (.map #[] 0)) w.heap.size 0 (fun _ => none) :=
  ⟨_, World.ownsMap_made w P k heldR, fun t _ => ⟨rfl, fun v h => by cases h⟩⟩
theorem MapIs.lt (h : MapIs P k w b n m) : b < w.heap.size := by obtain ⟨D, h, _⟩ := h; exact h.lt
theorem MapIs.mono (h : MapIs P k w b n m) {n' : Nat} (hn : n ≤ n') : MapIs P k w b n' m := by obtain ⟨D, h, e⟩ := h; exact ⟨D, h.mono hn, e⟩
theorem MapIs.obj (h : MapIs P k w b n m) : ∃ es c, w.heap[b]? = some (.map es c) := by
  obtain ⟨D, ⟨es, c, h, _⟩, _⟩ := h
  exact ⟨es, c, h⟩
theorem MapIs.only {S : Nat → Prop} (h : MapIs P k w b n m) (ho : Only S w w') (hs : ¬ S b) : MapIs P k w' b n m := by
  obtain ⟨D, ⟨es, c, h, r⟩, e⟩ := h
  exact ⟨D, ⟨es, c, ho.blk h hs, r⟩, e⟩
theorem MapIs.below (h : MapIs P k w b n m) (l : Below w.heap.size w w') : MapIs P k w' b n m := h.only (Only.empty l (Nat.le_refl _)) (fun h => h)
theorem MapIs.set (h : MapIs P k w b n m) {a : Addr} (ha : b ≠ a.block) (u : Value) : MapIs P k (w.setCell a u) b n m := by
  obtain ⟨D, h, e⟩ := h
  exact ⟨D, h.setCell ha u, e⟩
theorem MapIs.not_cells (h : MapIs P k w b n m) {cs : Array Value} {t : TypeId} {fr : Nat × Nat} (hb : w.heap[b]? = some (.cells cs t fr)) : False := by
  obtain ⟨es, c, h⟩ := h.obj
  rw [h] at hb
  cases hb
theorem only_of_turned (h : w.mapTurned w' b) : Only (fun k => k = b) w w' := Only.of_grown h.grown (fun k e => by injection e with e; exact e.symm)
section
variable {T e : TypeId} (K : P.underlying k = some (.int .i64)) (ht : P.underlying T = some (.map k e)) {z : Value}
include K ht
theorem MapIs.look_ok (h : MapIs P k w b n m) (hz : (zeroValue e).run P w = .ok z w) {t : Int} (hi : inInt t) :
    (Instr.lookup T (.map (some b)) (.int .i64 t) true).run P w = .ok (.tuple #[(m t).getD z, .bool (m t).isSome]) w := by
  obtain ⟨D, h, hm⟩ := h
  obtain ⟨h1, h2⟩ := hm t hi
  obtain ⟨v, ps, hr, hv⟩ := h.look_ok (int_keyed K) ht hz (zd := .held z) (zp := []) rfl (keyOf_int_mk K (inInt_wf hi))
  rw [hr, h1]
  have hv' : DataW.held v = D.atKey (.int .i64 t) (.held z) := by
    have := congrArg (fun o => o.map Prod.fst) hv
    simpa [heldR] using this
  cases hmt : m t with
  | none =>
    rw [hmt] at h1
    rw [Maps.atKey_of_not_has h1] at hv'
    injection hv' with hv'
    subst hv'; rfl
  | some u =>
    rw [h2 u hmt] at hv'
    injection hv' with hv'
    subst hv'; rfl
theorem MapIs.look (h : MapIs P k w b n m) (hz : (zeroValue e).run P w = .ok z w) {t : Int} (hi : inInt t) :
    (Instr.lookup T (.map (some b)) (.int .i64 t) false).run P w = .ok ((m t).getD z) w := by
  obtain ⟨D, h, hm⟩ := h
  obtain ⟨h1, h2⟩ := hm t hi
  obtain ⟨v, ps, hr, hv⟩ := h.lookup (int_keyed K) ht hz (zd := .held z) (zp := []) rfl (keyOf_int_mk K (inInt_wf hi))
  rw [hr]
  have hv' : DataW.held v = D.atKey (.int .i64 t) (.held z) := by
    have := congrArg (fun o => o.map Prod.fst) hv
    simpa [heldR] using this
  cases hmt : m t with
  | none =>
    rw [hmt] at h1
    rw [Maps.atKey_of_not_has h1] at hv'
    injection hv' with hv'
    subst hv'; rfl
  | some u =>
    rw [h2 u hmt] at hv'
    injection hv' with hv'
    subst hv'; rfl
theorem MapIs.store (h : MapIs P k w b n m) (hn : n < 1000000) {t : Int} (hi : inInt t) (v : Value) :
    ∃ w', (Instr.mapUpdate T (.map (some b)) (.int .i64 t) v).run P w = .ok () w' ∧ MapIs P k w' b (n + 1) (updM m t (some v)) ∧ Only (fun k => k = b) w w' := by
  obtain ⟨D, h, hm⟩ := h
  obtain ⟨w', hr, h', hT⟩ := h.store (int_keyed K) ht (by unfold maxLen; omega) (val := v) (d := .held v) (ps := []) (keyOf_int_mk K (inInt_wf hi)) rfl
  refine ⟨w', hr, ⟨_, h', fun s hs => ?_⟩, only_of_turned hT⟩
  obtain ⟨h1, h2⟩ := hm s hs
  have hk : WideAt.IsKeyLit (.int .i64 t) := by first | trivial | exact .int | simp [WideAt.IsKeyLit]
  unfold updM
  by_cases he : s = t
  · subst he
    rw [if_pos rfl]
    refine ⟨Maps.has_put_same h.isMap hk _, fun u hu z => ?_⟩
    injection hu with hu
    subst hu
    exact Maps.atKey_put_same h.isMap hk _ _
  · rw [if_neg he]
    have hne : Lit.int .i64 s ≠ Lit.int .i64 t := fun e => he (by injection e)
    refine ⟨by rw [Maps.has_put_other hne]; exact h1, fun u hu z => ?_⟩
    rw [Maps.atKey_put_other hne]
    exact h2 u hu z
theorem MapIs.drop (h : MapIs P k w b n m) {t : Int} (hi : inInt t) (ty : TypeId) :
    ∃ w', (Builtin.delete_ #[T, k] ty #[.map (some b), .int .i64 t]).run P w = .ok (.tuple #[]) w' ∧ MapIs P k w' b n (updM m t none) ∧ Only (fun k => k = b) w w' := by
  obtain ⟨D, h, hm⟩ := h
  obtain ⟨w', hr, h', hT⟩ := h.drop (int_keyed K) ht (keyOf_int_mk K (inInt_wf hi)) ty
  refine ⟨w', hr, ⟨_, h', fun s hs => ?_⟩, only_of_turned hT⟩
  obtain ⟨h1, h2⟩ := hm s hs
  unfold updM
  by_cases he : s = t
  · subst he
    rw [if_pos rfl]
    exact ⟨Maps.has_del_same, fun u hu z => by cases hu⟩
  · rw [if_neg he]
    have hne : Lit.int .i64 s ≠ Lit.int .i64 t := fun e => he (by injection e)
    refine ⟨by rw [Maps.has_del_other hne]; exact h1, fun u hu z => ?_⟩
    rw [Maps.atKey_del_other hne]
    exact h2 u hu z
end
theorem MapIs.congr {m' : Int → Option Value} (h : MapIs P k w b n m) (he : ∀ t, inInt t → m t = m' t) : MapIs P k w b n m' := by
  obtain ⟨D, h, hm⟩ := h
  exact ⟨D, h, fun t ht => by rw [← he t ht]; exact hm t ht⟩
end
end Go.Proofs.Ytgjemjogncnbnaa
