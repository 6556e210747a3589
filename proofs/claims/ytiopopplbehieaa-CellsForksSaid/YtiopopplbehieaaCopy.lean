/- copy of a whole row, whatever the size of its elements, as a step of a region that draws. -/
import Derived.Test.YtiopopplbehieaaHeld
import Derived.Laws.CopyOwn
namespace Go.Proofs.Ytiopopplbehieaa
open Go Go.RowKit
/-- copy(a whole row of one's own, an owned row as long, nil or not) -/
theorem oper_copy_all {P : Program} {o : Oper} {a : Act} {w : World} {K : Act → World → Prop} {Q : Exit → Act → World → Prop}
    (d s : Operand) (t : TypeId) (ho : o.op = .call { callee := .builtin .copy, args := #[d, s], argTypes := #[t, t] })
    (e : TypeId) (i : TypeInfo) (size : Nat) (hu : P.underlying t = some (.slice e)) (hq : P.info? e = some i) (hi : i.size = size)
    (g n : Nat) (hd : a.eval d = .slice (some ⟨g, 0, none⟩) n n) (zs : Array Value) (hz : w.heap[g]? = some (.cells zs e (0, 0))) (hzl : zs.size = n * size)
    (vx : Value) (b0 : Nat) (xs : List Value) (hs : a.eval s = vx) (hX : w.ownsRow b0 e size vx n xs) (h1 : ∀ u ∈ xs, u.oneCell' = true) (hm : n ≤ maxLen)
    (h : ∀ w', (∀ base, base ≤ g → w'.ownsRow base e size (.slice (some ⟨g, 0, none⟩) n n) n xs) → Only (fun k => k = g) w w' → K (a.put o.dst (goInt n)) w') :
    Oper.wp P o a w K Q := by
  have hxl : xs.length = n * size := hX.1
  have fin : ∀ w' : World, w'.heap[g]? = some (.cells xs.toArray e (0, 0)) → ∀ base, base ≤ g → w'.ownsRow base e size (.slice (some ⟨g, 0, none⟩) n n) n xs := by
    intro w' h base hb
    refine ⟨hxl, .inr ⟨g, n, xs.toArray, rfl, hb, h, Nat.le_refl _, hm, by simpa using hxl, ?_⟩⟩
    rw [← hxl]
    simp
  rcases hX.2 with ⟨rfl, rfl⟩ | ⟨g', cap, cur, rfl, _, hg, _⟩
  · have hx0 : xs = [] := List.eq_nil_of_length_eq_zero (by simpa using hX.1)
    subst hx0
    have hz0 : zs = #[] := Array.eq_empty_of_size_eq_zero (by simpa using hzl)
    subst hz0
    have hrun := run_copy_nil (P := P) w t t o.type e ⟨g, 0, none⟩ 0 0 hu (by simp [hq])
    unfold Oper.wp
    simp [execOp, ho, resolve, invoke, builtin, hd, hs, hrun, Result.andThen]
    exact h w (fin w hz) (Only.refl _ _)
  · have hsrc : ∀ j v, xs[j]? = some v → w.cell? ((⟨g', 0, none⟩ : Addr).add j) = some v := fun j u hu => hX.cells (g := g') rfl j u hu
    have hl := run_loadCells_list (P := P) w ⟨g', 0, none⟩ xs hsrc
    have hst := run_storeCells_at P g 0 e xs 0 zs w hz (by simp; omega) h1
    have hfull : zs.toList.take (0 + 0) ++ xs ++ zs.toList.drop (0 + 0 + xs.length) = xs := by
      simp
      omega
    rw [hfull] at hst
    have hrun : (Builtin.copy_ #[t, t] o.type #[.slice (some ⟨g, 0, none⟩) n n, .slice (some ⟨g', 0, none⟩) n cap]).run P w = .ok (goInt n) (w.setRow g xs.toArray) := by
      simp [Builtin.copy_, run_underlying hu, Builtin.lenOf, Builtin.firstCells, sizeOf, typeInfo, hq, hi, ← hxl, hl, hst]
    unfold Oper.wp
    simp [execOp, ho, resolve, invoke, builtin, hd, hs, hrun, Result.andThen]
    refine h _ (fin _ (setRow_heap w g _ _ e _ hz)) ⟨rfl, rfl, rfl, by simp [World.setRow], fun k hk hn => setRow_other w g k _ hn⟩

theorem wpList_copy_all {P : Program} {ops : Array Oper} {o : Oper} {rest : List Oper} {a : Act} {w : World} {Q : Exit → Act → World → Prop}
    (hgd : o.guard = none) (d s : Operand) (t : TypeId) (ho : o.op = .call { callee := .builtin .copy, args := #[d, s], argTypes := #[t, t] })
    (e : TypeId) (i : TypeInfo) (size : Nat) (hu : P.underlying t = some (.slice e)) (hq : P.info? e = some i) (hi : i.size = size)
    (g n : Nat) (hd : a.eval d = .slice (some ⟨g, 0, none⟩) n n) (zs : Array Value) (hz : w.heap[g]? = some (.cells zs e (0, 0))) (hzl : zs.size = n * size)
    (vx : Value) (b0 : Nat) (xs : List Value) (hs : a.eval s = vx) (hX : w.ownsRow b0 e size vx n xs) (h1 : ∀ u ∈ xs, u.oneCell' = true) (hm : n ≤ maxLen)
    (h : ∀ w', (∀ base, base ≤ g → w'.ownsRow base e size (.slice (some ⟨g, 0, none⟩) n n) n xs) → Only (fun k => k = g) w w' → wpList P ops Q rest (a.put o.dst (goInt n)) w') :
    wpList P ops Q (o :: rest) a w :=
  wpList_plain hgd fun _ hK => oper_copy_all d s t ho e i size hu hq hi g n hd zs hz hzl vx b0 xs hs hX h1 hm fun w' h2 h3 => hK _ _ (h w' h2 h3)
end Go.Proofs.Ytiopopplbehieaa
