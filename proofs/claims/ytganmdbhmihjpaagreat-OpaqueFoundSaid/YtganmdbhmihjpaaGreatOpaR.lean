/- Serial, on both sides. -/
import Derived.Test.YtganmdbhmihjpaaGreatOpaF
namespace Go.Proofs.YtganmdbhmihjpaaGreat.Opa
open Go.RowKit Go.Proofs.YtganmdbhmihjpaaGreat.Wri Go.Proofs.YtganmdbhmihjpaaGreat.His
set_option linter.unusedSimpArgs false
set_option linter.unusedVariables false
set_option maxRecDepth 50000

section
variable {P : Program} {w : World}
theorem run_append_none {base : Nat} {e : TypeId} {size : Nat} {v : Value} {n : Nat} {xs : List Value} (hown : w.ownsRow base e size v n xs) (t ty : TypeId) (i : TypeInfo) (ht : P.underlying t = some (.slice e)) (hi : P.info? e = some i) :
    (Builtin.append_ #[t, t] ty #[v, .slice none 0 0]).run P w = .ok v w := by
  rcases hown.2 with ⟨rfl, rfl⟩ | ⟨g, cap, cur, rfl, hbg, hg, hnc, _⟩
  · simp [Builtin.append_, run_underlying ht, sizeOf, typeInfo, hi, Builtin.lenOf, Builtin.firstCells, loadCells, loadCellsFrom, storeCells]
  · simp [Builtin.append_, run_underlying ht, sizeOf, typeInfo, hi, Builtin.lenOf, Builtin.firstCells, loadCells, loadCellsFrom, storeCells, hnc]
/-- append(an own row, another own row, nil or not) -/
theorem wpList_append_row (w : World) {ops : Array Oper} {rest : List Oper} {o : Oper} {a : Act} {Q : Exit → Act → World → Prop} (hgd : o.guard = none) (s x : Operand) (t : TypeId)
    (ho : o.op = .call { callee := .builtin .append, args := #[s, x], argTypes := #[t, t] })
    (base : Nat) (e : TypeId) (i : TypeInfo) (z : Value) (size bytes : Nat) (ht : P.underlying t = some (.slice e)) (hi : P.info? e = some i) (hz : i.zero = some z)
    (hsize : i.size = size) (hby : i.bytes = bytes) (hzs : z.cells.size = size) (hsz : 0 < size)
    (v : Value) (n : Nat) (xs : List Value) (hs : a.eval s = v) (hown : w.ownsRow base e size v n xs)
    (b1 : Nat) (vx : Value) (m : Nat) (ys : List Value) (hx : a.eval x = vx) (hX : w.ownsRow b1 e size vx m ys) (h1 : ∀ u ∈ ys, u.oneCell' = true)
    (h63 : n + m ≤ maxLen) (hbytes : (n + m) * bytes ≤ 140737488355328) (hbase : base ≤ w.heap.size)
    (h : ∀ v' w', w'.ownsRow base e size v' (n + m) (xs ++ ys) → w.grownBy w' v.ownBlock → (v'.ownBlock = v.ownBlock ∨ v'.ownBlock = some w.heap.size) → wpList P ops Q rest (a.put o.dst v') w') : wpList P ops Q (o :: rest) a w := by
  rcases hX.2 with ⟨rfl, rfl⟩ | ⟨g', cap, cur, rfl, _, hg, _⟩
  · have hys : ys = [] := List.eq_nil_of_length_eq_zero (by simpa using hX.1)
    subst hys
    refine wpList_plain hgd fun K hK => ?_
    have hr := run_append_none hown t o.type i ht hi
    unfold Oper.wp execOp
    simp only [ho, resolve, invoke, builtin, Sem.run_bind, Sem.run_pure, Result.andThen_ok, List.map_toArray, List.map_cons, List.map_nil, hs, hx, hr]
    exact hK _ _ (h v w (by simpa using hown) ⟨rfl, rfl, rfl, Nat.le_refl _, fun _ _ _ => rfl⟩ (.inl rfl))
  · exact wpList_append_own_at w hgd s x t ho base e i z size bytes ht hi hz hsize hby hzs hsz v n xs hs hown ⟨g', 0, none⟩ m cap ys hx hX.1 (fun j u hu => World.ownsRow.cells hX (g := g') rfl j u hu) h1 h63 hbytes hbase fun v' w' h2 h3 _ h5 => h v' w' h2 h3 h5
end
theorem evVals_one (l : List Ev) : ∀ u ∈ evVals l, u.oneCell' = true := by
  intro u hu
  unfold evVals at hu
  obtain ⟨x, _, hx⟩ := List.mem_flatMap.1 hu
  simp at hx
  rcases hx with rfl | rfl | rfl | rfl <;> rfl
/-- the events of attempts, one behind the other -/
def serialL (l : List Ev) (order : List Int) : List Ev := order.flatMap (cutL l)
theorem serialL_snoc (l : List Ev) (order : List Int) (t : Int) : serialL l (order ++ [t]) = serialL l order ++ cutL l t := by simp [serialL]
theorem evVals_append (l l' : List Ev) : evVals (l ++ l') = evVals l ++ evVals l' := by simp [evVals]
theorem serialL_le (l : List Ev) (order : List Int) : (serialL l order).length ≤ order.length * l.length := by
  induction order with
  | nil => simp [serialL]
  | cons t order ih =>
    have h1 : (cutL l t).length ≤ l.length := List.length_filter_le _ _
    simp only [serialL, List.flatMap_cons, List.length_append, List.length_cons] at ih ⊢
    rw [Nat.add_mul]
    omega
end Go.Proofs.YtganmdbhmihjpaaGreat.Opa
