/- Serial, on both sides. -/
import Derived.Test.YtganmdbhmihjpaaOpaF
namespace Go.Proofs.Ytganmdbhmihjpaa.Opa
open Go.RowKit Go.Proofs.Ytganmdbhmihjpaa.Wri Go.Proofs.Ytganmdbhmihjpaa.His
set_option linter.unusedSimpArgs false
set_option linter.unusedVariables false
set_option maxRecDepth 50000

section
variable {P : Program} {w : World}
theorem run_append_none {base : Nat} {e : TypeId} {size : Nat} {v : Value} {n : Nat} {xs : List Value} (hown : w.ownsRow base e size v n xs) (t ty : TypeId) (i : TypeInfo) (ht : P.underlying t = some (.slice e)) (hi : P.info? e = some i) :
    (Builtin.append_ #[t, t] ty #[v, .slice none 0 0]).run P w = .ok v w := by
  rcases hown.2 with ⟨rfl, rfl⟩ | ⟨g, cap, cur, rfl, hbg, hg, hnc, _⟩
  · simp [Builtin.append_, run_underlying ht, sizeOf, typeInfo, hi, Builtin.lenOf, Builtin.firstCells, loadCells, loadCellsFrom, storeCells]
  · simp [Builtin.append_, run_underlying ht, sizeOf, typeInfo, hi, Builtin.lenOf, Builtin.firstCells, loadCells, loadCellsFrom, storeCells, hnc]
/-- append(an own row, another own row, nil or not) -/
theorem wpList_append_row (w : World) {ops : Array Oper} {rest : List Oper} {o : Oper} {a : Act} {Q : Exit → Act → World → Prop} (hgd : o.guard = none) (s x : Operand) (t : TypeId)
    (ho : o.op = .call { callee := .builtin .append, args := #[s, x], argTypes := #[t, t] })
    (base : Nat) (e : TypeId) (i : TypeInfo) (z : Value) (size bytes : Nat) (ht : P.underlying t = some (.slice e)) (hi : P.info? e = some i) (hz : i.zero = some z)
    (hsize : i.size = size) (hby : i.bytes = bytes) (hzs : z.cells.size = size) (hsz : 0 < size)
    (v : Value) (n : Nat) (xs : List Value) (hs : a.eval s = v) (hown : w.ownsRow base e size v n xs)
    (b1 : Nat) (vx : Value) (m : Nat) (ys : List Value) (hx : a.eval x = vx) (hX : w.ownsRow b1 e size vx m ys) (h1 : ∀ u ∈ ys, u.oneCell' = true)
    (h63 : n + m ≤ maxLen) (hbytes : (n + m) * bytes ≤ 140737488355328) (hbase : base ≤ w.heap.size)
    (h : ∀ v' w', w'.ownsRow base e size v' (n + m) (xs ++ ys) → w.grownBy w' v.ownBlock → (v'.ownBlock = v.ownBlock ∨ v'.ownBlock = some w.heap.size) → wpList P ops Q rest (a.put o.dst v') w') : wpList P ops Q (o :: rest) a w := by
  rcases hX.2 with ⟨rfl, rfl⟩ | ⟨g', cap, cur, rfl, _, hg, _⟩
  · have hys : ys = [] := List.eq_nil_of_length_eq_zero (by simpa using hX.1)
    subst hys
    refine wpList_plain hgd fun K hK => ?_
    have hr := run_append_none hown t o.type i ht hi
    unfold Oper.wp execOp
    simp only [ho, resolve, invoke, builtin, Sem.run_bind, Sem.run_pure, Result.andThen_ok, List.map_toArray, List.map_cons, List.map_nil, hs, hx, hr]
    exact hK _ _ (h v w (by simpa using hown) ⟨rfl, rfl, rfl, Nat.le_refl _, fun _ _ _ => rfl⟩ (.inl rfl))
  · exact wpList_append_own_at w hgd s x t ho base e i z size bytes ht hi hz hsize hby hzs hsz v n xs hs hown ⟨g', 0, none⟩ m cap ys hx hX.1 (fun j u hu => World.ownsRow.cells hX (g := g') rfl j u hu) h1 h63 hbytes hbase fun v' w' h2 h3 _ h5 => h v' w' h2 h3 h5
end
theorem evVals_one (l : List Ev) : ∀ u ∈ evVals l, u.oneCell' = true := by
  intro u hu
  unfold evVals at hu
  obtain ⟨x, _, hx⟩ := List.mem_flatMap.1 hu
  simp at hx
  rcases hx with rfl | rfl | rfl | rfl <;> rfl
/-- the events of attempts, one behind the other -/
def serialL (l : List Ev) (order : List Int) : List Ev := order.flatMap (cutL l)
theorem serialL_snoc (l : List Ev) (order : List Int) (t : Int) : serialL l (order ++ [t]) = serialL l order ++ cutL l t := by simp [serialL]
theorem evVals_append (l l' : List Ev) : evVals (l ++ l') = evVals l ++ evVals l' := by simp [evVals]
theorem serialL_le (l : List Ev) (order : List Int) : (serialL l order).length ≤ order.length * l.length := by
  induction order with
  | nil => simp [serialL]
  | cons t order ih =>
    have h1 : (cutL l t).length ≤ l.length := List.length_filter_le _ _
    simp only [serialL, List.flatMap_cons, List.length_append, List.length_cons] at ih ⊢
    rw [Nat.add_mul]
    omega
set_option maxHeartbeats 3200000 in
theorem serial_any (w : World) (p : Option Addr) (n c : Nat) (l : List Ev) (h : EvsIn w p n l) (hn : n ≤ 1000) (a : Option Addr) (m d : Nat) (order : List Int) (ho : IntsIn w a m order) (hm : m ≤ 1000) :
    Calls Try.prog 14 #[.slice p n c, .slice a m d] w fun e w' => ∃ v, e = .returned v ∧ EvsAt w.heap.size w' v (serialL l order) ∧ Below w.heap.size w w' := by
  obtain ⟨i0, hi, hz0, hz1, hz2⟩ := info_parts infoE
  have H := Lib.hid h; have HO := Lib.hid ho
  have HL := Lib.hid h.1; have HOL := Lib.hid ho.1
  clear h ho
  go_enter Try.func14, Try.ntmps14
  go_wp2_with fail
  go_loopw [5, 9] (fun v i wr => ∃ k : Nat, i = .int .i64 k ∧ k ≤ m ∧ EvsAt w.heap.size wr v (serialL l (order.take k)) ∧ Below w.heap.size w wr) (fun _ i _ => m - (intOf i).toNat)
  case atStart => exact ⟨0, rfl, Nat.zero_le _, World.ownsRow_nil _ _ _ _, Below.refl _ _⟩
  case round =>
    obtain ⟨k, rfl, hk, hV, hB⟩ := hrel
    have HV := Lib.hid hV; have HB := Lib.hid hB
    clear hV hB
    by_cases hlt : k < m
    · obtain ⟨g, off, rfl, hc⟩ := HO.out.2.resolve_left (by omega)
      have c0 := bkeep HB.out (hc k hlt)
      have hT := take_snoc order k (by rw [HOL.out]; exact hlt)
      obtain ⟨t, ht⟩ : ∃ t, order.getD k 0 = t := ⟨_, rfl⟩
      rw [ht] at c0 hT
      have HS := Lib.hid (show serialL l (order.take (k + 1)) = serialL l (order.take k) ++ cutL l t by rw [hT, serialL_snoc])
      have hlt' : (k : Int) < m := by omega
      have hw1 : IntKind.i64.wrap ((k : Int) + 1) = (k : Int) + 1 := by rw [IntKind.wrap_i64]; omega
      have hs1 := serialL_le l (order.take k)
      have hs2 : (cutL l t).length ≤ l.length := List.length_filter_le _ _
      rw [List.length_take, HOL.out, HL.out] at hs1
      rw [HL.out] at hs2
      have hs3 : min k m * n ≤ 1000 * 1000 := Nat.mul_le_mul (by omega) hn
      have hs4 : (serialL l (order.take k)).length + (cutL l t).length ≤ 1001000 := by omega
      have HS4 := Lib.hid hs4
      clear hs1 hs2 hs3 hs4 hc ht hT
      have HCT := Lib.hid (cut_any wr p n c l (H.out.below HB.out) (by omega) t)
      go_wp2_with fail
      refine HCT.out.mono ?_
      rintro e w1 ⟨v1, rfl, hC1, l1⟩
      have HC1 := Lib.hid hC1
      have HB1 := Lib.hid (btrans HB.out (Nat.le_refl _) l1)
      have HV1 := Lib.hid (ownsRow_only HV.out (Only.empty l1 (Nat.le_refl _)) (fun _ _ h => h))
      have hsz := HB1.out.size
      clear hC1 l1 HCT
      go_wp2_with (at_builtin; refine wpList_append_row _ rfl _ _ 22 rfl w.heap.size 40 i0 (.agg #[.int .u8 0, .int .i64 0, .int .i64 0, .int .u64 0]) 4 32 Try.underlying22 hi hz0 hz1 hz2 rfl (by decide) _ (serialL l (order.take k)).length (evVals (serialL l (order.take k))) rfl HV1.out _ _ _ _ rfl HC1.out (evVals_one _) ?c1 ?c2 ?c3 ?_)
      case c1 => have := HS4.out; unfold maxLen; omega
      case c2 => have := HS4.out; omega
      case c3 => exact hsz
      intro v' w2 hown hgr _
      have hB2 : Below w.heap.size w w2 := HB1.out.grown hgr hsz (fun k hk => (World.ownsRow.lt HV.out k hk).1)
      have HB2 := Lib.hid hB2
      have HP2 := Lib.hid (show EvsAt w.heap.size w2 v' (serialL l (order.take (k + 1))) from by rw [HS.out]; unfold EvsAt; rw [evVals_append, List.length_append]; exact hown)
      clear hown hgr hB2
      go_wp2_with fail
      exact ⟨⟨k + 1, by go_num, by omega, HP2.out, HB2.out⟩, by simp [intOf]; omega⟩
    · obtain rfl : k = m := by omega
      have hv := HV.out
      rw [List.take_of_length_le (by rw [HOL.out]; exact Nat.le_refl _)] at hv
      have HV2 := Lib.hid hv
      clear hv
      go_wp2_with fail
      go_ret
      exact ⟨_, rfl, HV2.out, HB.out⟩
set_option maxHeartbeats 3200000 in
theorem rserial_any (w : World) (p : Option Addr) (n c : Nat) (l : List Ev) (h : EvsIn w p n l) (hn : n ≤ 1000) (a : Option Addr) (m d : Nat) (order : List Int) (ho : IntsIn w a m order) (hm : m ≤ 1000) :
    Calls Try.prog 16 #[.slice p n c, .slice a m d] w fun e w' => ∃ v, e = .returned v ∧ EvsAt w.heap.size w' v (serialL l order) ∧ Below w.heap.size w w' := by
  obtain ⟨i0, hi, hz0, hz1, hz2⟩ := info_parts infoE
  have H := Lib.hid h; have HO := Lib.hid ho
  have HL := Lib.hid h.1; have HOL := Lib.hid ho.1
  clear h ho
  go_enter Try.func16, Try.ntmps16
  go_wp2_with fail
  go_loopw [5, 6] (fun v i wr => ∃ k : Nat, i = .int .i64 k ∧ k ≤ m ∧ EvsAt w.heap.size wr v (serialL l (order.take k)) ∧ Below w.heap.size w wr) (fun _ i _ => m - (intOf i).toNat)
  case atStart => exact ⟨0, rfl, Nat.zero_le _, World.ownsRow_nil _ _ _ _, Below.refl _ _⟩
  case round =>
    obtain ⟨k, rfl, hk, hV, hB⟩ := hrel
    have HV := Lib.hid hV; have HB := Lib.hid hB
    clear hV hB
    by_cases hlt : k < m
    · obtain ⟨g, off, rfl, hc⟩ := HO.out.2.resolve_left (by omega)
      have c0 := bkeep HB.out (hc k hlt)
      have hT := take_snoc order k (by rw [HOL.out]; exact hlt)
      obtain ⟨t, ht⟩ : ∃ t, order.getD k 0 = t := ⟨_, rfl⟩
      rw [ht] at c0 hT
      have HS := Lib.hid (show serialL l (order.take (k + 1)) = serialL l (order.take k) ++ cutL l t by rw [hT, serialL_snoc])
      have hlt' : (k : Int) < m := by omega
      have hw1 : IntKind.i64.wrap ((k : Int) + 1) = (k : Int) + 1 := by rw [IntKind.wrap_i64]; omega
      have hs1 := serialL_le l (order.take k)
      have hs2 : (cutL l t).length ≤ l.length := List.length_filter_le _ _
      rw [List.length_take, HOL.out, HL.out] at hs1
      rw [HL.out] at hs2
      have hs3 : min k m * n ≤ 1000 * 1000 := Nat.mul_le_mul (by omega) hn
      have hs4 : (serialL l (order.take k)).length + (cutL l t).length ≤ 1001000 := by omega
      have HS4 := Lib.hid hs4
      clear hs1 hs2 hs3 hs4 hc ht hT
      have HCT := Lib.hid (rcut_any wr p n c l (H.out.below HB.out) (by omega) t)
      go_wp2_with fail
      refine HCT.out.mono ?_
      rintro e w1 ⟨v1, rfl, hC1, l1⟩
      have HC1 := Lib.hid hC1
      have HB1 := Lib.hid (btrans HB.out (Nat.le_refl _) l1)
      have HV1 := Lib.hid (ownsRow_only HV.out (Only.empty l1 (Nat.le_refl _)) (fun _ _ h => h))
      have hsz := HB1.out.size
      clear hC1 l1 HCT
      go_wp2_with (at_builtin; refine wpList_append_row _ rfl _ _ 22 rfl w.heap.size 40 i0 (.agg #[.int .u8 0, .int .i64 0, .int .i64 0, .int .u64 0]) 4 32 Try.underlying22 hi hz0 hz1 hz2 rfl (by decide) _ (serialL l (order.take k)).length (evVals (serialL l (order.take k))) rfl HV1.out _ _ _ _ rfl HC1.out (evVals_one _) ?c1 ?c2 ?c3 ?_)
      case c1 => have := HS4.out; unfold maxLen; omega
      case c2 => have := HS4.out; omega
      case c3 => exact hsz
      intro v' w2 hown hgr _
      have hB2 : Below w.heap.size w w2 := HB1.out.grown hgr hsz (fun k hk => (World.ownsRow.lt HV.out k hk).1)
      have HB2 := Lib.hid hB2
      have HP2 := Lib.hid (show EvsAt w.heap.size w2 v' (serialL l (order.take (k + 1))) from by rw [HS.out]; unfold EvsAt; rw [evVals_append, List.length_append]; exact hown)
      clear hown hgr hB2
      go_wp2_with fail
      exact ⟨⟨k + 1, by go_num, by omega, HP2.out, HB2.out⟩, by simp [intOf]; omega⟩
    · obtain rfl : k = m := by omega
      have hv := HV.out
      rw [List.take_of_length_le (by rw [HOL.out]; exact Nat.le_refl _)] at hv
      have HV2 := Lib.hid hv
      clear hv
      go_wp2_with fail
      go_ret
      exact ⟨_, rfl, HV2.out, HB.out⟩
end Go.Proofs.Ytganmdbhmihjpaa.Opa
