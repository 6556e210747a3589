/- The real side: one is laid over a heap, and taken back. -/
import Derived.Test.YtganmdbhmihjpaaGreatOpaJ
import Derived.Test.YtganmdbhmihjpaaGreatMgf
namespace Go.Proofs.YtganmdbhmihjpaaGreat.Opa
open Go.RowKit Go.Proofs.YtganmdbhmihjpaaGreat.Wri Go.Proofs.YtganmdbhmihjpaaGreat.His
set_option linter.unusedSimpArgs false
set_option linter.unusedVariables false
set_option maxRecDepth 50000

/-- copy(an owned row, another owned row as long) -/
theorem step_copy_row {P : Program} {ops : Array Oper} {o : Oper} {a : Act} {w : World} {K : Act → World → Prop} {Q : Exit → Act → World → Prop} {E : Prop}
    (hgd : o.guard = none) (d s : Operand) (t : TypeId) (ho : o.op = .call { callee := .builtin .copy, args := #[d, s], argTypes := #[t, t] })
    (e : TypeId) (i : TypeInfo) (size : Nat) (hu : P.underlying t = some (.slice e)) (hq : P.info? e = some i) (hi : i.size = size)
    (dv : Value) (n : Nat) (hd : a.eval d = dv) (b0 : Nat) (ys : List Value) (hD : w.ownsRow b0 e size dv n ys)
    (vx : Value) (b1 : Nat) (xs : List Value) (hs : a.eval s = vx) (hX : w.ownsRow b1 e size vx n xs) (h1 : ∀ u ∈ xs, u.oneCell' = true)
    (h : ∀ w', w'.ownsRow b0 e size dv n xs → Only (fun k => dv.ownBlock = some k) w w' → K (a.put o.dst (goInt n)) w') :
    if Region.wanted o (yielded ops a.tmps) = true then Oper.wp P o a w K Q else E := by
  have hw : Region.wanted o (yielded ops a.tmps) = true := by simp [Region.wanted, hgd]
  rw [if_pos hw]
  have hxl : xs.length = n * size := hX.1
  rcases hD.2 with ⟨rfl, rfl⟩ | ⟨g, cap, cur, rfl, hb, hg, hn, hm, hsz, htk⟩
  · have hx0 : xs = [] := List.eq_nil_of_length_eq_zero (by simpa using hxl)
    subst hx0
    have hrun : (Builtin.copy_ #[t, t] o.type #[.slice none 0 0, vx]).run P w = .ok (goInt 0) w := by
      obtain ⟨a1, c1, rfl⟩ := ownsRow_slice hX
      cases a1 <;> simp [Builtin.copy_, run_underlying hu, Builtin.lenOf, Builtin.firstCells, sizeOf, typeInfo, hq, storeCells, loadCells, loadCellsFrom]
    unfold Oper.wp
    simp [execOp, ho, resolve, invoke, builtin, hd, hs, hrun, Result.andThen]
    exact h w ⟨hxl, .inl ⟨rfl, rfl⟩⟩ (Only.refl _ _)
  · rcases hX.2 with ⟨rfl, rfl⟩ | ⟨g', cap', cur', rfl, _, hg', _⟩
    · have hx0 : xs = [] := List.eq_nil_of_length_eq_zero (by simpa using hX.1)
      subst hx0
      have hrun := run_copy_nil (P := P) w t t o.type e ⟨g, 0, none⟩ 0 cap hu (by simp [hq])
      unfold Oper.wp
      simp [execOp, ho, resolve, invoke, builtin, hd, hs, hrun, Result.andThen]
      exact h w ⟨hxl, .inr ⟨g, cap, cur, rfl, hb, hg, hn, hm, hsz, by simp⟩⟩ (Only.refl _ _)
    · have hsrc : ∀ j v, xs[j]? = some v → w.cell? ((⟨g', 0, none⟩ : Addr).add j) = some v := fun j u hu => hX.cells (g := g') rfl j u hu
      have hl := run_loadCells_list (P := P) w ⟨g', 0, none⟩ xs hsrc
      have hle : n * size ≤ cap * size := Nat.mul_le_mul_right _ hn
      have hst := run_storeCells_at P g 0 e xs 0 cur w hg (by omega) h1
      simp only [Nat.add_zero, List.take_zero, List.nil_append, Nat.zero_add] at hst
      have hrun : (Builtin.copy_ #[t, t] o.type #[.slice (some ⟨g, 0, none⟩) n cap, .slice (some ⟨g', 0, none⟩) n cap']).run P w = .ok (goInt n) (w.setRow g (xs ++ cur.toList.drop xs.length).toArray) := by
        simp [Builtin.copy_, run_underlying hu, Builtin.lenOf, Builtin.firstCells, sizeOf, typeInfo, hq, hi, ← hxl, hl, hst]
      unfold Oper.wp
      simp [execOp, ho, resolve, invoke, builtin, hd, hs, hrun, Result.andThen]
      refine h _ ⟨hxl, .inr ⟨g, cap, _, rfl, hb, setRow_heap w g _ _ e _ hg, hn, hm, ?_, ?_⟩⟩ ⟨rfl, rfl, rfl, by simp [World.setRow], fun k hk hn => setRow_other w g k _ fun e => hn (by rw [e]; rfl)⟩
      · simp
        omega
      · simp [← hxl]
def layL (o : One) (vs : List Int) : List Int := if o.com then o.writes.foldl (fun vs p => vs.set p.1.toNat p.2) vs else vs
theorem lay_len (f : Frm) : ∀ vs : List Int, (f.foldl (fun vs p => vs.set p.1.toNat p.2) vs).length = vs.length := by
  induction f with
  | nil => intro vs; rfl
  | cons x f ih => intro vs; rw [List.foldl_cons, ih, List.length_set]
theorem layL_len (o : One) (vs : List Int) : (layL o vs).length = vs.length := by
  unfold layL
  split
  · exact lay_len _ _
  · rfl
/-- what takes it back -/
def BackFix (W : World) (q b2 b5 : Nat) (sv : Value) (vs : List Int) : Prop :=
  W.heap[b2]? = some (.cells #[ptr q] 44 (0, 0)) ∧ W.heap[b5]? = some (.cells #[sv] 23 (0, 0)) ∧ ValsAt 0 W sv vs
def BackAt (w : World) (hv : Value) (q b2 b5 : Nat) (vs : List Int) : Prop := ∃ sv, ∀ W, Only (fun k => hv.ownBlock = some k) w W → BackFix W q b2 b5 sv vs
theorem BackAt.turn {w w' : World} {hv : Value} {q b2 b5 : Nat} {vs : List Int} (h : BackAt w hv q b2 b5 vs) (o : Only (fun k => hv.ownBlock = some k) w w') : BackAt w' hv q b2 b5 vs := by
  obtain ⟨sv, h⟩ := h
  exact ⟨sv, fun W oW => h W (o.trans oW)⟩
set_option maxHeartbeats 6400000 in
theorem back_any {w : World} {q : Nat} {p : Option Addr} {n c : Nat} {l : List Ev} {av hv : Value} {os : List One} {vs vs' : List Int} (hG : Game w q p n c l av hv os vs') (b2 b5 : Nat) (hB : BackAt w hv q b2 b5 vs) (hl : vs'.length = vs.length) :
    Calls Tryz.prog 62 #[ptr b2, ptr b5] w fun e w' => e = .returned (.tuple #[]) ∧ Game w' q p n c l av hv os vs ∧ Only (fun k => hv.ownBlock = some k) w w' := by
  obtain ⟨j0, hj, hj0, hj1, hj2⟩ := info_parts infoV
  obtain ⟨sv, hS⟩ := hB
  obtain ⟨e2, e5, hsv⟩ := hS w (Only.refl _ _)
  have hob := hG.obj
  have x2 := blk_cell e2 0; have x5 := blk_cell e5 0; have xq := blk_cell hob 2
  simp only [List.getElem?_toArray, List.getElem?_cons_zero, List.getElem?_cons_succ] at x2 x5 xq
  obtain ⟨ha, hc, rfl, _⟩ := hG.heap.open
  obtain ⟨sa, sc, rfl, _⟩ := hsv.open
  obtain ⟨M, hM⟩ : ∃ M, vs.length = M := ⟨_, rfl⟩
  have hhp := hG.heap
  unfold ValsAt at hhp hsv
  rw [hl] at hG xq hS hhp ⊢
  rw [hM] at hG xq hS x5 hsv hhp ⊢
  have HHP := Lib.hid hhp; have HSV := Lib.hid hsv; have HG := Lib.hid hG
  have HM := Lib.hid hM
  clear hhp hsv hG hob e2 e5 hS
  go_enter Tryz.func62, Tryz.ntmps62
  go_wp2_with fail
  refine wp_region_F (fun w' => w'.cell? ⟨b2, 0, none⟩ = some (ptr q) ∧ w'.cell? ⟨b5, 0, none⟩ = some (.slice sa M sc) ∧ w'.cell? ⟨q, 2, none⟩ = some (.slice ha M hc)) 5 (by kernel_rfl) ?_
  have hS0 : w.drew.cell? ⟨b2, 0, none⟩ = some (ptr q) ∧ w.drew.cell? ⟨b5, 0, none⟩ = some (.slice sa M sc) ∧ w.drew.cell? ⟨q, 2, none⟩ = some (.slice ha M hc) := ⟨x2, x5, xq⟩
  refine wpAnyF_take (i := 4) (v := ?_) rfl (by kernel_rfl) (by kernel_rfl) (by kernel_rfl) (by kernel_rfl) (fun _ _ _ h => h) (Or.inl ⟨by rfl, ?_⟩) (by assumption) ?_; rotate_left; (focus (intro w hSw; (obtain ⟨q0, q1, q2⟩ := hSw); (first | (go_simp; done) | (go_simp; with_reducible rfl)))); (try simp only [Act.put, List.setIfInBounds_toArray, List.set_cons_zero, List.set_cons_succ])
  obtain ⟨q0, q1, q2⟩ := hS0
  have hS0 : w.drew.cell? ⟨b2, 0, none⟩ = some (ptr q) ∧ w.drew.cell? ⟨b5, 0, none⟩ = some (.slice sa M sc) ∧ w.drew.cell? ⟨q, 2, none⟩ = some (.slice ha M hc) := ⟨x2, x5, xq⟩
  refine wpAnyF_ready (rs := [0]) (by kernel_rfl) (by simp) ?_
  refine AllF.cons rfl (fun K hK => ?_) AllF.nil
  go_simp
  refine hK.out _ _ (fun _ => hS0) ?_; clear hK K; (try simp only [Act.put, List.setIfInBounds_toArray, List.set_cons_zero, List.set_cons_succ])
  refine wpAnyF_ready (rs := [1]) (by kernel_rfl) (by simp) ?_
  refine AllF.cons rfl (fun K hK => ?_) AllF.nil
  go_simp
  refine hK.out _ _ (fun _ => hS0) ?_; clear hK K; (try simp only [Act.put, List.setIfInBounds_toArray, List.set_cons_zero, List.set_cons_succ])
  refine wpAnyF_ready (rs := [2]) (by kernel_rfl) (by simp) ?_
  refine AllF.cons rfl (fun K hK => ?_) AllF.nil
  go_simp
  refine hK.out _ _ (fun _ => hS0) ?_; clear hK K; (try simp only [Act.put, List.setIfInBounds_toArray, List.set_cons_zero, List.set_cons_succ])
  refine wpAnyF_ready (rs := [3]) (by kernel_rfl) (by simp) ?_
  refine AllF.cons rfl (fun K hK => ?_) AllF.nil
  go_simp
  refine hK.out _ _ (fun _ => hS0) ?_; clear hK K; (try simp only [Act.put, List.setIfInBounds_toArray, List.set_cons_zero, List.set_cons_succ])
  refine wpAnyF_ready (rs := [5]) (by kernel_rfl) (by simp) ?_
  refine AllF.cons rfl (fun K hK => ?_) AllF.nil
  have lD : Below w.heap.size w w.drew := (Below.refl _ _).drew
  refine step_copy_row rfl (.tmp 5) (.tmp 6) 23 rfl 58 j0 1 Tryz.underlying23 hj hj1 (.slice ha M hc) M rfl 0 _ (ownsRow_only HHP.out (Only.empty lD (Nat.le_refl _)) fun _ _ h => h) (.slice sa M sc) 0 (valVals vs) rfl (ownsRow_only HSV.out (Only.empty lD (Nat.le_refl _)) fun _ _ h => h) (valVals_one vs) ?_
  intro w1 hr1 o1
  refine hK.out _ _ (fun h => absurd rfl h) ?_; clear hK K; (try simp only [Act.put, List.setIfInBounds_toArray, List.set_cons_zero, List.set_cons_succ]); refine wpAnyF_done (by kernel_rfl) ?_ _
  have hfin : Game w1 q p n c l av (.slice ha M hc) os vs := (HG.out.below lD).turn o1 (by unfold ValsAt; rw [HM.out]; exact hr1)
  exact bodyPost_end (results_none rfl _ _ _) rfl ⟨rfl, hfin, (only_below lD _).trans o1⟩
def LayPost (w : World) (q : Nat) (p : Option Addr) (n c : Nat) (l : List Ev) (av hv : Value) (os : List One) (vs vs2 : List Int) (e : Ending) (w' : World) : Prop :=
  ∃ b2 b5, e = .returned (.func (.func 62) #[] #[ptr b2, ptr b5]) ∧ Game w' q p n c l av hv os vs2 ∧ BackAt w' hv q b2 b5 vs ∧ Only (fun k => hv.ownBlock = some k) w w'
set_option maxHeartbeats 12800000 in
theorem lay_any {w : World} {q : Nat} {p : Option Addr} {n c : Nat} {l : List Ev} {av hv : Value} {os : List One} {vs : List Int} (hG : Game w q p n c l av hv os vs)
    (x : OneX) (hp : PairsAt 0 w x.2.1 x.1.reads ∧ PairsAt 0 w x.2.2 x.1.writes) (hk : OneOk x.1) (hin : ∀ p ∈ x.1.writes, p.1 < vs.length) (hvl : vs.length ≤ 1000) :
    Calls Tryz.prog 42 #[ptr q, oneV x] w (LayPost w q p n c l av hv os vs (layL x.1 vs)) := by
  obtain ⟨⟨num, f, g, own, com⟩, rv, wv⟩ := x
  obtain ⟨vs2, hv2⟩ : ∃ v, layL ⟨num, f, g, own, com⟩ vs = v := ⟨_, rfl⟩
  simp only at hp hk hin ⊢
  rw [hv2]
  have HV2 := Lib.hid hv2
  obtain ⟨ra, rc, hrv⟩ := ownsRow_slice hp.1
  obtain ⟨wa, wc, hwv⟩ := ownsRow_slice hp.2
  subst hrv hwv
  have HPW := Lib.hid hp.2
  have hobj := hG.obj
  obtain ⟨ha, hc, rfl, hvi⟩ := hG.heap.open
  obtain ⟨M, hM⟩ : ∃ M, vs.length = M := ⟨_, rfl⟩
  obtain ⟨R1, hR1⟩ : ∃ R, f.length = R := ⟨_, rfl⟩
  obtain ⟨R2, hR2⟩ : ∃ R, g.length = R := ⟨_, rfl⟩
  have hk2 := hk.wl
  simp only at hk2
  rw [hR1]
  rw [hR2] at hk2 ⊢; rw [hM] at hobj hvi hvl hG hin ⊢
  have xq := blk_cell hobj 2
  simp only [List.getElem?_toArray, List.getElem?_cons_zero, List.getElem?_cons_succ] at xq
  have hql := blk_lt hobj
  have hq1 : ¬ q = w.heap.size := by omega
  have hq2 : ¬ q = w.heap.size + 1 := by omega
  have hq3 : q < w.heap.size + 1 := by omega
  have l1 : Below w.heap.size w ((w.alloc (.cells #[ptr q] 44)).alloc (.cells #[.int .i64 num, .slice ra R1 rc, .slice wa R2 wc, .bool own, .bool com] 75)) := by repeat (first | (with_reducible exact Below.refl _ _) | (with_reducible apply Below.drew) | (with_reducible refine below_drewN ?_ _) | (with_reducible refine below_alloc' ?_ ?_ _; (focus ((try simp) <;> omega))) | (with_reducible refine below_set' ?_ ?_ _; (focus ((try simp) <;> omega))))
  have hb2 : ((w.alloc (.cells #[ptr q] 44)).alloc (.cells #[.int .i64 num, .slice ra R1 rc, .slice wa R2 wc, .bool own, .bool com] 75)).heap[w.heap.size]? = some (.cells #[ptr q] 44 (0, 0)) := by simp [↓heap_alloc_eq, ↓heap_set_eq, ↓heap_drew_eq, ↓heap_drewN_eq, setObj, size_drewN]; try omega
  have hb3 : ((w.alloc (.cells #[ptr q] 44)).alloc (.cells #[.int .i64 num, .slice ra R1 rc, .slice wa R2 wc, .bool own, .bool com] 75)).heap[w.heap.size + 1]? = some (.cells #[.int .i64 num, .slice ra R1 rc, .slice wa R2 wc, .bool own, .bool com] 75 (0, 0)) := by simp [↓heap_alloc_eq, ↓heap_set_eq, ↓heap_drew_eq, ↓heap_drewN_eq, setObj, size_drewN]; try omega
  obtain ⟨W1, hW1⟩ : ∃ W1, ((w.alloc (.cells #[ptr q] 44)).alloc (.cells #[.int .i64 num, .slice ra R1 rc, .slice wa R2 wc, .bool own, .bool com] 75)) = W1 := ⟨_, rfl⟩
  rw [hW1] at l1 hb2 hb3
  have hz : ha = none → M = 0 ∧ hc = 0 := by
    intro e
    subst e
    rcases hG.heap.2 with ⟨e, h0⟩ | ⟨_, _, _, e, _⟩
    · injection e with _ e1 e2
      exact ⟨e1, e2⟩
    · cases e
  have HCL := Lib.hid (cloneV_any W1 ha M hc vs (hvi.below l1) hvl hz)
  have HK := Lib.hid hk; have HM := Lib.hid hM; have HR1 := Lib.hid hR1; have HR2 := Lib.hid hR2
  have HG := Lib.hid hG; have HIN := Lib.hid hin; have HB2 := Lib.hid hb2; have HB3 := Lib.hid hb3; have HW1 := Lib.hid hW1; have L1 := Lib.hid l1
  clear hp hk hvi hz hobj hG hin hb2 hb3 hW1 l1 hM hR1 hR2 hv2
  unfold LayPost oneV
  go_enter Tryz.func42, Tryz.ntmps42
  go_wp2_with fail
  rw [HW1.out]
  refine HCL.out.mono ?_
  rintro e w2 ⟨sv, rfl, hsv, l2⟩
  obtain ⟨sa, sc, rfl⟩ := ownsRow_slice hsv
  rw [HM.out]
  have HSV := Lib.hid hsv; have L2 := Lib.hid (btrans L1.out (Nat.le_refl _) l2)
  have l3 : Below w2.heap.size w2 (w2.alloc (.cells #[.slice sa M sc] 23)) := by repeat (first | (with_reducible exact Below.refl _ _) | (with_reducible apply Below.drew) | (with_reducible refine below_drewN ?_ _) | (with_reducible refine below_alloc' ?_ ?_ _; (focus ((try simp) <;> omega))) | (with_reducible refine below_set' ?_ ?_ _; (focus ((try simp) <;> omega))))
  have h3 : (w2.alloc (.cells #[.slice sa M sc] 23)).heap[w2.heap.size]? = some (.cells #[.slice sa M sc] 23 (0, 0)) := by simp [↓heap_alloc_eq, ↓heap_set_eq, ↓heap_drew_eq, ↓heap_drewN_eq, setObj, size_drewN]
  have c3 := blk_cell (bblk l2 HB3.out) 4
  have c32 := blk_cell (bblk l2 HB3.out) 2
  simp only [List.getElem?_toArray, List.getElem?_cons_zero, List.getElem?_cons_succ] at c3 c32
  have hs1 : w.heap.size + 1 < w2.heap.size := Nat.lt_of_lt_of_le (blk_lt HB3.out) l2.size
  have hs2 : ¬ w.heap.size + 1 = w2.heap.size := by omega
  have H3 := Lib.hid h3; have L3 := Lib.hid l3
  have lW := btrans L2.out (Nat.le_refl _) l3
  have hG3 := HG.out.below lW
  have hK3 : ∀ W, Only (fun k => (Value.slice ha M hc).ownBlock = some k) (w2.alloc (.cells #[.slice sa M sc] 23)) W → BackFix W q w.heap.size w2.heap.size (.slice sa M sc) vs := fun W o =>
    ⟨o.blk (bblk l3 (bblk l2 HB2.out)) (row_ne hG3.heap (bblk l3 (bblk l2 HB2.out)) (by decide)), o.blk h3 (row_ne hG3.heap h3 (by decide)), by
      have hs3 : ValsAt 0 (w2.alloc (.cells #[.slice sa M sc] 23)) (.slice sa M sc) vs := ownsRow_only (ownsRow_base (by have := HSV.out; rw [HM.out] at this; exact this) fun _ _ => Nat.zero_le _) (Only.empty l3 (Nat.le_refl _)) fun _ _ h => h
      refine ownsRow_only hs3 o fun k hk e => ?_
      have h1 : W1.heap.size ≤ k := (HSV.out.lt k (by rw [HM.out]; exact hk)).1
      have h2 := ownsRow_lt HG.out.heap e
      have h4 := L1.out.size
      omega⟩
  have hP3 : ∀ W, Only (fun k => (Value.slice ha M hc).ownBlock = some k) (w2.alloc (.cells #[.slice sa M sc] 23)) W → PairsAt 0 W (.slice wa R2 wc) g := fun W o => by
    have h4 : PairsAt 0 (w2.alloc (.cells #[.slice sa M sc] 23)) (.slice wa R2 wc) g := by
      have := pairs_grow HPW.out lW
      rw [HR2.out] at this
      exact this
    exact ownsRow_only h4 o fun k hk e => by obtain ⟨cs, hcs⟩ := row_obj h4 hk; exact row_ne hG3.heap hcs (by decide) e
  have HG3 := Lib.hid hG3; have HK3 := Lib.hid hK3; have HP3 := Lib.hid hP3; have LW := Lib.hid lW
  have hmf : ∀ (fn : Fn) (first cap : Array Value) (w : World), (Instr.makeFunc fn first cap).run Tryz.prog w = .ok (.func fn first cap) w := fun _ _ _ _ => rfl
  clear hsv l2 l3 h3 xq hq1 hq2 hq3 lW hG3 hK3 hP3
  cases com with
  | false =>
    have hx : vs2 = vs := by rw [← HV2.out]; rfl
    subst hx
    go_wp2_with fail
    go_ret
    exact ⟨_, _, rfl, HG3.out, ⟨_, HK3.out⟩, only_below LW.out _⟩
  | true =>
    have hx : vs2 = g.foldl (fun vs p => vs.set p.1.toNat p.2) vs := by rw [← HV2.out]; rfl
    have HX := Lib.hid hx
    clear hx HV2
    go_wp2_with fail
    obtain ⟨W3, hW3⟩ : ∃ W3, w2.alloc (.cells #[.slice sa M sc] 23) = W3 := ⟨_, rfl⟩
    rw [hW3] at HG3 HK3 HP3 LW ⊢
    generalize w2.heap.size = b5 at *
    clear hW3 H3 L3 c3 c32 hs1 hs2
    go_loopw [18] (fun i wr => ∃ k : Nat, i = .int .i64 k ∧ k ≤ R2 ∧ Game wr q p n c l av (.slice ha M hc) os ((g.take k).foldl (fun vs p => vs.set p.1.toNat p.2) vs) ∧ Only (fun k => (Value.slice ha M hc).ownBlock = some k) W3 wr) (fun i _ => R2 - (intOf i).toNat)
    case atStart => exact ⟨0, rfl, Nat.zero_le _, HG3.out, Only.refl _ _⟩
    case round =>
      obtain ⟨k, rfl, hk, hGr, hO⟩ := hrel
      have HGR := Lib.hid hGr; have HO := Lib.hid hO
      by_cases hlt : k < R2
      · obtain ⟨⟨t, v⟩, hx⟩ : ∃ x, g[k]? = some x := ⟨_, List.getElem?_eq_getElem (by rw [HR2.out]; exact hlt)⟩
        obtain ⟨_, _, hwe, hcs⟩ := pairs_cells (HP3.out wr hO)
        injection hwe with hwe hwe2 hwe3
        subst hwe
        clear hwe2 hwe3
        obtain ⟨gb, rfl, c0, c1⟩ := hcs k _ hx
        obtain ⟨e2, e5, hsv⟩ := HK3.out wr hO
        have hob := hGr.obj
        have x2 := blk_cell e2 0; have xq := blk_cell hob 2
        simp only [List.getElem?_toArray, List.getElem?_cons_zero, List.getElem?_cons_succ] at x2 xq c0 c1
        have hql := blk_lt hob; have h2l := blk_lt e2
        have hqn : ¬ q = wr.heap.size := by omega
        have h2n : ¬ w.heap.size = wr.heap.size := by omega
        have hlt' : (k : Int) < R2 := by omega
        have hw1 : IntKind.i64.wrap ((k : Int) + 1) = (k : Int) + 1 := by rw [IntKind.wrap_i64]; omega
        have hm := List.mem_of_getElem? hx
        obtain ⟨h0, h12⟩ := HK.out.wk _ hm
        have hiM := HIN.out _ hm
        simp only at h0 h12 hiM
        obtain ⟨tn, rfl⟩ := Int.eq_ofNat_of_zero_le h0
        have htM : tn < M := by omega
        have hrow := hGr.heap
        unfold ValsAt at hrow
        rw [lay_len, HM.out] at hrow
        obtain ⟨H, rfl⟩ : ∃ H, ha = some ⟨H, 0, none⟩ := by
          rcases hrow.2 with ⟨e, h0⟩ | ⟨g, _, _, e, _⟩
          · omega
          · injection e with e; exact ⟨g, e⟩
        have HT := Lib.hid (show g.take (k + 1) = g.take k ++ [((tn : Int), v)] by rw [List.take_add_one, hx]; rfl)
        have HROW := Lib.hid hrow
        have hHl : H < wr.heap.size := ownsRow_lt hrow rfl
        have hHn : ¬ H = wr.heap.size := by omega
        clear hcs hsv hm hx hrow hGr hO hob e2 e5
        go_wp2_with fail
        have lP : Below wr.heap.size wr (wr.alloc (.cells #[.int .i64 tn, .int .u64 v] 94)) := by repeat (first | (with_reducible exact Below.refl _ _) | (with_reducible apply Below.drew) | (with_reducible refine below_drewN ?_ _) | (with_reducible refine below_alloc' ?_ ?_ _; (focus ((try simp) <;> omega))) | (with_reducible refine below_set' ?_ ?_ _; (focus ((try simp) <;> omega))))
        have hbP : (wr.alloc (.cells #[.int .i64 tn, .int .u64 v] 94)).heap[wr.heap.size]? = some (.cells #[.int .i64 tn, .int .u64 v] 94 (0, 0)) := by simp [↓heap_alloc_eq, ↓heap_set_eq, ↓heap_drew_eq, ↓heap_drewN_eq, setObj, size_drewN]
        obtain ⟨WP, hWP⟩ : ∃ WP, wr.alloc (.cells #[.int .i64 tn, .int .u64 v] 94) = WP := ⟨_, rfl⟩
        rw [hWP] at lP hbP ⊢
        clear hWP
        have hrowP : WP.ownsRow 0 58 1 (.slice (some ⟨H, 0, none⟩) M hc) M (valVals ((g.take k).foldl (fun vs p => vs.set p.1.toNat p.2) vs)) := ownsRow_only HROW.out (Only.empty lP (Nat.le_refl _)) fun _ _ h => h
        have y2 := bkeep lP x2; have yq := bkeep lP xq
        have p0 := blk_cell hbP 0; have p1 := blk_cell hbP 1
        simp only [List.getElem?_toArray, List.getElem?_cons_zero, List.getElem?_cons_succ] at p0 p1
        have cH : ∃ y, WP.cell? ⟨H, tn, none⟩ = some y := by
          have hl : ((g.take k).foldl (fun vs p => vs.set p.1.toNat p.2) vs).length = M := by rw [lay_len, HM.out]
          exact ⟨_, row_cell1 (v := .nilFunc) hrowP (valVals_get _ tn (by omega))⟩
        obtain ⟨y, cH⟩ := cH
        have fH : WP.frozen? ⟨H, tn, none⟩ = false := by
          obtain ⟨cs, hcs⟩ := row_obj hrowP (k := H) rfl
          exact blk_free hcs tn
        have HRP := Lib.hid hrowP; have GP := Lib.hid (HGR.out.below lP); have OP := Lib.hid (HO.out.trans (only_below lP _))
        clear hrowP lP hbP x2 xq hql h2l hqn h2n hHl hHn c0 c1
        generalize wr.heap.size = bp at *
        refine wp_region_F (fun w' => w'.cell? ⟨w.heap.size, 0, none⟩ = some (ptr q) ∧ w'.cell? ⟨q, 2, none⟩ = some (.slice (some ⟨H, 0, none⟩) M hc) ∧ w'.cell? ⟨bp, 0, none⟩ = some (.int .i64 tn) ∧ w'.cell? ⟨bp, 1, none⟩ = some (.int .u64 v)) 9 (by kernel_rfl) ?_
        have hS0 : WP.drew.cell? ⟨w.heap.size, 0, none⟩ = some (ptr q) ∧ WP.drew.cell? ⟨q, 2, none⟩ = some (.slice (some ⟨H, 0, none⟩) M hc) ∧ WP.drew.cell? ⟨bp, 0, none⟩ = some (.int .i64 tn) ∧ WP.drew.cell? ⟨bp, 1, none⟩ = some (.int .u64 v) := ⟨y2, yq, p0, p1⟩
        refine wpAnyF_take (i := 0) (v := ?_) rfl (by kernel_rfl) (by kernel_rfl) (by kernel_rfl) (by kernel_rfl) (fun _ _ _ h => h) (Or.inl ⟨by rfl, ?_⟩) (by assumption) ?_; rotate_left; (focus (intro w hSw; (obtain ⟨q0, q1, q2, q3⟩ := hSw); (first | (go_simp; done) | (go_simp; with_reducible rfl)))); (try simp only [Act.put, List.setIfInBounds_toArray, List.set_cons_zero, List.set_cons_succ])
        refine wpAnyF_take (i := 1) (v := ?_) rfl (by kernel_rfl) (by kernel_rfl) (by kernel_rfl) (by kernel_rfl) (fun _ _ _ h => h) (Or.inl ⟨by rfl, ?_⟩) (by assumption) ?_; rotate_left; (focus (intro w hSw; (skip); (first | (go_simp; done) | (go_simp; with_reducible rfl)))); (try simp only [Act.put, List.setIfInBounds_toArray, List.set_cons_zero, List.set_cons_succ])
        refine wpAnyF_take (i := 2) (v := ?_) rfl (by kernel_rfl) (by kernel_rfl) (by kernel_rfl) (by kernel_rfl) (fun _ _ _ h => h) (Or.inl ⟨by rfl, ?_⟩) (by assumption) ?_; rotate_left; (focus (intro w hSw; (skip); (first | (go_simp; done) | (go_simp; with_reducible rfl)))); (try simp only [Act.put, List.setIfInBounds_toArray, List.set_cons_zero, List.set_cons_succ])
        refine wpAnyF_take (i := 3) (v := ?_) rfl (by kernel_rfl) (by kernel_rfl) (by kernel_rfl) (by kernel_rfl) (fun _ _ _ h => h) (Or.inl ⟨by rfl, ?_⟩) (by assumption) ?_; rotate_left; (focus (intro w hSw; (obtain ⟨q0, q1, q2, q3⟩ := hSw); (first | (go_simp; done) | (go_simp; with_reducible rfl)))); (try simp only [Act.put, List.setIfInBounds_toArray, List.set_cons_zero, List.set_cons_succ])
        refine wpAnyF_take (i := 4) (v := ?_) rfl (by kernel_rfl) (by kernel_rfl) (by kernel_rfl) (by kernel_rfl) (fun _ _ _ h => h) (Or.inl ⟨by rfl, ?_⟩) (by assumption) ?_; rotate_left; (focus (intro w hSw; (skip); (first | (go_simp; done) | (go_simp; with_reducible rfl)))); (try simp only [Act.put, List.setIfInBounds_toArray, List.set_cons_zero, List.set_cons_succ])
        refine wpAnyF_take (i := 5) (v := ?_) rfl (by kernel_rfl) (by kernel_rfl) (by kernel_rfl) (by kernel_rfl) (fun _ _ _ h => h) (Or.inl ⟨by rfl, ?_⟩) (by assumption) ?_; rotate_left; (focus (intro w hSw; (obtain ⟨q0, q1, q2, q3⟩ := hSw); (first | (go_simp; done) | (go_simp; with_reducible rfl)))); (try simp only [Act.put, List.setIfInBounds_toArray, List.set_cons_zero, List.set_cons_succ])
        refine wpAnyF_take (i := 6) (v := ?_) rfl (by kernel_rfl) (by kernel_rfl) (by kernel_rfl) (by kernel_rfl) (fun _ _ _ h => h) (Or.inl ⟨by rfl, ?_⟩) (by assumption) ?_; rotate_left; (focus (intro w hSw; (skip); (first | (go_simp; done) | (go_simp; with_reducible rfl)))); (try simp only [Act.put, List.setIfInBounds_toArray, List.set_cons_zero, List.set_cons_succ])
        refine wpAnyF_take (i := 7) (v := ?_) rfl (by kernel_rfl) (by kernel_rfl) (by kernel_rfl) (by kernel_rfl) (fun _ _ _ h => h) (Or.inl ⟨by rfl, ?_⟩) (by assumption) ?_; rotate_left; (focus (intro w hSw; (obtain ⟨q0, q1, q2, q3⟩ := hSw); (first | (go_simp; done) | (go_simp; with_reducible rfl)))); (try simp only [Act.put, List.setIfInBounds_toArray, List.set_cons_zero, List.set_cons_succ])
        have htM' : (tn : Int) < M := by omega
        refine wpAnyF_take (i := 8) (v := ?_) rfl (by kernel_rfl) (by kernel_rfl) (by kernel_rfl) (by kernel_rfl) (fun _ _ _ h => h) (Or.inl ⟨by rfl, ?_⟩) (by assumption) ?_; rotate_left; (focus (intro w hSw; (skip); (first | (go_simp; done) | (go_simp; with_reducible rfl)))); (try simp only [Act.put, List.setIfInBounds_toArray, List.set_cons_zero, List.set_cons_succ])
        refine wpAnyF_ready (rs := [9]) (by kernel_rfl) (by simp) ?_
        refine AllF.cons rfl (fun K hK => ?_) AllF.nil
        go_simp
        refine hK.out _ _ (fun h => absurd rfl h) ?_; clear hK K; (try simp only [Act.put, List.setIfInBounds_toArray, List.set_cons_zero, List.set_cons_succ]); refine wpAnyF_done (by kernel_rfl) ?_ _
        go_wp2_with fail
        have lD : Below WP.heap.size WP WP.drew := (Below.refl _ _).drew
        have hr2 := row_set (ownsRow_only HRP.out (Only.empty lD (Nat.le_refl _)) fun _ _ h => h) (k := tn) (by omega) (u := .int .u64 v)
        have hG5 : Game (WP.drew.setCell ⟨H, tn, none⟩ (.int .u64 v)) q p n c l av (.slice (some ⟨H, 0, none⟩) M hc) os ((g.take (k + 1)).foldl (fun vs p => vs.set p.1.toNat p.2) vs) := by
          refine (GP.out.below lD).turn ((Only.refl (fun k => (Value.slice (some ⟨H, 0, none⟩) M hc).ownBlock = some k) _).setCell (p := ⟨H, tn, none⟩) (.inr rfl) _) ?_
          unfold ValsAt
          rw [lay_len, HM.out, HT.out, List.foldl_append]
          show World.ownsRow _ _ _ _ _ _ (valVals (List.set _ ((tn : Int).toNat) v))
          rw [Int.toNat_natCast, valVals, List.map_set]
          exact hr2
        exact ⟨⟨k + 1, by go_num, by omega, hG5, (OP.out.trans (only_below lD _)).setCell (p := ⟨H, tn, none⟩) (.inr rfl) _⟩, by simp [intOf]; omega⟩
      · obtain rfl : k = R2 := by omega
        have hG2 := hGr
        rw [List.take_of_length_le (by rw [HR2.out]; exact Nat.le_refl _), ← HX.out] at hG2
        have HG2 := Lib.hid hG2
        clear hG2 hGr hO
        go_wp2_with fail
        go_ret
        exact ⟨_, _, rfl, HG2.out, BackAt.turn ⟨_, HK3.out⟩ HO.out, (only_below LW.out _).trans HO.out⟩
end Go.Proofs.YtganmdbhmihjpaaGreat.Opa
