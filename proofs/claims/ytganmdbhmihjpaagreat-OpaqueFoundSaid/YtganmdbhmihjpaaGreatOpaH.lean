/- The real side: a game begins. -/
import Derived.Test.YtganmdbhmihjpaaGreatOpaG
import Derived.Test.YtganmdbhmihjpaaGreatMgf
namespace Go.Proofs.YtganmdbhmihjpaaGreat.Opa
open Go.RowKit Go.Proofs.YtganmdbhmihjpaaGreat.Wri Go.Proofs.YtganmdbhmihjpaaGreat.His
set_option linter.unusedSimpArgs false
set_option linter.unusedVariables false
set_option maxRecDepth 50000

theorem flat_get {α : Type} (f : α → List Value) (k : Nat) (hf : ∀ x, (f x).length = k) : ∀ (xs : List α) (i : Nat) (x : α) (j : Nat), xs[i]? = some x → j < k → (xs.flatMap f)[i * k + j]? = (f x)[j]? := by
  intro xs
  induction xs with
  | nil => intro i x j h; simp at h
  | cons y xs ih =>
    intro i x j h hj
    cases i with
    | zero =>
      simp at h
      subst h
      rw [List.flatMap_cons, List.getElem?_append_left (by rw [hf]; omega), Nat.zero_mul, Nat.zero_add]
    | succ i =>
      rw [List.flatMap_cons, List.getElem?_append_right (by rw [hf, Nat.succ_mul]; omega), hf, show (i + 1) * k + j - k = i * k + j by rw [Nat.succ_mul]; omega]
      exact ih i x j (by simpa using h) hj
structure One where
  num : Int
  reads : Frm
  writes : Frm
  own : Bool
  com : Bool
def oneOf (l : List Ev) (C : List Int) (n : Int) : One := ⟨n, readsL l n, allK (getL (ownL l n)) 12, ownOk l n, (stateL l n == 3) || decide (n ∈ C)⟩
abbrev OneX := One × Value × Value
def oneCells (x : OneX) : List Value := [.int .i64 x.1.num, x.2.1, x.2.2, .bool x.1.own, .bool x.1.com]
structure OnesX (w : World) (av : Value) (xs : List OneX) : Prop where
  row : w.ownsRow 0 75 5 av xs.length (xs.flatMap oneCells)
  pairs : ∀ x ∈ xs, PairsAt 0 w x.2.1 x.1.reads ∧ PairsAt 0 w x.2.2 x.1.writes
def OnesAt (w : World) (av : Value) (os : List One) : Prop := ∃ xs : List OneX, xs.map (·.1) = os ∧ OnesX w av xs
theorem OnesX.only {S : Nat → Prop} {w w' : World} {av : Value} {xs : List OneX} (h : OnesX w av xs) (o : Only S w w') (h1 : ∀ k, av.ownBlock = some k → ¬ S k)
    (h2 : ∀ k cs, w.heap[k]? = some (.cells cs 94 (0, 0)) → ¬ S k) : OnesX w' av xs where
  row := ownsRow_only h.row o h1
  pairs x hx := by
    obtain ⟨p1, p2⟩ := h.pairs x hx
    exact ⟨ownsRow_only p1 o fun k hk => by obtain ⟨cs, hc⟩ := row_obj p1 hk; exact h2 k cs hc, ownsRow_only p2 o fun k hk => by obtain ⟨cs, hc⟩ := row_obj p2 hk; exact h2 k cs hc⟩
theorem OnesX.below {w w' : World} {av : Value} {xs : List OneX} (h : OnesX w av xs) (l : Below w.heap.size w w') : OnesX w' av xs :=
  h.only (Only.empty l (Nat.le_refl _)) (fun _ _ h => h) (fun _ _ _ h => h)
theorem infoO : (Tryz.prog.info? 75).map (fun i => (i.zero, i.size, i.bytes)) = some (some (.agg #[.int .i64 0, .slice none 0 0, .slice none 0 0, .bool false, .bool false]), 5, 64) := by kernel_rfl
theorem one_cells (x : OneX) : (oneCells x).length = 5 := rfl
/-- a game whose ones and heap stand -/
structure Game0 (w : World) (q : Nat) (p : Option Addr) (n c : Nat) (av hv : Value) (os : List One) (vs : List Int) : Prop where
  obj : w.heap[q]? = some (.cells #[.slice p n c, av, hv] 48 (0, 0))
  ones : OnesAt w av os
  heap : ValsAt 0 w hv vs
theorem Game0.below {w w' : World} {q : Nat} {p : Option Addr} {n c : Nat} {av hv : Value} {os : List One} {vs : List Int} (h : Game0 w q p n c av hv os vs) (l : Below w.heap.size w w') : Game0 w' q p n c av hv os vs := by
  obtain ⟨xs, e, hx⟩ := h.ones
  exact ⟨bblk l h.obj, ⟨xs, e, hx.below l⟩, ownsRow_only h.heap (Only.empty l (Nat.le_refl _)) fun _ _ h => h⟩
theorem ones_snoc {wr w5 : World} {q : Nat} {p : Option Addr} {n c : Nat} {av hv v2 : Value} {xs : List OneX} {vs : List Int} {x : OneX} (hq : wr.heap[q]? = some (.cells #[.slice p n c, av, hv] 48 (0, 0)))
    (hX : OnesX wr av xs) (hh : ValsAt 0 wr hv vs) (hp : PairsAt 0 wr x.2.1 x.1.reads ∧ PairsAt 0 wr x.2.2 x.1.writes) (hg : wr.grownBy w5 av.ownBlock)
    (hrow : w5.ownsRow 0 75 5 v2 (xs.length + 1) (xs.flatMap oneCells ++ oneCells x)) :
    Game0 (w5.setCell ⟨q, 1, none⟩ v2) q p n c v2 hv ((xs ++ [x]).map (·.1)) vs := by
  have o5 : Only (fun k => av.ownBlock = some k) wr w5 := Only.of_grown hg fun k h => h
  have oS : Only (fun k => k = q) w5 (w5.setCell ⟨q, 1, none⟩ v2) := (Only.refl (fun k => k = q) _).setCell (p := ⟨q, 1, none⟩) (.inr rfl) _
  have hq5 : w5.heap[q]? = some (.cells #[.slice p n c, av, hv] 48 (0, 0)) := o5.blk hq (row_ne hX.row hq (by decide))
  have hX5 : ∀ {k cs}, wr.heap[k]? = some (.cells cs 94 (0, 0)) → ¬ av.ownBlock = some k := fun hk => row_ne hX.row hk (by decide)
  have pr : ∀ {v f}, PairsAt 0 wr v f → PairsAt 0 (w5.setCell ⟨q, 1, none⟩ v2) v f := fun {v f} h => by
    have h5 : PairsAt 0 w5 v f := ownsRow_only h o5 fun k hk => by obtain ⟨cs, hc⟩ := row_obj h hk; exact hX5 hc
    exact ownsRow_only h5 oS fun k hk e => by subst e; exact row_ne h5 hq5 (by decide) hk
  refine ⟨blk_set hq5 1 v2, ⟨xs ++ [x], rfl, ?_, ?_⟩, ?_⟩
  · rw [List.flatMap_append, List.flatMap_singleton, List.length_append, List.length_singleton]
    exact ownsRow_only hrow oS fun k hk e => by subst e; exact row_ne hrow hq5 (by decide) hk
  · intro y hy
    rw [List.mem_append, List.mem_singleton] at hy
    rcases hy with hy | rfl
    · exact ⟨pr (hX.pairs y hy).1, pr (hX.pairs y hy).2⟩
    · exact ⟨pr hp.1, pr hp.2⟩
  · have h5 : ValsAt 0 w5 hv vs := ownsRow_only hh o5 fun k hk e => by obtain ⟨cs, hc⟩ := row_obj hh hk; exact row_ne hX.row hc (by decide) e
    exact ownsRow_only h5 oS fun k hk e => by subst e; exact row_ne h5 hq5 (by decide) hk
abbrev RowN (w : World) (a : Option Addr) (n c : Nat) (ts : List Int) : Prop := w.ownsRow 0 3 1 (.slice a n c) n (ts.map fun t => .int .i64 t)
theorem intsIn_of_row {w : World} {a : Option Addr} {n c : Nat} {ts : List Int} (h : RowN w a n c ts) : IntsIn w a n ts := by
  have hl : ts.length = n := by have := h.1; simpa using this
  rcases h.2 with ⟨e, h0⟩ | ⟨g, cap, cur, e, _⟩
  · exact ⟨hl, .inl h0⟩
  · injection e with e1 e2 e3
    subst e1
    refine ⟨hl, .inr ⟨g, 0, rfl, fun i hi => ?_⟩⟩
    rw [Nat.zero_add]
    exact row_cell1 (v := .nilFunc) h (by rw [List.getElem?_map, List.getElem?_eq_getElem (by omega), List.getD_eq_getElem?_getD, List.getElem?_eq_getElem (by omega)]; rfl)
def onesOf (l : List Ev) (C : List Int) : List One := (attL l).map (oneOf l C)
def BeginPost (w : World) (p : Option Addr) (n c : Nat) (l : List Ev) (C : List Int) (vs : List Int) (e : Ending) (w' : World) : Prop :=
  ∃ q av hv, e = .returned (ptr q) ∧ Game0 w' q p n c av hv (onesOf l C) vs ∧ w.heap.size ≤ q ∧ (∀ k, hv.ownBlock = some k → w.heap.size ≤ k) ∧ Below w.heap.size w w'
theorem attL_le (l : List Ev) : (attL l).length ≤ l.length := by
  have := attL_len l []
  simpa [attL] using this
set_option maxHeartbeats 12800000 in
theorem begin_any (w : World) (p : Option Addr) (n c : Nat) (l : List Ev) (h : EvsIn w p n l) (hok : EvsOk l) (hn : n ≤ 400)
    (a : Option Addr) (m d : Nat) (vs : List Int) (hv : ValsIn w a m vs) (hm : m ≤ 1000) (hz : a = none → m = 0 ∧ d = 0)
    (a2 : Option Addr) (m2 d2 : Nat) (C : List Int) (hC : IntsIn w a2 m2 C) (hm2 : m2 ≤ 1000000) :
    Calls Tryz.prog 19 #[.slice p n c, .slice a m d, .slice a2 m2 d2] w (BeginPost w p n c l C vs) := by
  obtain ⟨i0, hi, hz0, hz1, hz2⟩ := info_parts infoO
  have hll : (attL l).length ≤ n := by have := attL_le l; rw [h.1] at this; exact this
  have H := Lib.hid h; have HOK := Lib.hid hok; have HC := Lib.hid hC
  have HCL := Lib.hid (cloneV_any w a m d vs hv hm hz)
  clear h hok hv hC hz
  unfold BeginPost
  go_enter Tryz.func19, Tryz.ntmps19
  go_wp2_with fail
  refine HCL.out.mono ?_
  rintro e w1 ⟨hv, rfl, hvs, l1⟩
  obtain ⟨ha, hc, rfl, _⟩ := hvs.open
  obtain ⟨M, hM⟩ : ∃ M, vs.length = M := ⟨_, rfl⟩
  rw [hM] at hvs ⊢
  have HVS := Lib.hid hvs; have L1 := Lib.hid l1
  clear hvs l1
  go_wp2_with fail
  have lq : Below w1.heap.size w1 (w1.alloc (.cells #[.slice p n c, .slice none 0 0, .slice ha M hc] 48)) := by repeat (first | (with_reducible exact Below.refl _ _) | (with_reducible apply Below.drew) | (with_reducible refine below_drewN ?_ _) | (with_reducible refine below_alloc' ?_ ?_ _; (focus ((try simp) <;> omega))) | (with_reducible refine below_set' ?_ ?_ _; (focus ((try simp) <;> omega))))
  have hq : (w1.alloc (.cells #[.slice p n c, .slice none 0 0, .slice ha M hc] 48)).heap[w1.heap.size]? = some (.cells #[.slice p n c, .slice none 0 0, .slice ha M hc] 48 (0, 0)) := by simp [↓heap_alloc_eq, ↓heap_set_eq, ↓heap_drew_eq, ↓heap_drewN_eq, setObj, size_drewN]
  obtain ⟨W2, hW2⟩ : ∃ W2, w1.alloc (.cells #[.slice p n c, .slice none 0 0, .slice ha M hc] 48) = W2 := ⟨_, rfl⟩
  rw [hW2] at lq hq ⊢
  have L2 := Lib.hid (btrans L1.out (Nat.le_refl _) lq)
  have hG0 : Game0 W2 w1.heap.size p n c (.slice none 0 0) (.slice ha M hc) [] vs := ⟨hq, ⟨[], rfl, World.ownsRow_nil _ _ _ _, fun x hx => by cases hx⟩, ownsRow_only (ownsRow_base HVS.out fun _ _ => Nat.zero_le _) (Only.empty lq (Nat.le_refl _)) fun _ _ h => h⟩
  have HG0 := Lib.hid hG0
  have HLO := Lib.hid (show w.heap.size ≤ w1.heap.size ∧ (∀ k, (Value.slice ha M hc).ownBlock = some k → w.heap.size ≤ k) from ⟨L1.out.size, fun k hk => (HVS.out.lt k hk).1⟩)
  have HAT := Lib.hid (attempts_any W2 p n c l (H.out.below L2.out) (by omega))
  clear lq hq hG0 hW2 HVS L1
  go_wp2_with fail
  refine HAT.out.mono ?_
  rintro e w3 ⟨v3, rfl, hv3, l3⟩
  obtain ⟨a3, c3, rfl⟩ := ownsRow_slice hv3
  have hi3 : RowN w3 a3 (attL l).length c3 (attL l) := ownsRow_base hv3 fun _ _ => Nat.zero_le _
  obtain ⟨N, hN⟩ : ∃ N, (attL l).length = N := ⟨_, rfl⟩
  rw [hN] at hi3 hll ⊢
  have L3 := Lib.hid (btrans L2.out (Nat.le_refl _) l3)
  have HG3 := Lib.hid (HG0.out.below l3); have HI3 := Lib.hid hi3
  have HN := Lib.hid hN
  clear hv3 l3 hi3 L2 HG0 hN HAT HCL
  generalize w1.heap.size = q at *
  go_wp2_with fail
  go_loopw [18] (fun i wr => ∃ (k : Nat) (av : Value), i = .int .i64 k ∧ k ≤ N ∧ (∀ j, av.ownBlock = some j → w.heap.size ≤ j) ∧ Game0 wr q p n c av (.slice ha M hc) ((onesOf l C).take k) vs ∧ RowN wr a3 N c3 (attL l) ∧ Below w.heap.size w wr) (fun i _ => N - (intOf i).toNat)
  case atStart => exact ⟨0, .slice none 0 0, rfl, Nat.zero_le _, (fun j hj => by simp [Value.ownBlock] at hj), HG3.out, HI3.out, L3.out⟩
  case round =>
    obtain ⟨k, av, rfl, hk, hav, hG, hI, hB⟩ := hrel
    have HAV := Lib.hid hav
    clear hav
    have HG := Lib.hid hG; have HI := Lib.hid hI; have HB := Lib.hid hB
    clear hG hI hB HG3 HI3 L3
    by_cases hlt : k < N
    · obtain ⟨b, off, rfl, hc⟩ := (intsIn_of_row HI.out).2.resolve_left (by omega)
      have c0 := hc k hlt
      have hlt' : (k : Int) < N := by omega
      have hw1 : IntKind.i64.wrap ((k : Int) + 1) = (k : Int) + 1 := by rw [IntKind.wrap_i64]; omega
      clear hc
      obtain ⟨t, ht⟩ : ∃ t, (attL l).getD k 0 = t := ⟨_, rfl⟩
      rw [ht] at c0
      have hT : (onesOf l C).take (k + 1) = (onesOf l C).take k ++ [oneOf l C t] := by
        unfold onesOf
        rw [List.take_add_one, List.getElem?_map, List.getElem?_eq_getElem (by rw [HN.out]; exact hlt), ← ht, List.getD_eq_getElem?_getD, List.getElem?_eq_getElem (by rw [HN.out]; exact hlt)]
        rfl
      obtain ⟨xs, hxs, hX⟩ := HG.out.ones
      have hxl : xs.length = k := by
        have := congrArg List.length hxs
        rw [List.length_map, List.length_take, onesOf, List.length_map, HN.out] at this
        omega
      have hobj := HG.out.obj
      obtain ⟨va, vc, rfl⟩ := ownsRow_slice hX.row
      rw [hxl] at hobj hX
      have HAV2 := Lib.hid (show ∀ j, (Value.slice va k vc).ownBlock = some j → w.heap.size ≤ j from fun j hj => HAV.out j (by rw [hxl]; exact hj))
      have KS : ∀ W : World, Below wr.heap.size wr W → W.cell? ⟨q, 1, none⟩ = some (.slice va k vc) := fun W hW => by
        rw [blk_cell (bblk hW hobj)]; rfl
      have KF : ∀ W : World, Below wr.heap.size wr W → W.frozen? ⟨q, 1, none⟩ = false := fun W hW => blk_free (bblk hW hobj) 1
      have HT := Lib.hid hT; have HKS := Lib.hid KS; have HKF := Lib.hid KF; have HX := Lib.hid hX; have HXL := Lib.hid hxl; have HXS := Lib.hid hxs; have HOB := Lib.hid hobj
      have hlm1 : k + 1 ≤ maxLen := by unfold maxLen; omega
      have hlb1 : (k + 1) * 64 ≤ 140737488355328 := by omega
      clear hT KS KF hX hxl hxs hobj ht
      go_wp2_with fail
      refine wp_region_F (fun w' => w'.cell? ⟨q, 1, none⟩ = some (.slice va k vc)) 29 (by kernel_rfl) ?_
      have b0 : Below wr.heap.size wr wr.drew := (Below.refl _ _).drew
      have hS0 := HKS.out wr.drew b0
      refine wpAnyF_take (i := 0) (v := ?_) rfl (by kernel_rfl) (by kernel_rfl) (by kernel_rfl) (by kernel_rfl) (fun _ _ _ h => h) (Or.inl ⟨by rfl, ?_⟩) (by assumption) ?_; rotate_left; (focus (intro w hSw; (skip); (first | (go_simp; done) | (go_simp; with_reducible rfl)))); (try simp only [Act.put, List.setIfInBounds_toArray, List.set_cons_zero, List.set_cons_succ])
      refine wpAnyF_take (i := 1) (v := ?_) rfl (by kernel_rfl) (by kernel_rfl) (by kernel_rfl) (by kernel_rfl) (fun _ _ _ h => h) (Or.inl ⟨by rfl, ?_⟩) (by assumption) ?_; rotate_left; (focus (intro w hSw; (skip); (first | (go_simp; done) | (go_simp; with_reducible rfl)))); (try simp only [Act.put, List.setIfInBounds_toArray, List.set_cons_zero, List.set_cons_succ])
      refine wpAnyF_take (i := 2) (v := ?_) rfl (by kernel_rfl) (by kernel_rfl) (by kernel_rfl) (by kernel_rfl) (fun _ _ _ h => h) (Or.inl ⟨by rfl, ?_⟩) (by assumption) ?_; rotate_left; (focus (intro w hSw; (skip); (first | (go_simp; done) | (go_simp; with_reducible rfl)))); (try simp only [Act.put, List.setIfInBounds_toArray, List.set_cons_zero, List.set_cons_succ])
      refine wpAnyF_take (i := 3) (v := ?_) rfl (by kernel_rfl) (by kernel_rfl) (by kernel_rfl) (by kernel_rfl) (fun _ _ _ h => h) (Or.inl ⟨by rfl, ?_⟩) (by assumption) ?_; rotate_left; (focus (intro w hSw; (skip); (first | (go_simp; done) | (go_simp; with_reducible rfl)))); (try simp only [Act.put, List.setIfInBounds_toArray, List.set_cons_zero, List.set_cons_succ])
      refine wpAnyF_take (i := 4) (v := ?_) rfl (by kernel_rfl) (by kernel_rfl) (by kernel_rfl) (by kernel_rfl) (fun _ _ _ h => h) (Or.inl ⟨by rfl, ?_⟩) (by assumption) ?_; rotate_left; (focus (intro w hSw; (skip); (first | (go_simp; done) | (go_simp; with_reducible rfl)))); (try simp only [Act.put, List.setIfInBounds_toArray, List.set_cons_zero, List.set_cons_succ])
      refine wpAnyF_take (i := 5) (v := ?_) rfl (by kernel_rfl) (by kernel_rfl) (by kernel_rfl) (by kernel_rfl) (fun _ _ _ h => h) (Or.inl ⟨by rfl, ?_⟩) (by assumption) ?_; rotate_left; (focus (intro w hSw; (skip); (first | (go_simp; done) | (go_simp; with_reducible rfl)))); (try simp only [Act.put, List.setIfInBounds_toArray, List.set_cons_zero, List.set_cons_succ])
      refine wpAnyF_take (i := 6) (v := ?_) rfl (by kernel_rfl) (by kernel_rfl) (by kernel_rfl) (by kernel_rfl) (fun _ _ _ h => h) (Or.inl ⟨by rfl, ?_⟩) (by assumption) ?_; rotate_left; (focus (intro w hSw; (skip); (first | (go_simp; done) | (go_simp; with_reducible rfl)))); (try simp only [Act.put, List.setIfInBounds_toArray, List.set_cons_zero, List.set_cons_succ])
      refine wpAnyF_take (i := 7) (v := ?_) rfl (by kernel_rfl) (by kernel_rfl) (by kernel_rfl) (by kernel_rfl) (fun _ _ _ h => h) (Or.inl ⟨by rfl, ?_⟩) (by assumption) ?_; rotate_left; (focus (intro w hSw; (skip); (first | (go_simp; done) | (go_simp; with_reducible rfl)))); (try simp only [Act.put, List.setIfInBounds_toArray, List.set_cons_zero, List.set_cons_succ])
      refine wpAnyF_take (i := 9) (v := ?_) rfl (by kernel_rfl) (by kernel_rfl) (by kernel_rfl) (by kernel_rfl) (fun _ _ _ h => h) (Or.inl ⟨by rfl, ?_⟩) (by assumption) ?_; rotate_left; (focus (intro w hSw; (skip); (first | (go_simp; done) | (go_simp; with_reducible rfl)))); (try simp only [Act.put, List.setIfInBounds_toArray, List.set_cons_zero, List.set_cons_succ])
      refine wpAnyF_take (i := 10) (v := ?_) rfl (by kernel_rfl) (by kernel_rfl) (by kernel_rfl) (by kernel_rfl) (fun _ _ _ h => h) (Or.inl ⟨by rfl, ?_⟩) (by assumption) ?_; rotate_left; (focus (intro w hSw; (skip); (first | (go_simp; done) | (go_simp; with_reducible rfl)))); (try simp only [Act.put, List.setIfInBounds_toArray, List.set_cons_zero, List.set_cons_succ])
      refine wpAnyF_take (i := 12) (v := ?_) rfl (by kernel_rfl) (by kernel_rfl) (by kernel_rfl) (by kernel_rfl) (fun _ _ _ h => h) (Or.inl ⟨by rfl, ?_⟩) (by assumption) ?_; rotate_left; (focus (intro w hSw; (skip); (first | (go_simp; done) | (go_simp; with_reducible rfl)))); (try simp only [Act.put, List.setIfInBounds_toArray, List.set_cons_zero, List.set_cons_succ])
      refine wpAnyF_take (i := 13) (v := ?_) rfl (by kernel_rfl) (by kernel_rfl) (by kernel_rfl) (by kernel_rfl) (fun _ _ _ h => h) (Or.inl ⟨by rfl, ?_⟩) (by assumption) ?_; rotate_left; (focus (intro w hSw; (skip); (first | (go_simp; done) | (go_simp; with_reducible rfl)))); (try simp only [Act.put, List.setIfInBounds_toArray, List.set_cons_zero, List.set_cons_succ])
      refine wpAnyF_take (i := 15) (v := ?_) rfl (by kernel_rfl) (by kernel_rfl) (by kernel_rfl) (by kernel_rfl) (fun _ _ _ h => h) (Or.inl ⟨by rfl, ?_⟩) (by assumption) ?_; rotate_left; (focus (intro w hSw; (skip); (first | (go_simp; done) | (go_simp; with_reducible rfl)))); (try simp only [Act.put, List.setIfInBounds_toArray, List.set_cons_zero, List.set_cons_succ])
      refine wpAnyF_take (i := 16) (v := ?_) rfl (by kernel_rfl) (by kernel_rfl) (by kernel_rfl) (by kernel_rfl) (fun _ _ _ h => h) (Or.inl ⟨by rfl, ?_⟩) (by assumption) ?_; rotate_left; (focus (intro w hSw; (skip); (first | (go_simp; done) | (go_simp; with_reducible rfl)))); (try simp only [Act.put, List.setIfInBounds_toArray, List.set_cons_zero, List.set_cons_succ])
      refine wpAnyF_ready (rs := [8]) (by kernel_rfl) (by simp) ?_
      refine AllF.cons rfl (fun K hK => ?_) AllF.nil
      go_simp
      refine (readsH_any wr.drew p n c l (H.out.below (btrans HB.out (Nat.le_refl _) b0)) (fun x hx => (HOK.out x hx).2) (by omega) t).mono ?_
      rintro e w4 ⟨rv, rfl, hrv, l4⟩
      have b4 := btrans b0 (Nat.le_refl _) l4
      obtain ⟨ra, rc, rfl⟩ := ownsRow_slice hrv
      dsimp only
      refine hK.out _ _ (fun _ => HKS.out _ b4) ?_; clear hK K; (try simp only [Act.put, List.setIfInBounds_toArray, List.set_cons_zero, List.set_cons_succ])
      have hS0 := HKS.out w4 b4
      refine wpAnyF_ready (rs := [11]) (by kernel_rfl) (by simp) ?_
      refine AllF.cons rfl (fun K hK => ?_) AllF.nil
      go_simp
      refine (writesH_any w4 p n c l (H.out.below (btrans HB.out (Nat.le_refl _) b4)) (fun x hx => (HOK.out x hx).2) (by omega) t).mono ?_
      rintro e w5 ⟨wv, rfl, hwv, l5⟩
      have b5 := btrans b4 (Nat.le_refl _) l5
      obtain ⟨wa, wc, rfl⟩ := ownsRow_slice hwv
      dsimp only
      refine hK.out _ _ (fun _ => HKS.out _ b5) ?_; clear hK K; (try simp only [Act.put, List.setIfInBounds_toArray, List.set_cons_zero, List.set_cons_succ])
      have hS0 := HKS.out w5 b5
      refine wpAnyF_ready (rs := [14]) (by kernel_rfl) (by simp) ?_
      refine AllF.cons rfl (fun K hK => ?_) AllF.nil
      go_simp
      refine (ownH_any w5 p n c l (H.out.below (btrans HB.out (Nat.le_refl _) b5)) (fun x hx => (HOK.out x hx).2) (by omega) t).mono ?_
      rintro e w6 ⟨rfl, l6⟩
      have b6 := btrans b5 (Nat.le_refl _) l6
      dsimp only
      refine hK.out _ _ (fun _ => HKS.out _ b6) ?_; clear hK K; (try simp only [Act.put, List.setIfInBounds_toArray, List.set_cons_zero, List.set_cons_succ])
      have hS0 := HKS.out w6 b6
      refine wpAnyF_ready (rs := [17]) (by kernel_rfl) (by simp) ?_
      refine AllF.cons rfl (fun K hK => ?_) AllF.nil
      go_simp
      refine (state_any w6 p n c l (H.out.below (btrans HB.out (Nat.le_refl _) b6)) (by omega) t).mono ?_
      rintro e w7 ⟨rfl, l7⟩
      have b7 := btrans b6 (Nat.le_refl _) l7
      dsimp only
      refine hK.out _ _ (fun _ => HKS.out _ b7) ?_; clear hK K; (try simp only [Act.put, List.setIfInBounds_toArray, List.set_cons_zero, List.set_cons_succ])
      have hS0 := HKS.out w7 b7
      refine wpAnyF_take (i := 18) (v := ?_) rfl (by kernel_rfl) (by kernel_rfl) (by kernel_rfl) (by kernel_rfl) (fun _ _ _ h => h) (Or.inl ⟨by rfl, ?_⟩) (by assumption) ?_; rotate_left; (focus (intro w hSw; (skip); (first | (go_simp; done) | (go_simp; with_reducible rfl)))); (try simp only [Act.put, List.setIfInBounds_toArray, List.set_cons_zero, List.set_cons_succ])
      refine wpAnyF_take (i := 19) (v := ?_) rfl (by kernel_rfl) (by kernel_rfl) (by kernel_rfl) (by kernel_rfl) (fun _ _ _ h => h) (Or.inl ⟨by rfl, ?_⟩) (by assumption) ?_; rotate_left; (focus (intro w hSw; (skip); (first | (go_simp; done) | (go_simp; with_reducible rfl)))); (try simp only [Act.put, List.setIfInBounds_toArray, List.set_cons_zero, List.set_cons_succ])
      obtain ⟨R1, hR1⟩ : ∃ R, (readsL l t).length = R := ⟨_, rfl⟩
      obtain ⟨R2, hR2⟩ : ∃ R, (allK (getL (ownL l t)) 12).length = R := ⟨_, rfl⟩
      obtain ⟨ow, how⟩ : ∃ b, ownOk l t = b := ⟨_, rfl⟩
      rw [hR1] at hrv ⊢
      rw [hR2] at hwv ⊢
      rw [how]
      have HRV := Lib.hid hrv; have HWV := Lib.hid hwv; have HOW := Lib.hid how
      have HR1 := Lib.hid hR1; have HR2 := Lib.hid hR2
      clear hrv hwv how hR1 hR2
      have key : ∀ (cm : Bool) (w8 : World), Below wr.heap.size wr w8 → Below w7.heap.size w7 w8 → (oneOf l C t).com = cm → ∀ (v2 : Value) (w10 : World),
          w10.ownsRow 0 75 5 v2 (k + 1) (xs.flatMap oneCells ++ [.int .i64 t, .slice ra R1 rc, .slice wa R2 wc, .bool ow, .bool cm]) → (w8.alloc (.cells #[.int .i64 t, .slice ra R1 rc, .slice wa R2 wc, .bool ow, .bool cm] 75)).grownBy w10 (Value.slice va k vc).ownBlock → (v2.ownBlock = (Value.slice va k vc).ownBlock ∨ v2.ownBlock = some (w8.alloc (.cells #[.int .i64 t, .slice ra R1 rc, .slice wa R2 wc, .bool ow, .bool cm] 75)).heap.size) →
          (∀ j, v2.ownBlock = some j → w.heap.size ≤ j) ∧           w10.cell? ⟨q, 1, none⟩ = some (.slice va k vc) ∧ w10.frozen? ⟨q, 1, none⟩ = false ∧ Game0 (w10.setCell ⟨q, 1, none⟩ v2) q p n c v2 (.slice ha M hc) ((onesOf l C).take (k + 1)) vs ∧ RowN (w10.setCell ⟨q, 1, none⟩ v2) (some ⟨b, off, none⟩) N c3 (attL l) ∧ Below w.heap.size w (w10.setCell ⟨q, 1, none⟩ v2) := by
        intro cm w8 b8 l8 hcm v2 w10 hrow hg hat
        have b9 : Below wr.heap.size wr (w8.alloc (.cells #[.int .i64 t, .slice ra R1 rc, .slice wa R2 wc, .bool ow, .bool cm] 75)) := b8.alloc b8.size _
        have l9 : Below w8.heap.size w8 (w8.alloc (.cells #[.int .i64 t, .slice ra R1 rc, .slice wa R2 wc, .bool ow, .bool cm] 75)) := by repeat (first | (with_reducible exact Below.refl _ _) | (with_reducible apply Below.drew) | (with_reducible refine below_drewN ?_ _) | (with_reducible refine below_alloc' ?_ ?_ _; (focus ((try simp) <;> omega))) | (with_reducible refine below_set' ?_ ?_ _; (focus ((try simp) <;> omega))))
        obtain ⟨w9, hw9⟩ : ∃ w9, w8.alloc (.cells #[.int .i64 t, .slice ra R1 rc, .slice wa R2 wc, .bool ow, .bool cm] 75) = w9 := ⟨_, rfl⟩
        rw [hw9] at b9 l9 hg hat
        have hob9 := bblk b9 HOB.out
        have hX9 := HX.out.below b9
        have o10 : Only (fun j => (Value.slice va k vc).ownBlock = some j) w9 w10 := Only.of_grown hg fun j h => h
        have hob10 := o10.blk hob9 (row_ne hX9.row hob9 (by decide))
        have e4 : Below w4.heap.size w4 w9 := btrans (btrans (btrans (btrans l5 (Nat.le_refl _) l6) (Nat.le_refl _) l7) (Nat.le_refl _) l8) (Nat.le_refl _) l9
        have e5 : Below w5.heap.size w5 w9 := btrans (btrans (btrans l6 (Nat.le_refl _) l7) (Nat.le_refl _) l8) (Nat.le_refl _) l9
        have hg0 := ones_snoc (x := (oneOf l C t, .slice ra R1 rc, .slice wa R2 wc)) hob9 hX9 (ownsRow_only HG.out.heap (Only.empty b9 (Nat.le_refl _)) fun _ _ h => h)
          ⟨pairs_grow (ownsRow_base HRV.out (base' := 0) fun _ _ => Nat.zero_le _) e4, pairs_grow (ownsRow_base HWV.out (base' := 0) fun _ _ => Nat.zero_le _) e5⟩ hg (v2 := v2) (by
              rw [HXL.out, show oneCells (oneOf l C t, .slice ra R1 rc, .slice wa R2 wc) = [.int .i64 t, .slice ra R1 rc, .slice wa R2 wc, .bool ow, .bool cm] by
                rw [← hcm, ← HOW.out]; rfl]
              exact hrow)
        have hB9 := btrans HB.out (Nat.le_refl _) b9
        refine ⟨fun j hj => ?_, by rw [blk_cell hob10]; rfl, blk_free hob10 1, ?_, ?_, ?_⟩
        · rcases hat with e | e
          · exact HAV2.out j (e.symm.trans hj)
          · rw [e] at hj
            injection hj with hj
            rw [← hj]
            exact hB9.size
        · rw [HT.out, ← HXS.out]
          simpa using hg0
        · have r9 : RowN w9 (some ⟨b, off, none⟩) N c3 (attL l) := ownsRow_only HI.out (Only.empty b9 (Nat.le_refl _)) fun _ _ h => h
          have r10 : RowN w10 (some ⟨b, off, none⟩) N c3 (attL l) := ownsRow_only r9 o10 fun j hj e => by obtain ⟨cs, hcs⟩ := row_obj r9 hj; exact row_ne hX9.row hcs (by decide) e
          exact ownsRow_only r10 ((Only.refl (fun j => j = q) w10).setCell (p := ⟨q, 1, none⟩) (.inr rfl) v2) fun j hj e => by subst e; exact row_ne r10 hob10 (by decide) hj
        · have h10 : Below w.heap.size w w10 := hB9.grown hg hB9.size fun j hj => HAV2.out j hj
          exact h10.setCell (p := ⟨q, 1, none⟩) HLO.out.1 v2
      have HKEY := Lib.hid key
      clear key
      have KN : ∀ (W : World) (cm : Bool) j u, ([.int .i64 t, .slice ra R1 rc, .slice wa R2 wc, .bool ow, .bool cm] : List Value)[j]? = some u → (W.alloc (.cells #[.int .i64 t, .slice ra R1 rc, .slice wa R2 wc, .bool ow, .bool cm] 75)).cell? ((⟨W.heap.size, 0, none⟩ : Addr).add j) = some u := by
        intro W cm j u hu
        rw [Addr.add_lit, Nat.zero_add, blk_cell (blk_new W _) j]
        simpa using hu
      have hone : ∀ (cm : Bool), ∀ u ∈ ([.int .i64 t, .slice ra R1 rc, .slice wa R2 wc, .bool ow, .bool cm] : List Value), u.oneCell' = true := by
        intro cm u hu
        simp at hu
        rcases hu with rfl | rfl | rfl | rfl | rfl <;> rfl
      have HKN := Lib.hid KN; have HONE := Lib.hid hone
      clear KN hone
      cases hst : (stateL l t == 3) with
      | true =>
        have HCM := Lib.hid (show (oneOf l C t).com = true by unfold oneOf; rw [hst]; rfl)
        clear hst
        refine wpAnyF_take (i := 20) (v := undef) rfl (by kernel_rfl) (by kernel_rfl) (by kernel_rfl) (by kernel_rfl) (fun _ _ _ h => h) (Or.inr ⟨by (first | rfl | (simp [Region.wanted, yielded]; done)), rfl⟩) (by assumption) ?_; (try simp only [Act.put, List.setIfInBounds_toArray, List.set_cons_zero, List.set_cons_succ])
        refine wpAnyF_take (i := 21) (v := undef) rfl (by kernel_rfl) (by kernel_rfl) (by kernel_rfl) (by kernel_rfl) (fun _ _ _ h => h) (Or.inr ⟨by (first | rfl | (simp [Region.wanted, yielded]; done)), rfl⟩) (by assumption) ?_; (try simp only [Act.put, List.setIfInBounds_toArray, List.set_cons_zero, List.set_cons_succ])
        refine wpAnyF_take (i := 22) (v := undef) rfl (by kernel_rfl) (by kernel_rfl) (by kernel_rfl) (by kernel_rfl) (fun _ _ _ h => h) (Or.inr ⟨by (first | rfl | (simp [Region.wanted, yielded]; done)), rfl⟩) (by assumption) ?_; (try simp only [Act.put, List.setIfInBounds_toArray, List.set_cons_zero, List.set_cons_succ])
        refine wpAnyF_take (i := 23) (v := ?_) rfl (by kernel_rfl) (by kernel_rfl) (by kernel_rfl) (by kernel_rfl) (fun _ _ _ h => h) (Or.inl ⟨by rfl, ?_⟩) (by assumption) ?_; rotate_left; (focus (intro w hSw; (skip); (first | (go_simp; done) | (go_simp; with_reducible rfl)))); (try simp only [Act.put, List.setIfInBounds_toArray, List.set_cons_zero, List.set_cons_succ])
        refine wpAnyF_take (i := 24) (v := ?_) rfl (by kernel_rfl) (by kernel_rfl) (by kernel_rfl) (by kernel_rfl) (fun _ _ _ h => h) (Or.inl ⟨by rfl, ?_⟩) (by assumption) ?_; rotate_left; (focus (intro w hSw; (skip); (first | (go_simp; done) | (go_simp; with_reducible rfl)))); (try simp only [Act.put, List.setIfInBounds_toArray, List.set_cons_zero, List.set_cons_succ])
        refine wpAnyF_ready (rs := [25]) (by kernel_rfl) (by simp) ?_
        refine AllF.cons rfl (fun K hK => ?_) AllF.nil
        go_simp
        have b9 : Below wr.heap.size wr (w7.alloc (.cells #[.int .i64 t, .slice ra R1 rc, .slice wa R2 wc, .bool ow, .bool true] 75)) := b7.alloc b7.size _
        refine hK.out _ _ (fun _ => HKS.out _ b9) ?_; clear hK K; (try simp only [Act.put, List.setIfInBounds_toArray, List.set_cons_zero, List.set_cons_succ])
        have hS0 := HKS.out _ b9
        refine wpAnyF_ready (rs := [26]) (by kernel_rfl) (by simp) ?_
        refine AllF.cons rfl (fun K hK => ?_) AllF.nil
        refine step_append_own rfl (.tmp 26) (.tmp 47) 46 rfl 0 75 i0 (.agg #[.int .i64 0, .slice none 0 0, .slice none 0 0, .bool false, .bool false]) 5 64 Tryz.underlying46 hi hz0 hz1 hz2 rfl (by decide) (.slice va k vc) k (xs.flatMap oneCells) rfl (by have := (HX.out.below b9).row; rw [HXL.out] at this; exact this) ⟨w7.heap.size, 0, none⟩ 1 1 [.int .i64 t, .slice ra R1 rc, .slice wa R2 wc, .bool ow, .bool true] rfl rfl (HKN.out w7 true) (HONE.out true) hlm1 hlb1 (Nat.zero_le _) ?_
        intro v2 w10 hown2 hgr2 hat2
        obtain ⟨k0, k1, k2, k3, k4, k5⟩ := HKEY.out true w7 b7 (Below.refl _ _) HCM.out v2 w10 hown2 hgr2 hat2
        refine hK.out _ _ (fun _ => k1) ?_; clear hK K; (try simp only [Act.put, List.setIfInBounds_toArray, List.set_cons_zero, List.set_cons_succ])
        have hS0 := k1
        refine wpAnyF_ready (rs := [27]) (by kernel_rfl) (by simp) ?_
        refine AllF.cons rfl (fun K hK => ?_) AllF.nil
        go_simp
        refine hK.out _ _ (fun _ => k1) ?_; clear hK K; (try simp only [Act.put, List.setIfInBounds_toArray, List.set_cons_zero, List.set_cons_succ])
        refine wpAnyF_take (i := 28) (v := ?_) rfl (by kernel_rfl) (by kernel_rfl) (by kernel_rfl) (by kernel_rfl) (fun _ _ _ h => h) (Or.inl ⟨by rfl, ?_⟩) (by assumption) ?_; rotate_left; (focus (intro w hSw; (skip); (first | (go_simp; done) | (go_simp; with_reducible rfl)))); (try simp only [Act.put, List.setIfInBounds_toArray, List.set_cons_zero, List.set_cons_succ])
        refine wpAnyF_ready (rs := [29]) (by kernel_rfl) (by simp) ?_
        refine AllF.cons rfl (fun K hK => ?_) AllF.nil
        obtain ⟨va2, vc2, rfl⟩ := ownsRow_slice hown2
        go_simp
        refine hK.out _ _ (fun h => absurd rfl h) ?_; clear hK K; (try simp only [Act.put, List.setIfInBounds_toArray, List.set_cons_zero, List.set_cons_succ]); refine wpAnyF_done (by kernel_rfl) ?_ _
        have K0 := Lib.hid k0; have K3 := Lib.hid k3; have K4 := Lib.hid k4; have K5 := Lib.hid k5
        clear k0 k1 k2 k3 k4 k5 hown2 hgr2 hat2 hS0
        go_wp2_with fail
        exact ⟨⟨k + 1, _, by go_num, by omega, K0.out, K3.out, K4.out, K5.out⟩, by simp [intOf]; omega⟩
      | false =>
        obtain ⟨cm, hcm⟩ : ∃ cm, decide (t ∈ C) = cm := ⟨_, rfl⟩
        have HCM := Lib.hid (show (oneOf l C t).com = cm by unfold oneOf; rw [hst, hcm]; rfl)
        have HCO := Lib.hid (contains_any w7 a2 m2 d2 C t (HC.out.below (btrans HB.out (Nat.le_refl _) b7)) hm2)
        rw [hcm] at HCO
        clear hst hcm
        refine wpAnyF_take (i := 20) (v := ?_) rfl (by kernel_rfl) (by kernel_rfl) (by kernel_rfl) (by kernel_rfl) (fun _ _ _ h => h) (Or.inl ⟨by rfl, ?_⟩) (by assumption) ?_; rotate_left; (focus (intro w hSw; (skip); (first | (go_simp; done) | (go_simp; with_reducible rfl)))); (try simp only [Act.put, List.setIfInBounds_toArray, List.set_cons_zero, List.set_cons_succ])
        refine wpAnyF_take (i := 21) (v := ?_) rfl (by kernel_rfl) (by kernel_rfl) (by kernel_rfl) (by kernel_rfl) (fun _ _ _ h => h) (Or.inl ⟨by rfl, ?_⟩) (by assumption) ?_; rotate_left; (focus (intro w hSw; (skip); (first | (go_simp; done) | (go_simp; with_reducible rfl)))); (try simp only [Act.put, List.setIfInBounds_toArray, List.set_cons_zero, List.set_cons_succ])
        refine wpAnyF_ready (rs := [22]) (by kernel_rfl) (by simp) ?_
        refine AllF.cons rfl (fun K hK => ?_) AllF.nil
        go_simp
        refine HCO.out.mono ?_
        rintro e w8 ⟨rfl, rfl⟩
        dsimp only
        refine hK.out _ _ (fun _ => HKS.out _ b7) ?_; clear hK K; (try simp only [Act.put, List.setIfInBounds_toArray, List.set_cons_zero, List.set_cons_succ])
        have hS0 := HKS.out w7 b7
        refine wpAnyF_take (i := 23) (v := ?_) rfl (by kernel_rfl) (by kernel_rfl) (by kernel_rfl) (by kernel_rfl) (fun _ _ _ h => h) (Or.inl ⟨by rfl, ?_⟩) (by assumption) ?_; rotate_left; (focus (intro w hSw; (skip); (first | (go_simp; done) | (go_simp; with_reducible rfl)))); (try simp only [Act.put, List.setIfInBounds_toArray, List.set_cons_zero, List.set_cons_succ])
        refine wpAnyF_take (i := 24) (v := ?_) rfl (by kernel_rfl) (by kernel_rfl) (by kernel_rfl) (by kernel_rfl) (fun _ _ _ h => h) (Or.inl ⟨by rfl, ?_⟩) (by assumption) ?_; rotate_left; (focus (intro w hSw; (skip); (first | (go_simp; done) | (go_simp; with_reducible rfl)))); (try simp only [Act.put, List.setIfInBounds_toArray, List.set_cons_zero, List.set_cons_succ])
        refine wpAnyF_ready (rs := [25]) (by kernel_rfl) (by simp) ?_
        refine AllF.cons rfl (fun K hK => ?_) AllF.nil
        go_simp
        have b9 : Below wr.heap.size wr (w7.alloc (.cells #[.int .i64 t, .slice ra R1 rc, .slice wa R2 wc, .bool ow, .bool cm] 75)) := b7.alloc b7.size _
        refine hK.out _ _ (fun _ => HKS.out _ b9) ?_; clear hK K; (try simp only [Act.put, List.setIfInBounds_toArray, List.set_cons_zero, List.set_cons_succ])
        have hS0 := HKS.out _ b9
        refine wpAnyF_ready (rs := [26]) (by kernel_rfl) (by simp) ?_
        refine AllF.cons rfl (fun K hK => ?_) AllF.nil
        refine step_append_own rfl (.tmp 26) (.tmp 47) 46 rfl 0 75 i0 (.agg #[.int .i64 0, .slice none 0 0, .slice none 0 0, .bool false, .bool false]) 5 64 Tryz.underlying46 hi hz0 hz1 hz2 rfl (by decide) (.slice va k vc) k (xs.flatMap oneCells) rfl (by have := (HX.out.below b9).row; rw [HXL.out] at this; exact this) ⟨w7.heap.size, 0, none⟩ 1 1 [.int .i64 t, .slice ra R1 rc, .slice wa R2 wc, .bool ow, .bool cm] rfl rfl (HKN.out w7 cm) (HONE.out cm) hlm1 hlb1 (Nat.zero_le _) ?_
        intro v2 w10 hown2 hgr2 hat2
        obtain ⟨k0, k1, k2, k3, k4, k5⟩ := HKEY.out cm w7 b7 (Below.refl _ _) HCM.out v2 w10 hown2 hgr2 hat2
        refine hK.out _ _ (fun _ => k1) ?_; clear hK K; (try simp only [Act.put, List.setIfInBounds_toArray, List.set_cons_zero, List.set_cons_succ])
        have hS0 := k1
        refine wpAnyF_ready (rs := [27]) (by kernel_rfl) (by simp) ?_
        refine AllF.cons rfl (fun K hK => ?_) AllF.nil
        go_simp
        refine hK.out _ _ (fun _ => k1) ?_; clear hK K; (try simp only [Act.put, List.setIfInBounds_toArray, List.set_cons_zero, List.set_cons_succ])
        refine wpAnyF_take (i := 28) (v := ?_) rfl (by kernel_rfl) (by kernel_rfl) (by kernel_rfl) (by kernel_rfl) (fun _ _ _ h => h) (Or.inl ⟨by rfl, ?_⟩) (by assumption) ?_; rotate_left; (focus (intro w hSw; (skip); (first | (go_simp; done) | (go_simp; with_reducible rfl)))); (try simp only [Act.put, List.setIfInBounds_toArray, List.set_cons_zero, List.set_cons_succ])
        refine wpAnyF_ready (rs := [29]) (by kernel_rfl) (by simp) ?_
        refine AllF.cons rfl (fun K hK => ?_) AllF.nil
        obtain ⟨va2, vc2, rfl⟩ := ownsRow_slice hown2
        go_simp
        refine hK.out _ _ (fun h => absurd rfl h) ?_; clear hK K; (try simp only [Act.put, List.setIfInBounds_toArray, List.set_cons_zero, List.set_cons_succ]); refine wpAnyF_done (by kernel_rfl) ?_ _
        have K0 := Lib.hid k0; have K3 := Lib.hid k3; have K4 := Lib.hid k4; have K5 := Lib.hid k5
        clear k0 k1 k2 k3 k4 k5 hown2 hgr2 hat2 hS0
        go_wp2_with fail
        exact ⟨⟨k + 1, _, by go_num, by omega, K0.out, K3.out, K4.out, K5.out⟩, by simp [intOf]; omega⟩
    · obtain rfl : k = N := by omega
      have hG := HG.out
      rw [List.take_of_length_le (by unfold onesOf; rw [List.length_map, HN.out]; exact Nat.le_refl _)] at hG
      have HG2 := Lib.hid hG
      clear hG
      go_wp2_with fail
      go_ret
      exact ⟨q, av, _, rfl, HG2.out, HLO.out.1, HLO.out.2, HB.out⟩
end Go.Proofs.YtganmdbhmihjpaaGreat.Opa
