/- The lists in memory: New, get, Register, Sleep. -/
import Derived.Test.YtddcpehncbcliaaWaiB
import Derived.Test.YtddcpehncbcliaaHeld
namespace Go.Proofs.Ytddcpehncbcliaa.Wai
open Go.RowKit
set_option linter.unusedSimpArgs false
set_option linter.unusedVariables false

def wV (x : Wt) : Value := .agg #[.int .u32 x.of, .bool x.sl]
def mapW (ws : Ws) : Int → Option Value := fun t => (findW ws t).map wV
theorem zeroW (w : World) : (zeroValue 61).run Try.prog w = .ok (.agg #[.int .u32 0, .bool false]) w := by kernel_rfl
theorem mapW_snoc {ws : Ws} {x : Wt} (h : findW ws x.th = none) : updM (mapW ws) x.th (some (wV x)) = mapW (ws ++ [x]) := by
  funext s
  unfold updM mapW
  rw [findW_snoc]
  by_cases hs : s = x.th
  · rw [if_pos hs, hs, h]; simp
  · rw [if_neg hs]
    have : ¬ x.th = s := fun e => hs e.symm
    simp [this]
theorem mapW_without (ws : Ws) (th : Int) : updM (mapW ws) th none = mapW (without ws th) := by
  funext s
  unfold updM mapW
  rw [findW_without]
  split <;> simp [*]
theorem mapW_bedded {ws : Ws} {th : Int} {x : Wt} (h : findW ws th = some x) : updM (mapW ws) th (some (wV { x with sl := true })) = mapW (bedded ws th) := by
  have hx := (findW_some h).2
  funext s
  unfold updM mapW
  rw [findW_bedded]
  by_cases hs : s = th
  · rw [if_pos hs, hs, h]; simp [hx]
  · rw [if_neg hs]
    cases hf : findW ws s with
    | none => rfl
    | some y =>
      have hy := (findW_some hf).2
      have : ¬ y.th = th := fun e => hs (hy.symm.trans e)
      simp [this]
/-- lists in memory; F: the blocks that are their own; n: how often a waiter was noted -/
def ListsAt (w : World) (b : Nat) (F : Nat → Prop) (n : Nat) (ws : Ws) : Prop :=
  ∃ ov bm, w.heap[b]? = some (.cells #[ov, .map (some bm)] 57 (0, 0)) ∧ w.ownsRow 0 3 1 ov ws.length ((ths ws).map fun t => .int .i64 t) ∧ MapIs Try.prog 3 w bm n (mapW ws) ∧
    F b ∧ F bm ∧ (∀ k, ov.ownBlock = some k → F k) ∧ Within F w ∧ WfW ws
theorem ListsAt.only {S F : Nat → Prop} {w w' : World} {b n : Nat} {ws : Ws} (h : ListsAt w b F n ws) (ho : Only S w w') (hs : Apart F S) : ListsAt w' b F n ws := by
  obtain ⟨ov, bm, h1, h2, h3, f1, f2, f3, f4, h5⟩ := h
  exact ⟨ov, bm, ho.blk h1 (hs _ f1), ownsRow_only h2 ho (fun k hk => hs _ (f3 k hk)), h3.only ho (hs _ f2), f1, f2, f3, f4.only ho, h5⟩
theorem ListsAt.below {F : Nat → Prop} {w w' : World} {b n : Nat} {ws : Ws} (h : ListsAt w b F n ws) (l : Below w.heap.size w w') : ListsAt w' b F n ws :=
  h.only (Only.empty l (Nat.le_refl _)) (fun _ _ h => h)
theorem ListsAt.grow {F : Nat → Prop} {w w' : World} {b n : Nat} {ws : Ws} (h : ListsAt w b F n ws) (l : Below w.heap.size w w') : ListsAt w' b (Grow F w w') n ws := by
  obtain ⟨ov, bm, h1, h2, h3, f1, f2, f3, f4, h5⟩ := h.below l
  obtain ⟨_, _, _, _, _, _, _, _, g4, _⟩ := h
  exact ⟨ov, bm, h1, h2, h3, .inl f1, .inl f2, fun k hk => .inl (f3 k hk), g4.grow l.size, h5⟩
theorem ListsAt.into {F G : Nat → Prop} {w : World} {b n : Nat} {ws : Ws} (h : ListsAt w b F n ws) (hs : ∀ k, F k → G k) (hw : Within G w) : ListsAt w b G n ws := by
  obtain ⟨ov, bm, h1, h2, h3, f1, f2, f3, f4, h5⟩ := h
  exact ⟨ov, bm, h1, h2, h3, hs _ f1, hs _ f2, fun k hk => hs _ (f3 k hk), hw, h5⟩
/-- made since a later world is made since an earlier one -/
theorem ListsAt.weaken {F : Nat → Prop} {w0 w1 w2 : World} {b n : Nat} {ws : Ws} (h : ListsAt w2 b (Grow F w1 w2) n ws) (hs : w0.heap.size ≤ w1.heap.size) (hz : w2.heap.size ≤ w2.heap.size) : ListsAt w2 b (Grow F w0 w2) n ws := by
  refine h.into (fun k hk => hk.imp id fun ⟨a, c⟩ => ⟨Nat.le_trans hs a, c⟩) ?_
  rintro k (hk | ⟨_, hk⟩)
  · obtain ⟨_, _, _, _, _, _, _, _, g4, _⟩ := h
    exact g4 k (.inl hk)
  · exact hk
theorem ListsAt.wf {F : Nat → Prop} {w : World} {b n : Nat} {ws : Ws} (h : ListsAt w b F n ws) : WfW ws := by
  obtain ⟨_, _, _, _, _, _, _, _, _, h⟩ := h
  exact h
theorem ListsAt.within {F : Nat → Prop} {w : World} {b n : Nat} {ws : Ws} (h : ListsAt w b F n ws) : Within F w := by
  obtain ⟨_, _, _, _, _, _, _, _, h, _⟩ := h
  exact h
theorem ListsAt.mono {F : Nat → Prop} {w : World} {b n n' : Nat} {ws : Ws} (h : ListsAt w b F n ws) (hn : n ≤ n') : ListsAt w b F n' ws := by
  obtain ⟨ov, bm, h1, h2, h3, f⟩ := h
  exact ⟨ov, bm, h1, h2, h3.mono hn, f⟩
theorem ListsAt.lt {F : Nat → Prop} {w : World} {b n : Nat} {ws : Ws} (h : ListsAt w b F n ws) : b < w.heap.size := by
  obtain ⟨ov, bm, h1, _⟩ := h
  exact blk_lt h1
theorem findW_out {ws : Ws} (h : WfW ws) {th : Int} (ht : ¬ okTh th) : findW ws th = none := by
  rw [findW_none]
  intro hm
  obtain ⟨x, hx, rfl⟩ := List.mem_map.1 hm
  exact ht (h.ok x hx).1
theorem new_any (w : World) : Calls Try.prog 27 #[] w fun e w' => ∃ b, e = .returned (ptr b) ∧ ListsAt w' b (Grow (fun _ => False) w w') 0 [] ∧ Below w.heap.size w w' := by
  have hmm := @run_makeMap Try.prog
  go_enter Try.func27, Try.ntmps27
  go_wp2
  go_ret
  refine ⟨w.heap.size + 1, rfl, ⟨.slice none 0 0, w.heap.size, ?_, World.ownsRow_nil _ _ _ _, ?_, ?_, ?_, ?_, ?_, WfW.nil⟩, by repeat (first | (with_reducible exact Below.refl _ _) | (with_reducible apply Below.drew) | (with_reducible refine below_drewN ?_ _) | (with_reducible refine below_alloc' ?_ ?_ _; (focus ((try simp) <;> omega))) | (with_reducible refine below_set' ?_ ?_ _; (focus ((try simp) <;> omega))))⟩
  · simp [↓heap_alloc_eq, ↓heap_set_eq, ↓heap_drew_eq, ↓heap_drewN_eq, setObj, size_drewN]
  · exact ((MapIs.made Try.prog 3 w).below (by repeat (first | (with_reducible exact Below.refl _ _) | (with_reducible apply Below.drew) | (with_reducible refine below_drewN ?_ _) | (with_reducible refine below_alloc' ?_ ?_ _; (focus ((try simp) <;> omega))) | (with_reducible refine below_set' ?_ ?_ _; (focus ((try simp) <;> omega))))))
  · exact .inr ⟨by omega, by simp⟩
  · exact .inr ⟨by omega, by simp; omega⟩
  · intro k hk; cases hk
  · rintro k (hk | ⟨_, hk⟩)
    · exact hk.elim
    · exact hk
def gOf (ws : Ws) (th : Int) : Nat := ((findW ws th).map (·.of)).getD 0
def gSl (ws : Ws) (th : Int) : Bool := ((findW ws th).map (·.sl)).getD false
theorem get_any {F : Nat → Prop} (w : World) (b n : Nat) (ws : Ws) (h : ListsAt w b F n ws) (th : Int) :
    Calls Try.prog 30 #[ptr b, .int .i64 th] w fun e w' => e = .returned (.tuple #[.agg #[.int .u32 (gOf ws th), .bool (gSl ws th)], .bool (findW ws th).isSome, .int .i64 (getEr th)]) ∧ Below w.heap.size w w' := by
  have hwf := h.wf
  unfold gOf gSl getEr
  obtain ⟨ov, bm, hb, ho, hm, _⟩ := h
  have hblt := blk_lt hb
  have b1 := blk_cell hb 1
  simp only [List.getElem?_toArray, List.getElem?_cons_zero, List.getElem?_cons_succ] at b1
  have lW : Below w.heap.size w (w.alloc (.cells #[.int .u32 0, .bool false] 61)) := by repeat (first | (with_reducible exact Below.refl _ _) | (with_reducible apply Below.drew) | (with_reducible refine below_drewN ?_ _) | (with_reducible refine below_alloc' ?_ ?_ _; (focus ((try simp) <;> omega))) | (with_reducible refine below_set' ?_ ?_ _; (focus ((try simp) <;> omega))))
  by_cases ht : okTh th
  · have hlook := (hm.below lW).look_ok (by kernel_rfl) Try.underlying55 (zeroW _) (okTh_in ht)
    have d1 : decide (th < 0) = false := by simp; exact ht.1
    have d2 : decide (4 ≤ th) = false := by simp; exact ht.2
    simp only [if_pos ht]
    unfold mapW at hlook
    cases hg : findW ws th with
    | none =>
      rw [hg] at hlook
      simp only [Option.map_none, Option.getD_none, Option.isSome_none] at hlook ⊢
      clear hb ho hm lW hg ht hwf
      go_enter Try.func30, Try.ntmps30
      go_wp2_with fail
      refine bodyPost_ret (v := .tuple #[.agg #[.int .u32 0, .bool false], .bool false, .int .i64 0]) ?_ rfl ?_; (focus (simp [results, Try.results30, go_sem, hblt]; done))
      exact ⟨rfl, by repeat (first | (with_reducible exact Below.refl _ _) | (with_reducible apply Below.drew) | (with_reducible refine below_drewN ?_ _) | (with_reducible refine below_alloc' ?_ ?_ _; (focus ((try simp) <;> omega))) | (with_reducible refine below_set' ?_ ?_ _; (focus ((try simp) <;> omega))))⟩
    | some q =>
      obtain ⟨qt, qo, qs⟩ := q
      rw [hg] at hlook
      simp only [Option.map_some, Option.getD_some, Option.isSome_some, wV] at hlook ⊢
      clear hb ho hm lW hg ht hwf
      go_enter Try.func30, Try.ntmps30
      go_wp2_with fail
      refine bodyPost_ret (v := .tuple #[.agg #[.int .u32 qo, .bool qs], .bool true, .int .i64 0]) ?_ rfl ?_; (focus (simp [results, Try.results30, go_sem, hblt]; done))
      exact ⟨rfl, by repeat (first | (with_reducible exact Below.refl _ _) | (with_reducible apply Below.drew) | (with_reducible refine below_drewN ?_ _) | (with_reducible refine below_alloc' ?_ ?_ _; (focus ((try simp) <;> omega))) | (with_reducible refine below_set' ?_ ?_ _; (focus ((try simp) <;> omega))))⟩
  · rw [findW_out hwf ht]
    simp only [if_neg ht, Option.map_none, Option.getD_none, Option.isSome_none]
    by_cases h0 : th < 0
    · have d1 : decide (th < 0) = true := by simpa using h0
      clear hb ho hm lW ht h0 hwf
      go_enter Try.func30, Try.ntmps30
      go_wp2_with fail
      refine bodyPost_ret (v := .tuple #[.agg #[.int .u32 0, .bool false], .bool false, .int .i64 2]) ?_ rfl ?_; (focus (simp [results, Try.results30, go_sem, hblt]; done))
      exact ⟨rfl, by repeat (first | (with_reducible exact Below.refl _ _) | (with_reducible apply Below.drew) | (with_reducible refine below_drewN ?_ _) | (with_reducible refine below_alloc' ?_ ?_ _; (focus ((try simp) <;> omega))) | (with_reducible refine below_set' ?_ ?_ _; (focus ((try simp) <;> omega))))⟩
    · have d1 : decide (th < 0) = false := by simpa using h0
      have d2 : decide (4 ≤ th) = true := by simp; unfold okTh at ht; omega
      clear hb ho hm lW ht h0 hwf
      go_enter Try.func30, Try.ntmps30
      go_wp2_with fail
      refine bodyPost_ret (v := .tuple #[.agg #[.int .u32 0, .bool false], .bool false, .int .i64 2]) ?_ rfl ?_; (focus (simp [results, Try.results30, go_sem, hblt]; done))
      exact ⟨rfl, by repeat (first | (with_reducible exact Below.refl _ _) | (with_reducible apply Below.drew) | (with_reducible refine below_drewN ?_ _) | (with_reducible refine below_alloc' ?_ ?_ _; (focus ((try simp) <;> omega))) | (with_reducible refine below_set' ?_ ?_ _; (focus ((try simp) <;> omega))))⟩
end Go.Proofs.Ytddcpehncbcliaa.Wai
