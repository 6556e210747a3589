/- The engine: tell. -/
import Derived.Test.YtgjemjogncnbnaaTadC
namespace Go.Proofs.Ytgjemjogncnbnaa.Tad
open Go.RowKit
set_option linter.unusedSimpArgs false
set_option linter.unusedVariables false
set_option maxRecDepth 50000

theorem infoE : (Try.prog.info? 80).map (fun i => (i.zero, i.size, i.bytes)) = some (some (.agg #[.int .u8 0, .int .i64 0, .int .i64 0, .int .u64 0]), 4, 32) := by kernel_rfl
def TellPost (lo : Nat) (w : World) (eb : Nat) (B : Bk) (E : Eng) (e : Ending) (w' : World) : Prop :=
  e = .returned (.tuple #[]) ∧ (∃ v, EngAt lo w' eb { B with ev := v } { E with m := E.m + 1 }) ∧ Only (Mut lo w) w w'
set_option maxHeartbeats 6400000 in
theorem tell_any {lo : Nat} {w : World} {eb : Nat} {B : Bk} {E : Eng} (h : EngAt lo w eb B E) (hlo : lo ≤ w.heap.size) (hm : E.m ≤ 1000000) (k a t v : Int) :
    Calls Try.prog 29 #[ptr eb, .agg #[.int .u8 k, .int .i64 a, .int .i64 t, .int .u64 v]] w (TellPost lo w eb B E) := by
  obtain ⟨i0, hi, hz0, hz1, hz2⟩ := info_parts infoE
  have l1 : Below w.heap.size w (w.alloc (.cells #[.int .u8 k, .int .i64 a, .int .i64 t, .int .u64 v] 80)) := by repeat (first | (with_reducible exact Below.refl _ _) | (with_reducible apply Below.drew) | (with_reducible refine below_drewN ?_ _) | (with_reducible refine below_alloc' ?_ ?_ _; (focus ((try simp) <;> omega))) | (with_reducible refine below_set' ?_ ?_ _; (focus ((try simp) <;> omega))))
  have hb0 : (w.alloc (.cells #[.int .u8 k, .int .i64 a, .int .i64 t, .int .u64 v] 80)).heap[w.heap.size]? = some (.cells #[.int .u8 k, .int .i64 a, .int .i64 t, .int .u64 v] 80 (0, 0)) := by simp [↓heap_alloc_eq, ↓heap_set_eq, ↓heap_drew_eq, ↓heap_drewN_eq, setObj, size_drewN]
  have H := Lib.hid h
  go_enter Try.func29, Try.ntmps29
  go_wp2_with fail
  obtain ⟨W, hW⟩ : ∃ W, w.alloc (.cells #[.int .u8 k, .int .i64 a, .int .i64 t, .int .u64 v] 80) = W := ⟨_, rfl⟩
  rw [hW] at l1 hb0 ⊢
  clear hW h
  have h1 := H.out.below l1
  have x3 := blk_cell h1.obj 3
  have y0 := blk_cell hb0 0; have y1 := blk_cell hb0 1; have y2 := blk_cell hb0 2; have y3 := blk_cell hb0 3
  simp only [List.getElem?_toArray, List.getElem?_cons_zero, List.getElem?_cons_succ] at x3 y0 y1 y2 y3
  obtain ⟨xs, hrow⟩ := h1.evs
  have hebl := blk_lt h1.obj
  have KS : ∀ W', Below W.heap.size W W' → W'.cell? ⟨eb, 3, none⟩ = some B.ev ∧ W'.cell? ⟨w.heap.size, 0, none⟩ = some (.int .u8 k) ∧ W'.cell? ⟨w.heap.size, 1, none⟩ = some (.int .i64 a) ∧ W'.cell? ⟨w.heap.size, 2, none⟩ = some (.int .i64 t) ∧ W'.cell? ⟨w.heap.size, 3, none⟩ = some (.int .u64 v) :=
    fun W' l => ⟨bkeep l x3, bkeep l y0, bkeep l y1, bkeep l y2, bkeep l y3⟩
  have HKS := Lib.hid KS; have H1 := Lib.hid h1; have HROW := Lib.hid hrow; have L1 := Lib.hid l1; have HB0 := Lib.hid hb0
  have hne : ∀ kk, B.ev.ownBlock = some kk → kk ≠ eb ∧ kk ≠ w.heap.size := fun kk hk => by
    obtain ⟨cs, hc⟩ := row_obj hrow hk
    refine ⟨blk_ne hc h1.obj (by decide), fun e => ?_⟩
    obtain ⟨ys, hy⟩ := H.out.evs
    have := ownsRow_lt hy hk
    omega
  have HNE := Lib.hid hne
  have Q0 := KS W.drew (Below.refl _ _).drew
  clear KS h1 hrow l1 hb0 x3 y0 y1 y2 y3 hne
  refine wp_region_F (fun w' => w'.cell? ⟨eb, 3, none⟩ = some B.ev ∧ w'.cell? ⟨w.heap.size, 0, none⟩ = some (.int .u8 k) ∧ w'.cell? ⟨w.heap.size, 1, none⟩ = some (.int .i64 a) ∧ w'.cell? ⟨w.heap.size, 2, none⟩ = some (.int .i64 t) ∧ w'.cell? ⟨w.heap.size, 3, none⟩ = some (.int .u64 v)) 10 (by kernel_rfl) ?_
  refine wpAnyF_take (i := 0) (v := ?_) rfl (by kernel_rfl) (by kernel_rfl) (by kernel_rfl) (by kernel_rfl) (fun _ _ _ h => h) (Or.inl ⟨by rfl, ?_⟩) (by assumption) ?_; rotate_left; (focus (intro w hSw; (skip); (first | (go_simp; done) | (go_simp; with_reducible rfl)))); (try simp only [Act.put, List.setIfInBounds_toArray, List.set_cons_zero, List.set_cons_succ])
  refine wpAnyF_take (i := 1) (v := ?_) rfl (by kernel_rfl) (by kernel_rfl) (by kernel_rfl) (by kernel_rfl) (fun _ _ _ h => h) (Or.inl ⟨by rfl, ?_⟩) (by assumption) ?_; rotate_left; (focus (intro w hSw; (skip); (first | (go_simp; done) | (go_simp; with_reducible rfl)))); (try simp only [Act.put, List.setIfInBounds_toArray, List.set_cons_zero, List.set_cons_succ])
  refine wpAnyF_take (i := 2) (v := ?_) rfl (by kernel_rfl) (by kernel_rfl) (by kernel_rfl) (by kernel_rfl) (fun _ _ _ h => h) (Or.inl ⟨by rfl, ?_⟩) (by assumption) ?_; rotate_left; (focus (intro w hSw; (skip); (first | (go_simp; done) | (go_simp; with_reducible rfl)))); (try simp only [Act.put, List.setIfInBounds_toArray, List.set_cons_zero, List.set_cons_succ])
  refine wpAnyF_take (i := 3) (v := ?_) rfl (by kernel_rfl) (by kernel_rfl) (by kernel_rfl) (by kernel_rfl) (fun _ _ _ h => h) (Or.inl ⟨by rfl, ?_⟩) (by assumption) ?_; rotate_left; (focus (intro w hSw; (skip); (first | (go_simp; done) | (go_simp; with_reducible rfl)))); (try simp only [Act.put, List.setIfInBounds_toArray, List.set_cons_zero, List.set_cons_succ])
  refine wpAnyF_take (i := 4) (v := ?_) rfl (by kernel_rfl) (by kernel_rfl) (by kernel_rfl) (by kernel_rfl) (fun _ _ _ h => h) (Or.inl ⟨by rfl, ?_⟩) (by assumption) ?_; rotate_left; (focus (intro w hSw; (obtain ⟨q0, q1, q2, q3, q4⟩ := hSw); (first | (go_simp; done) | (go_simp; with_reducible rfl)))); (try simp only [Act.put, List.setIfInBounds_toArray, List.set_cons_zero, List.set_cons_succ])
  refine wpAnyF_take (i := 5) (v := ?_) rfl (by kernel_rfl) (by kernel_rfl) (by kernel_rfl) (by kernel_rfl) (fun _ _ _ h => h) (Or.inl ⟨by rfl, ?_⟩) (by assumption) ?_; rotate_left; (focus (intro w hSw; (obtain ⟨q0, q1, q2, q3, q4⟩ := hSw); (first | (go_simp; done) | (go_simp; with_reducible rfl)))); (try simp only [Act.put, List.setIfInBounds_toArray, List.set_cons_zero, List.set_cons_succ])
  refine wpAnyF_ready (rs := [6]) (by kernel_rfl) (by simp) ?_
  refine AllF.cons rfl (fun K hK => ?_) AllF.nil
  go_simp
  have lA : Below W.heap.size W (W.drew.alloc (.cells #[.int .u8 k, .int .i64 a, .int .i64 t, .int .u64 v] 80)) := by repeat (first | (with_reducible exact Below.refl _ _) | (with_reducible apply Below.drew) | (with_reducible refine below_drewN ?_ _) | (with_reducible refine below_alloc' ?_ ?_ _; (focus ((try simp) <;> omega))) | (with_reducible refine below_set' ?_ ?_ _; (focus ((try simp) <;> omega))))
  have knf : ∀ j u, ([.int .u8 k, .int .i64 a, .int .i64 t, .int .u64 v] : List Value)[j]? = some u → (W.drew.alloc (.cells #[.int .u8 k, .int .i64 a, .int .i64 t, .int .u64 v] 80)).cell? ((⟨W.drew.heap.size, 0, none⟩ : Addr).add j) = some u := by
    intro j u hu
    rw [Addr.add_lit, Nat.zero_add, blk_cell (blk_new W.drew _) j]
    simpa using hu
  have hrowA := ownsRow_only HROW.out (Only.empty lA (Nat.le_refl _)) fun _ _ h => h
  refine hK.out _ _ (fun _ => HKS.out _ lA) ?_; clear hK K; (try simp only [Act.put, List.setIfInBounds_toArray, List.set_cons_zero, List.set_cons_succ])
  refine wpAnyF_ready (rs := [7]) (by kernel_rfl) (by simp) ?_
  refine AllF.cons rfl (fun K hK => ?_) AllF.nil
  refine step_append_own rfl (.tmp 8) (.tmp 10) 57 rfl 0 80 i0 (.agg #[.int .u8 0, .int .i64 0, .int .i64 0, .int .u64 0]) 4 32 Try.underlying57 hi hz0 hz1 hz2 rfl (by decide) B.ev E.m xs rfl hrowA ⟨W.drew.heap.size, 0, none⟩ 1 1 [.int .u8 k, .int .i64 a, .int .i64 t, .int .u64 v] rfl rfl knf (by intro u hu; simp at hu; rcases hu with rfl | rfl | rfl | rfl <;> rfl) (by unfold maxLen; omega) (by omega) (Nat.zero_le _) ?_
  intro v5 w5 hown5 hgr5 hat5
  obtain ⟨na, nc, rfl⟩ := ownsRow_slice hown5
  have o5 : Only (fun kk => B.ev.ownBlock = some kk) W w5 := (Only.of_below (S := fun kk => B.ev.ownBlock = some kk) lA (fun kk hk h => absurd hk (Nat.not_lt.2 h))).trans (Only.of_grown hgr5 fun kk h => h)
  have S5 : w5.cell? ⟨eb, 3, none⟩ = some B.ev ∧ w5.cell? ⟨w.heap.size, 0, none⟩ = some (.int .u8 k) ∧ w5.cell? ⟨w.heap.size, 1, none⟩ = some (.int .i64 a) ∧ w5.cell? ⟨w.heap.size, 2, none⟩ = some (.int .i64 t) ∧ w5.cell? ⟨w.heap.size, 3, none⟩ = some (.int .u64 v) := by
    obtain ⟨q0, q1, q2, q3, q4⟩ := HKS.out W (Below.refl _ _)
    have e1 : ∀ kk, kk = eb → ¬ B.ev.ownBlock = some kk := fun kk e h => (HNE.out kk h).1 e
    have e2 : ∀ kk, kk = w.heap.size → ¬ B.ev.ownBlock = some kk := fun kk e h => (HNE.out kk h).2 e
    exact ⟨o5.cell q0 (e1 _ rfl), o5.cell q1 (e2 _ rfl), o5.cell q2 (e2 _ rfl), o5.cell q3 (e2 _ rfl), o5.cell q4 (e2 _ rfl)⟩
  refine hK.out _ _ (fun _ => S5) ?_; clear hK K; (try simp only [Act.put, List.setIfInBounds_toArray, List.set_cons_zero, List.set_cons_succ])
  refine wpAnyF_ready (rs := [8]) (by kernel_rfl) (by simp) ?_
  refine AllF.cons rfl (fun K hK => ?_) AllF.nil
  go_simp
  refine hK.out _ _ (fun _ => S5) ?_; clear hK K; (try simp only [Act.put, List.setIfInBounds_toArray, List.set_cons_zero, List.set_cons_succ])
  refine wpAnyF_ready (rs := [9]) (by kernel_rfl) (by simp) ?_
  refine AllF.cons rfl (fun K hK => ?_) AllF.nil
  go_simp
  refine hK.out _ _ (fun _ => S5) ?_; clear hK K; (try simp only [Act.put, List.setIfInBounds_toArray, List.set_cons_zero, List.set_cons_succ])
  refine wpAnyF_ready (rs := [10]) (by kernel_rfl) (by simp) ?_
  refine AllF.cons rfl (fun K hK => ?_) AllF.nil
  have hob5 : w5.heap[eb]? = some (.cells #[ptr B.lb, .slice (some ⟨B.hg, 0, none⟩) 2 B.hc, .map (some B.mb), B.ev, B.ky, B.wy] 61 (0, 0)) := o5.blk H1.out.obj fun h => (HNE.out _ h).1 rfl
  have fz := blk_free hob5 3
  have x5 := S5.1
  go_simp
  refine hK.out _ _ (fun h => absurd rfl h) ?_; clear hK K; (try simp only [Act.put, List.setIfInBounds_toArray, List.set_cons_zero, List.set_cons_succ]); refine wpAnyF_done (by kernel_rfl) ?_ _
  have oF : Only (fun kk => B.ev.ownBlock = some kk ∨ kk = eb) W (w5.setCell ⟨eb, 3, none⟩ (.slice na (E.m + 1) nc)) :=
    ((Only.refl (fun kk => B.ev.ownBlock = some kk ∨ kk = eb) W).after o5 fun kk _ h => .inl h).setCell (p := ⟨eb, 3, none⟩) (.inr (.inr rfl)) _
  have hS : ∀ kk, (B.ev.ownBlock = some kk ∨ kk = eb) → kk < W.heap.size → kk = eb ∨ ∃ cs t, W.heap[kk]? = some (.cells cs t (0, 0)) ∧ t ∈ [26, 80, 25, 35, 38, 32] := fun kk h _ => by
    rcases h with h | h
    · obtain ⟨cs, hc⟩ := row_obj HROW.out h
      exact .inr ⟨cs, _, hc, by decide⟩
    · exact .inl h
  have rowF : ∀ {e : TypeId} {size n : Nat} {v : Value} {xs : List Value}, W.ownsRow 0 e size v n xs → e ≠ 80 → e ≠ 61 → (w5.setCell ⟨eb, 3, none⟩ (.slice na (E.m + 1) nc)).ownsRow 0 e size v n xs := fun hr h1 h2 => ownsRow_only hr oF fun kk hk h => by
    obtain ⟨cs, hc⟩ := row_obj hr hk
    rcases h with h | rfl
    · obtain ⟨cs', hc'⟩ := row_obj HROW.out h
      exact blk_ne hc hc' h1 rfl
    · exact blk_ne hc H1.out.obj h2 rfl
  have hvl : ∀ kk, (Value.slice na (E.m + 1) nc).ownBlock = some kk → lo ≤ kk := fun kk hk => by
    rcases hat5 with e | e
    · rw [e] at hk
      exact H1.out.lo2.1 kk hk
    · rw [e] at hk
      injection hk with hk
      rw [← hk]
      have := L1.out.size
      simp
      omega
  have hF : EngAt lo (w5.setCell ⟨eb, 3, none⟩ (.slice na (E.m + 1) nc)) eb { B with ev := .slice na (E.m + 1) nc } { E with m := E.m + 1 } :=
    H1.out.rows oF hS ⟨rfl, rfl, rfl, rfl⟩ ⟨rfl, rfl, rfl⟩ (by simp [↓heap_alloc_eq, ↓heap_set_eq, ↓heap_drew_eq, ↓heap_drewN_eq, setObj, size_drewN, hob5]) (rowF H1.out.heap (by decide) (by decide))
      ⟨_, ownsRow_only hown5 ((Only.refl (fun kk => kk = eb) w5).setCell (p := ⟨eb, 3, none⟩) (.inr rfl) _) fun kk hk h => by
        obtain ⟨cs, hc⟩ := row_obj hown5 hk
        subst h
        exact blk_ne hc hob5 (by decide) rfl⟩
      (H1.out.kys.imp fun _ hr => rowF hr (by decide) (by decide)) (H1.out.wys.imp fun _ hr => rowF hr (by decide) (by decide)) ⟨hvl, H1.out.lo2.2.1, H1.out.lo2.2.2⟩
  have hM : Only (Mut lo W) W (w5.setCell ⟨eb, 3, none⟩ (.slice na (E.m + 1) nc)) := (Only.refl (Mut lo W) W).after oF fun kk hk h => by
    rcases h with h | rfl
    · obtain ⟨cs, hc⟩ := row_obj HROW.out h
      exact ⟨H1.out.lo2.1 kk h, _, hc, by show _ ∈ _; decide⟩
    · exact ⟨H1.out.lo1.1, _, H1.out.obj, by show _ ∈ _; decide⟩
  exact bodyPost_end (results_none rfl _ _ _) rfl ⟨rfl, ⟨_, hF⟩, mut_trans (mut_below L1.out) hM⟩
end Go.Proofs.Ytgjemjogncnbnaa.Tad
