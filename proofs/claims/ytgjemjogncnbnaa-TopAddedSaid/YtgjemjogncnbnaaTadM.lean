/- The engine: a commit, at its first places. -/
import Derived.Test.YtgjemjogncnbnaaTadL
namespace Go.Proofs.Ytgjemjogncnbnaa.Tad
open Go.RowKit
set_option linter.unusedSimpArgs false
set_option linter.unusedVariables false
set_option maxRecDepth 50000

theorem pairs_one {Bs : Nat} {w : World} {v : Value} {rv : Int} (h : Wri.PairsAt Bs w v [(0, rv)]) : ∃ g c, v = .slice (some ⟨g, 0, none⟩) 1 c ∧ Bs ≤ g ∧ w.cell? ⟨g, 0, none⟩ = some (.int .i64 0) ∧ w.cell? ⟨g, 1, none⟩ = some (.int .u64 rv) := by
  have hc := fun (g : Nat) (hg : v.ownBlock = some g) (j : Nat) (u : Value) => h.cells (g := g) hg j u
  rcases h.2 with ⟨_, h0⟩ | ⟨g, cap, cur, rfl, hb, _⟩
  · cases h0
  · have h0 := hc g rfl 0 (.int .i64 0) rfl
    have h1 := hc g rfl 1 (.int .u64 rv) rfl
    rw [Addr.add_lit] at h0 h1
    exact ⟨g, cap, rfl, hb, h0, h1⟩
theorem all_one {xs : List (Value × Wri.Frm)} {rv : Int} (h : xs.map (·.2) = [[(0, rv)]]) : Wri.allK (Wri.getS xs) 12 = [(0, rv)] := by
  match xs, h with
  | [(u, f)], h =>
    simp only [List.map_cons, List.map_nil, List.cons.injEq, and_true] at h
    subst h
    simp [Wri.allK, Wri.getS, Wri.getF]
theorem all_to {w : World} {b : Nat} {fs : List Wri.Frm} {rv : Int} (h : ∃ xs, xs.map (·.2) = fs ∧ Wri.LogAt w b xs) (hf : fs = [[(0, rv)]]) : Calls Try.prog 39 #[ptr b] w fun e w' => ∃ g c, e = .returned (.slice (some ⟨g, 0, none⟩) 1 c) ∧ w.heap.size ≤ g ∧ w'.cell? ⟨g, 0, none⟩ = some (.int .i64 0) ∧ w'.cell? ⟨g, 1, none⟩ = some (.int .u64 rv) ∧ Below w.heap.size w w' := by
  obtain ⟨xs, e, hl⟩ := h
  refine (Wri.all_any w b xs hl).mono ?_
  rintro e w' ⟨v, rfl, hp, hb⟩
  rw [all_one (by rw [e, hf])] at hp
  obtain ⟨g, c, rfl, h1, h2, h3⟩ := pairs_one hp
  exact ⟨g, c, rfl, h1, h2, h3, hb⟩
set_option maxHeartbeats 3200000 in
theorem go0_any {lo : Nat} {w : World} {eb : Nat} {B : Bk} {E : Eng} (h : EngAt lo w eb B E) (hlo : lo ≤ w.heap.size) (hm : E.m ≤ 1000000) (t : Int) {x : T} (hx : E.th t = some x) (ha : x.at_ = 0) {rv : Int} (hf : x.fs = [[(0, rv)]]) :
    Calls Try.prog 21 #[ptr eb, .int .i64 t, ptr (B.pt t).p] w (RPost lo w eb { E with m := E.m + 1, th := updT E.th t (some { x with at_ := 1 }) } (reply false 0 false 0 false 0 0)) := by
  have l1 : Below w.heap.size w (w.alloc (.cells #[.bool false, .int .u64 0, .bool false, .int .i64 0, .bool false, .int .u8 0, .int .i64 0] 38)) := (by repeat (first | (with_reducible exact Below.refl _ _) | (with_reducible apply Below.drew) | (with_reducible refine below_drewN ?_ _) | (with_reducible refine below_alloc' ?_ ?_ _; (focus ((try simp) <;> omega))) | (with_reducible refine below_set' ?_ ?_ _; (focus ((try simp) <;> omega))))); have hbr : (w.alloc (.cells #[.bool false, .int .u64 0, .bool false, .int .i64 0, .bool false, .int .u8 0, .int .i64 0] 38)).heap[w.heap.size]? = some (.cells #[.bool false, .int .u64 0, .bool false, .int .i64 0, .bool false, .int .u8 0, .int .i64 0] 38 (0, 0)) := (by simp [↓heap_alloc_eq, ↓heap_set_eq, ↓heap_drew_eq, ↓heap_drewN_eq, setObj, size_drewN]); have h1 := h.below l1; have hel := blk_lt h.obj; have hen : ¬ eb = w.heap.size := (by omega); have hpl := blk_lt (h.ths t x hx).obj; have hpn : ¬ (B.pt t).p = w.heap.size := (by omega)
  have HA := Lib.hid (all_to (h1.ths t x hx).log hf)
  have x1 := ((h.ths t x hx).cells 1 _ rfl).1
  have H1 := Lib.hid h1; have L1 := Lib.hid l1; have HBR := Lib.hid hbr; have HX := Lib.hid hx; have HAT := Lib.hid ha
  clear h h1 l1 hbr ha hx
  go_enter Try.func21, Try.ntmps21
  go_wp2_with fail
  refine HA.out.mono ?_
  rintro e w2 ⟨g, gc, rfl, hg, g0, g1, l2⟩
  have h2 := H1.out.below l2
  have hc := (h2.ths t x HX.out).cells
  have x7 := (hc 7 _ rfl).1; have x2 := (hc 2 _ rfl).1
  rw [HAT.out] at x7
  have HT := Lib.hid (tell_any h2 (Nat.le_trans hlo (btrans L1.out (Nat.le_refl _) l2).size) hm 7 x.num 0 0)
  have L2 := Lib.hid (btrans L1.out (Nat.le_refl _) l2); have HB2 := Lib.hid (bblk l2 HBR.out)
  clear h2 hc l2 g0 g1 hg HA H1 L1 HBR x1
  go_wp2_with fail
  refine HT.out.mono ?_
  rintro e w3 ⟨rfl, ⟨u, hE⟩, o3⟩
  have hc := (hE.ths t x HX.out).cells
  obtain ⟨y7, f7⟩ := hc 7 _ rfl
  have hob := (hE.ths t x HX.out).obj
  have hT := att_turn hE HX.out (w' := w3.setCell ⟨(B.pt t).p, 7, none⟩ (.int .i64 1)) (y := { x with at_ := 1 })
    (by repeat (first | (with_reducible exact Only.refl _ _) | (with_reducible apply Only.drew) | (with_reducible apply Only.drewN) | (with_reducible apply Only.alloc) | (with_reducible refine only_set' ?_ ?_ _; (focus ((try simp) <;> omega))))) (by unfold attCells at hob ⊢; simp [↓heap_alloc_eq, ↓heap_set_eq, ↓heap_drew_eq, ↓heap_drewN_eq, setObj, size_drewN, hob]) rfl rfl (Below.refl _ _)
  have O3 := Lib.hid (mut_trans (mut_below (lo := lo) L2.out) o3)
  have hbr3 := mut_keep o3 HB2.out (by decide)
  have hbr4 := mut_keep hT.2 hbr3 (by decide)
  have r0 := blk_cell hbr3 0; have r1 := blk_cell hbr3 1; have r2 := blk_cell hbr3 2; have r3 := blk_cell hbr3 3; have r4 := blk_cell hbr3 4; have r5 := blk_cell hbr3 5; have r6 := blk_cell hbr3 6; have s0 := blk_free hbr3 0; have s1 := blk_free hbr3 1; have s2 := blk_free hbr3 2; have s3 := blk_free hbr3 3; have s4 := blk_free hbr3 4; have s5 := blk_free hbr3 5; have s6 := blk_free hbr3 6; simp only [List.getElem?_toArray, List.getElem?_cons_zero, List.getElem?_cons_succ] at r0 r1 r2 r3 r4 r5 r6
  have HTT := Lib.hid hT; have HB4 := Lib.hid hbr4
  clear hE o3 hT hc hob x7 x2 hbr3 hbr4 HT
  go_wp2_with fail
  have hfin := reply_end HTT.out.1 (mut_trans O3.out HTT.out.2) HB4.out (Nat.le_refl _) (repW_only _ w.heap.size false 0 false 0 false 0 0); have hz := repW_obj HB4.out false 0 false 0 false 0 0; refine bodyPost_ret (v := reply false 0 false 0 false 0 0) ?_ rfl ?_; (focus (refine (show (results _ _).run _ (repW _ w.heap.size false 0 false 0 false 0 0) = .ok _ (repW _ w.heap.size false 0 false 0 false 0 0) from ?_); have z0 := blk_cell hz 0; have z1 := blk_cell hz 1; have z2 := blk_cell hz 2; have z3 := blk_cell hz 3; have z4 := blk_cell hz 4; have z5 := blk_cell hz 5; have z6 := blk_cell hz 6; simp only [List.getElem?_toArray, List.getElem?_cons_zero, List.getElem?_cons_succ] at z0 z1 z2 z3 z4 z5 z6; simp [results, Try.results21, go_sem, z0, z1, z2, z3, z4, z5, z6, reply]; done))
  exact ⟨rfl, ⟨_, hfin.1⟩, hfin.2⟩
set_option maxHeartbeats 3200000 in
theorem go3_any {lo : Nat} {w : World} {eb : Nat} {B : Bk} {E : Eng} (h : EngAt lo w eb B E) (hlo : lo ≤ w.heap.size) (hm : E.m ≤ 1000000) (t : Int) (t0 : 0 ≤ t) (t3 : t < 3) {x : T} (hx : E.th t = some x) (ha : x.at_ = 3) {rv : Int} (hf : x.fs = [[(0, rv)]]) :
    Calls Try.prog 21 #[ptr eb, .int .i64 t, ptr (B.pt t).p] w (RPost lo w eb { E with lk := E.lk.unlockSt t, m := E.m + 1, th := updT E.th t none } (reply true 0 false 0 true 0 0)) := by
  have l1 : Below w.heap.size w (w.alloc (.cells #[.bool false, .int .u64 0, .bool false, .int .i64 0, .bool false, .int .u8 0, .int .i64 0] 38)) := (by repeat (first | (with_reducible exact Below.refl _ _) | (with_reducible apply Below.drew) | (with_reducible refine below_drewN ?_ _) | (with_reducible refine below_alloc' ?_ ?_ _; (focus ((try simp) <;> omega))) | (with_reducible refine below_set' ?_ ?_ _; (focus ((try simp) <;> omega))))); have hbr : (w.alloc (.cells #[.bool false, .int .u64 0, .bool false, .int .i64 0, .bool false, .int .u8 0, .int .i64 0] 38)).heap[w.heap.size]? = some (.cells #[.bool false, .int .u64 0, .bool false, .int .i64 0, .bool false, .int .u8 0, .int .i64 0] 38 (0, 0)) := (by simp [↓heap_alloc_eq, ↓heap_set_eq, ↓heap_drew_eq, ↓heap_drewN_eq, setObj, size_drewN]); have h1 := h.below l1; have hel := blk_lt h.obj; have hen : ¬ eb = w.heap.size := (by omega); have hpl := blk_lt (h.ths t x hx).obj; have hpn : ¬ (B.pt t).p = w.heap.size := (by omega)
  have HA := Lib.hid (all_to (h1.ths t x hx).log hf)
  have x1 := ((h.ths t x hx).cells 1 _ rfl).1
  have H1 := Lib.hid h1; have L1 := Lib.hid l1; have HBR := Lib.hid hbr; have HX := Lib.hid hx; have HAT := Lib.hid ha
  clear h h1 l1 hbr ha hx
  go_enter Try.func21, Try.ntmps21
  go_wp2_with fail
  refine HA.out.mono ?_
  rintro e w2 ⟨g, gc, rfl, hg, g0, g1, l2⟩
  have h2 := H1.out.below l2
  have hc := (h2.ths t x HX.out).cells
  have x7 := (hc 7 _ rfl).1
  rw [HAT.out] at x7
  have e0 := blk_cell h2.obj 0; simp only [List.getElem?_toArray, List.getElem?_cons_zero, List.getElem?_cons_succ] at e0
  have HU := Lib.hid (Seq.unlock_any w2 B.lb E.lk h2.linv h2.lock t)
  have L2 := Lib.hid (btrans L1.out (Nat.le_refl _) l2); have HB2 := Lib.hid (bblk l2 HBR.out); have H2 := Lib.hid h2
  clear h2 hc l2 g0 g1 hg HA H1 L1 HBR x1
  go_wp2_with fail
  refine HU.out.mono ?_
  rintro e w3 ⟨rfl, hl3, o3⟩
  have h3 := H2.out.lkT o3 hl3 (Seq.inv_unlock H2.out.linv t)
  have O3 := Lib.hid (mut_trans (mut_below (lo := lo) L2.out) h3.2)
  have HB3 := Lib.hid (mut_keep h3.2 HB2.out (by decide))
  have HC := Lib.hid (commit_any h3.1 (Nat.le_trans hlo O3.out.size) hm t t0 t3 HX.out)
  clear h3 hl3 o3 x7 e0 HU H2 HB2 L2
  go_wp2_with fail
  refine HC.out.mono ?_
  rintro e w4 ⟨rfl, ⟨B4, hE⟩, o4⟩
  have hbr4 := mut_keep o4 HB3.out (by decide)
  have HE4 := Lib.hid hE; have O4 := Lib.hid (mut_trans O3.out o4); have HB4 := Lib.hid hbr4
  have r0 := blk_cell hbr4 0; have r1 := blk_cell hbr4 1; have r2 := blk_cell hbr4 2; have r3 := blk_cell hbr4 3; have r4 := blk_cell hbr4 4; have r5 := blk_cell hbr4 5; have r6 := blk_cell hbr4 6; have s0 := blk_free hbr4 0; have s1 := blk_free hbr4 1; have s2 := blk_free hbr4 2; have s3 := blk_free hbr4 3; have s4 := blk_free hbr4 4; have s5 := blk_free hbr4 5; have s6 := blk_free hbr4 6; simp only [List.getElem?_toArray, List.getElem?_cons_zero, List.getElem?_cons_succ] at r0 r1 r2 r3 r4 r5 r6
  clear hE o4 hbr4 HC
  unfold reply
  go_wp2_with fail
  have hfin := reply_end HE4.out O4.out HB4.out (Nat.le_refl _) (repW_only _ w.heap.size true 0 false 0 true 0 0); have hz := repW_obj HB4.out true 0 false 0 true 0 0; refine bodyPost_ret (v := reply true 0 false 0 true 0 0) ?_ rfl ?_; (focus (refine (show (results _ _).run _ (repW _ w.heap.size true 0 false 0 true 0 0) = .ok _ (repW _ w.heap.size true 0 false 0 true 0 0) from ?_); have z0 := blk_cell hz 0; have z1 := blk_cell hz 1; have z2 := blk_cell hz 2; have z3 := blk_cell hz 3; have z4 := blk_cell hz 4; have z5 := blk_cell hz 5; have z6 := blk_cell hz 6; simp only [List.getElem?_toArray, List.getElem?_cons_zero, List.getElem?_cons_succ] at z0 z1 z2 z3 z4 z5 z6; simp [results, Try.results21, go_sem, z0, z1, z2, z3, z4, z5, z6, reply]; done))
  exact ⟨rfl, ⟨_, hfin.1⟩, hfin.2⟩
end Go.Proofs.Ytgjemjogncnbnaa.Tad
