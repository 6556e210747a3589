/- The engine: again, at its last place. -/
import Derived.Test.YtgjemjogncnbnaaTadK
namespace Go.Proofs.Ytgjemjogncnbnaa.Tad
open Go.RowKit
set_option linter.unusedSimpArgs false
set_option linter.unusedVariables false
set_option maxRecDepth 50000

theorem updT_twice (f : Int → Option T) (t : Int) (x y : Option T) : updT (updT f t x) t y = updT f t y := by
  funext s
  unfold updT
  split <;> rfl
theorem updT_same (f : Int → Option T) (t : Int) (y : T) : updT f t (some y) t = some y := if_pos rfl
set_option maxHeartbeats 3200000 in
theorem again6_stay {lo : Nat} {w : World} {eb : Nat} {B : Bk} {E : Eng} (h : EngAt lo w eb B E) (t : Int) {x : T} (hx : E.th t = some x) (ha : x.at_ = 6) (hs : (E.lk.cnt == x.seen) = false) :
    Calls Try.prog 19 #[ptr eb, .int .i64 t, ptr (B.pt t).p] w (WPost lo w eb B { E with th := updT E.th t (some { x with at_ := 4 }) } (reply false 0 false 0 false 0 0)) := by
  have l1 : Below w.heap.size w (w.alloc (.cells #[.bool false, .int .u64 0, .bool false, .int .i64 0, .bool false, .int .u8 0, .int .i64 0] 38)) := (by repeat (first | (with_reducible exact Below.refl _ _) | (with_reducible apply Below.drew) | (with_reducible refine below_drewN ?_ _) | (with_reducible refine below_alloc' ?_ ?_ _; (focus ((try simp) <;> omega))) | (with_reducible refine below_set' ?_ ?_ _; (focus ((try simp) <;> omega))))); have hbr : (w.alloc (.cells #[.bool false, .int .u64 0, .bool false, .int .i64 0, .bool false, .int .u8 0, .int .i64 0] 38)).heap[w.heap.size]? = some (.cells #[.bool false, .int .u64 0, .bool false, .int .i64 0, .bool false, .int .u8 0, .int .i64 0] 38 (0, 0)) := (by simp [↓heap_alloc_eq, ↓heap_set_eq, ↓heap_drew_eq, ↓heap_drewN_eq, setObj, size_drewN]); have h1 := h.below l1; have hel := blk_lt h.obj; have hen : ¬ eb = w.heap.size := (by omega); have hpl := blk_lt (h.ths t x hx).obj; have hpn : ¬ (B.pt t).p = w.heap.size := (by omega)
  have hc := (h.ths t x hx).cells
  obtain ⟨x7, f7⟩ := hc 7 _ rfl
  rw [ha] at x7
  have hob := (h.ths t x hx).obj
  have hT := att_turn h hx (w' := w.setCell ⟨(B.pt t).p, 7, none⟩ (.int .i64 4)) (y := { x with at_ := 4 })
    (by repeat (first | (with_reducible exact Only.refl _ _) | (with_reducible apply Only.drew) | (with_reducible apply Only.drewN) | (with_reducible apply Only.alloc) | (with_reducible refine only_set' ?_ ?_ _; (focus ((try simp) <;> omega))))) (by unfold attCells at hob ⊢; simp [↓heap_alloc_eq, ↓heap_set_eq, ↓heap_drew_eq, ↓heap_drewN_eq, setObj, size_drewN, hob]) rfl rfl (w2 := ((w.setCell ⟨(B.pt t).p, 7, none⟩ (.int .i64 4)).alloc (.cells #[.bool false, .int .u64 0, .bool false, .int .i64 0, .bool false, .int .u8 0, .int .i64 0] 38))) (by repeat (first | (with_reducible exact Below.refl _ _) | (with_reducible apply Below.drew) | (with_reducible refine below_drewN ?_ _) | (with_reducible refine below_alloc' ?_ ?_ _; (focus ((try simp) <;> omega))) | (with_reducible refine below_set' ?_ ?_ _; (focus ((try simp) <;> omega)))))
  have hbr2 : ((w.setCell ⟨(B.pt t).p, 7, none⟩ (.int .i64 4)).alloc (.cells #[.bool false, .int .u64 0, .bool false, .int .i64 0, .bool false, .int .u8 0, .int .i64 0] 38)).heap[w.heap.size]? = some (.cells #[.bool false, .int .u64 0, .bool false, .int .i64 0, .bool false, .int .u8 0, .int .i64 0] 38 (0, 0)) := by simp [↓heap_alloc_eq, ↓heap_set_eq, ↓heap_drew_eq, ↓heap_drewN_eq, setObj, size_drewN]
  have HT := Lib.hid hT; have HB2 := Lib.hid hbr2; have HS := Lib.hid hs
  clear h h1 l1 hbr hob hT hbr2 hc hx hs
  go_enter Try.func19, Try.ntmps19
  go_wp2_with fail
  obtain ⟨W1, hW1⟩ : ∃ W1, ((w.setCell ⟨(B.pt t).p, 7, none⟩ (.int .i64 4)).alloc (.cells #[.bool false, .int .u64 0, .bool false, .int .i64 0, .bool false, .int .u8 0, .int .i64 0] 38)) = W1 := ⟨_, rfl⟩
  rw [hW1] at HT HB2 ⊢
  clear hW1
  have H2 := Lib.hid (HT.out.1.below (show Below W1.heap.size W1 W1.drew from (Below.refl _ _).drew))
  have O2 := Lib.hid (mut_trans HT.out.2 (mut_below (lo := lo) (show Below W1.heap.size W1 W1.drew from (Below.refl _ _).drew)))
  have HBR2 := Lib.hid (show W1.drew.heap[w.heap.size]? = _ from HB2.out)
  clear HT HB2
  refine wp_region_tail 8 (by kernel_rfl) (by kernel_rfl) ?_; simp only [List.take_succ_cons, List.take_zero, List.drop_succ_cons, List.drop_zero]
  generalize W1.drew = WD at *
  have HX := Lib.hid (show updT E.th t (some { x with at_ := 4 }) t = some { x with at_ := 4 } from if_pos rfl)
  have h2 := H2.out
  have hc := (h2.ths t _ HX.out).cells
  have y10 := (hc 10 _ rfl).1
  have e0 := blk_cell h2.obj 0; simp only [List.getElem?_toArray, List.getElem?_cons_zero, List.getElem?_cons_succ] at e0
  have HSI := Lib.hid (Seq.since_any WD B.lb E.lk h2.lock x.seen)
  rw [HS.out] at HSI
  clear h2 hc x7 f7
  iterate 8 (with_reducible refine wpStill_step (fun KK hKK => ?_); go_simp; refine hKK _ ?_; clear hKK KK)
  with_reducible refine wpStill_nil ?_
  go_wp2_with fail
  refine HSI.out.mono ?_
  rintro e w3 ⟨rfl, rfl⟩
  have hbr3 := HBR2.out
  have r0 := blk_cell hbr3 0; have r1 := blk_cell hbr3 1; have r2 := blk_cell hbr3 2; have r3 := blk_cell hbr3 3; have r4 := blk_cell hbr3 4; have r5 := blk_cell hbr3 5; have r6 := blk_cell hbr3 6; have s0 := blk_free hbr3 0; have s1 := blk_free hbr3 1; have s2 := blk_free hbr3 2; have s3 := blk_free hbr3 3; have s4 := blk_free hbr3 4; have s5 := blk_free hbr3 5; have s6 := blk_free hbr3 6; simp only [List.getElem?_toArray, List.getElem?_cons_zero, List.getElem?_cons_succ] at r0 r1 r2 r3 r4 r5 r6
  clear hbr3 y10 e0 HSI
  go_wp2_with fail
  have hfin := reply_end H2.out O2.out HBR2.out (Nat.le_refl _) (repW_only _ w.heap.size false 0 false 0 false 0 0); have hz := repW_obj HBR2.out false 0 false 0 false 0 0; refine bodyPost_ret (v := reply false 0 false 0 false 0 0) ?_ rfl ?_; (focus (refine (show (results _ _).run _ (repW _ w.heap.size false 0 false 0 false 0 0) = .ok _ (repW _ w.heap.size false 0 false 0 false 0 0) from ?_); have z0 := blk_cell hz 0; have z1 := blk_cell hz 1; have z2 := blk_cell hz 2; have z3 := blk_cell hz 3; have z4 := blk_cell hz 4; have z5 := blk_cell hz 5; have z6 := blk_cell hz 6; simp only [List.getElem?_toArray, List.getElem?_cons_zero, List.getElem?_cons_succ] at z0 z1 z2 z3 z4 z5 z6; simp [results, Try.results19, go_sem, z0, z1, z2, z3, z4, z5, z6, reply]; done))
  exact ⟨rfl, hfin.1, hfin.2⟩
set_option maxHeartbeats 3200000 in
theorem again6_go {lo : Nat} {w : World} {eb : Nat} {B : Bk} {E : Eng} (h : EngAt lo w eb B E) (t : Int) {x : T} (hx : E.th t = some x) (ha : x.at_ = 6) (hs : (E.lk.cnt == x.seen) = true) (hs0 : 0 ≤ x.seen) (hs1 : x.seen < 1099511627778) {n : Nat} (hnum : x.num = n) (hny : n < E.n) (hy : E.n ≤ 1000) :
    Calls Try.prog 19 #[ptr eb, .int .i64 t, ptr (B.pt t).p] w (WPost lo w eb B { E with th := updT E.th t (some { x with at_ := x.back, snap := x.seen }) } (reply false 0 false 0 false 0 0)) := by
  have l1 : Below w.heap.size w (w.alloc (.cells #[.bool false, .int .u64 0, .bool false, .int .i64 0, .bool false, .int .u8 0, .int .i64 0] 38)) := (by repeat (first | (with_reducible exact Below.refl _ _) | (with_reducible apply Below.drew) | (with_reducible refine below_drewN ?_ _) | (with_reducible refine below_alloc' ?_ ?_ _; (focus ((try simp) <;> omega))) | (with_reducible refine below_set' ?_ ?_ _; (focus ((try simp) <;> omega))))); have hbr : (w.alloc (.cells #[.bool false, .int .u64 0, .bool false, .int .i64 0, .bool false, .int .u8 0, .int .i64 0] 38)).heap[w.heap.size]? = some (.cells #[.bool false, .int .u64 0, .bool false, .int .i64 0, .bool false, .int .u8 0, .int .i64 0] 38 (0, 0)) := (by simp [↓heap_alloc_eq, ↓heap_set_eq, ↓heap_drew_eq, ↓heap_drewN_eq, setObj, size_drewN]); have h1 := h.below l1; have hel := blk_lt h.obj; have hen : ¬ eb = w.heap.size := (by omega); have hpl := blk_lt (h.ths t x hx).obj; have hpn : ¬ (B.pt t).p = w.heap.size := (by omega)
  have hc := (h.ths t x hx).cells
  obtain ⟨x7, f7⟩ := hc 7 _ rfl
  rw [ha] at x7
  have hob := (h.ths t x hx).obj
  have hT := att_turn h hx (w' := w.setCell ⟨(B.pt t).p, 7, none⟩ (.int .i64 4)) (y := { x with at_ := 4 })
    (by repeat (first | (with_reducible exact Only.refl _ _) | (with_reducible apply Only.drew) | (with_reducible apply Only.drewN) | (with_reducible apply Only.alloc) | (with_reducible refine only_set' ?_ ?_ _; (focus ((try simp) <;> omega))))) (by unfold attCells at hob ⊢; simp [↓heap_alloc_eq, ↓heap_set_eq, ↓heap_drew_eq, ↓heap_drewN_eq, setObj, size_drewN, hob]) rfl rfl (w2 := ((w.setCell ⟨(B.pt t).p, 7, none⟩ (.int .i64 4)).alloc (.cells #[.bool false, .int .u64 0, .bool false, .int .i64 0, .bool false, .int .u8 0, .int .i64 0] 38))) (by repeat (first | (with_reducible exact Below.refl _ _) | (with_reducible apply Below.drew) | (with_reducible refine below_drewN ?_ _) | (with_reducible refine below_alloc' ?_ ?_ _; (focus ((try simp) <;> omega))) | (with_reducible refine below_set' ?_ ?_ _; (focus ((try simp) <;> omega)))))
  have hbr2 : ((w.setCell ⟨(B.pt t).p, 7, none⟩ (.int .i64 4)).alloc (.cells #[.bool false, .int .u64 0, .bool false, .int .i64 0, .bool false, .int .u8 0, .int .i64 0] 38)).heap[w.heap.size]? = some (.cells #[.bool false, .int .u64 0, .bool false, .int .i64 0, .bool false, .int .u8 0, .int .i64 0] 38 (0, 0)) := by simp [↓heap_alloc_eq, ↓heap_set_eq, ↓heap_drew_eq, ↓heap_drewN_eq, setObj, size_drewN]
  have HT := Lib.hid hT; have HB2 := Lib.hid hbr2; have HS := Lib.hid hs
  have HNUM := Lib.hid hnum
  clear h h1 l1 hbr hob hT hbr2 hc hx hs hnum
  go_enter Try.func19, Try.ntmps19
  go_wp2_with fail
  obtain ⟨W1, hW1⟩ : ∃ W1, ((w.setCell ⟨(B.pt t).p, 7, none⟩ (.int .i64 4)).alloc (.cells #[.bool false, .int .u64 0, .bool false, .int .i64 0, .bool false, .int .u8 0, .int .i64 0] 38)) = W1 := ⟨_, rfl⟩
  rw [hW1] at HT HB2 ⊢
  clear hW1
  have H2 := Lib.hid (HT.out.1.below (show Below W1.heap.size W1 W1.drew from (Below.refl _ _).drew))
  have O2 := Lib.hid (mut_trans HT.out.2 (mut_below (lo := lo) (show Below W1.heap.size W1 W1.drew from (Below.refl _ _).drew)))
  have HBR2 := Lib.hid (show W1.drew.heap[w.heap.size]? = _ from HB2.out)
  clear HT HB2
  refine wp_region_tail 8 (by kernel_rfl) (by kernel_rfl) ?_; simp only [List.take_succ_cons, List.take_zero, List.drop_succ_cons, List.drop_zero]
  generalize W1.drew = WD at *
  have HX := Lib.hid (show updT E.th t (some { x with at_ := 4 }) t = some { x with at_ := 4 } from if_pos rfl)
  have h2 := H2.out
  have hc := (h2.ths t _ HX.out).cells
  have y10 := (hc 10 _ rfl).1
  have e0 := blk_cell h2.obj 0; simp only [List.getElem?_toArray, List.getElem?_cons_zero, List.getElem?_cons_succ] at e0
  have HSI := Lib.hid (Seq.since_any WD B.lb E.lk h2.lock x.seen)
  rw [HS.out] at HSI
  clear h2 hc x7 f7
  iterate 8 (with_reducible refine wpStill_step (fun KK hKK => ?_); go_simp; refine hKK _ ?_; clear hKK KK)
  with_reducible refine wpStill_nil ?_
  go_wp2_with fail
  refine HSI.out.mono ?_
  rintro e w3 ⟨rfl, rfl⟩
  have h3 := H2.out.below (show Below WD.heap.size WD WD.drew from (Below.refl _ _).drew)
  have hc := (h3.ths t _ HX.out).cells
  obtain ⟨z3, f3⟩ := hc 3 _ rfl; obtain ⟨z7, f7⟩ := hc 7 _ rfl; obtain ⟨z8, f8⟩ := hc 8 _ rfl; obtain ⟨z10, f10⟩ := hc 10 _ rfl
  have hob := (h3.ths t _ HX.out).obj
  have H3 := Lib.hid h3; have HOB := Lib.hid hob
  have O3 := Lib.hid (mut_trans O2.out (mut_below (lo := lo) (show Below WD.heap.size WD WD.drew from (Below.refl _ _).drew)))
  have HBR3 := Lib.hid (show WD.drew.heap[w.heap.size]? = _ from HBR2.out)
  clear h3 hc hob y10 e0 HSI H2 O2 HBR2
  go_wp2_with fail
  obtain ⟨pb, hpb⟩ : ∃ pb, (B.pt t).p = pb := ⟨_, rfl⟩
  have HPB := Lib.hid hpb
  rw [hpb] at z3 f3 z7 f7 z8 f8 z10 f10 HOB ⊢
  clear hpb
  have hob : WD.heap[pb]? = _ := HOB.out
  have hobA : (WD.setCell ⟨pb, 3, none⟩ (.int .u64 x.seen)).drew.heap[pb]? = some (.cells (attCells (B.pt t) { x with at_ := 4, snap := x.seen }) 68 (0, 0)) := by
    unfold attCells at hob ⊢
    simp [↓heap_alloc_eq, ↓heap_set_eq, ↓heap_drew_eq, ↓heap_drewN_eq, setObj, size_drewN, hob]
  have hobB : ((WD.setCell ⟨pb, 3, none⟩ (.int .u64 x.seen)).setCell ⟨pb, 7, none⟩ (.int .i64 x.back)).drew.heap[pb]? = some (.cells (attCells (B.pt t) { x with at_ := x.back, snap := x.seen }) 68 (0, 0)) := by
    unfold attCells at hob ⊢
    simp [↓heap_alloc_eq, ↓heap_set_eq, ↓heap_drew_eq, ↓heap_drewN_eq, setObj, size_drewN, hob]
  have Q0 := And.intro z8 z10
  have Q1 := And.intro (blk_cell hobA 8) (blk_cell hobA 10)
  have Q2 := And.intro (blk_cell hobB 8) (blk_cell hobB 10)
  have u7 := blk_cell hobA 7; have g7 := blk_free hobA 7
  unfold attCells at Q1 Q2 u7
  simp only [List.getElem?_toArray, List.getElem?_cons_zero, List.getElem?_cons_succ] at Q1 Q2 u7
  have u7' : (WD.setCell ⟨pb, 3, none⟩ (.int .u64 x.seen)).cell? ⟨pb, 7, none⟩ = _ := u7
  have g7' : (WD.setCell ⟨pb, 3, none⟩ (.int .u64 x.seen)).frozen? ⟨pb, 7, none⟩ = _ := g7
  have z7' : WD.cell? ⟨pb, 7, none⟩ = _ := z7
  have f7' : WD.frozen? ⟨pb, 7, none⟩ = _ := f7
  clear hob hobA
  have HOBB := Lib.hid hobB
  clear hobB
  go_region_held3 (fun w' => w'.cell? ⟨pb, 8, none⟩ = some (.int .i64 x.back) ∧ w'.cell? ⟨pb, 10, none⟩ = some (.int .u64 x.seen)) (first | (with_reducible exact Q0) | (with_reducible exact Q1) | (with_reducible exact Q2)) (fail)
  have pe := HPB.out
  have hT := att_turn H3.out HX.out (y := { x with at_ := x.back, snap := x.seen }) (w' := ((WD.setCell ⟨pb, 3, none⟩ (.int .u64 x.seen)).setCell ⟨pb, 7, none⟩ (.int .i64 x.back)).drew)
    (by rw [pe]; exact (((Only.refl (fun k => k = pb) WD.drew).setCell (p := ⟨pb, 3, none⟩) (.inr rfl) _).setCell (p := ⟨pb, 7, none⟩) (.inr rfl) _)) (by rw [pe]; exact HOBB.out) rfl rfl (Below.refl _ _)
  simp only [updT_twice] at hT
  have hbr5 := mut_keep hT.2 HBR3.out (by decide)
  have HT := Lib.hid hT.1; have O5 := Lib.hid (mut_trans O3.out hT.2); have HB5 := Lib.hid hbr5
  clear hT hbr5 H3 O3 HBR3 HX HOBB Q0 Q1 Q2 u7 g7 u7' g7' z7' f7' z3 f3 z7 f7 z8 f8 z10 f10
  obtain ⟨W5, hW5⟩ : ∃ W5, ((WD.setCell ⟨pb, 3, none⟩ (.int .u64 x.seen)).setCell ⟨pb, 7, none⟩ (.int .i64 x.back)).drew = W5 := ⟨_, rfl⟩
  rw [hW5] at HT O5 HB5 ⊢
  clear hW5
  go_wp2_with fail
  have H6 := Lib.hid (HT.out.below (show Below W5.heap.size W5 W5.drew from (Below.refl _ _).drew))
  have O6 := Lib.hid (mut_trans O5.out (mut_below (lo := lo) (show Below W5.heap.size W5 W5.drew from (Below.refl _ _).drew)))
  have HB6 := Lib.hid (show W5.drew.heap[w.heap.size]? = _ from HB5.out)
  clear HT O5 HB5
  refine wp_region_tail 14 (by kernel_rfl) (by kernel_rfl) ?_; simp only [List.take_succ_cons, List.take_zero, List.drop_succ_cons, List.drop_zero]
  generalize W5.drew = WF at *
  obtain ⟨g, cap, hky, ⟨u, hu⟩, hfz, ⟨gcs, hg⟩, hst⟩ := H6.out.key (n := n) hny
  have hc := (H6.out.ths t _ (updT_same _ _ _)).cells
  have y2 := (hc 2 _ rfl).1; have y10 := (hc 10 _ rfl).1
  have e4 := blk_cell H6.out.obj 4; simp only [List.getElem?_toArray, List.getElem?_cons_zero, List.getElem?_cons_succ] at e4
  rw [hky] at e4
  rw [HPB.out] at y2 y10
  rw [HNUM.out] at y2
  have HST := Lib.hid hst
  have hn1 : (n : Int) < E.n := by omega
  have hn2 : ¬ (n : Int) < 0 := by omega
  have hbr6 := HB6.out
  have hgr : ¬ w.heap.size = g := blk_ne hbr6 hg (by decide)
  have r0 := blk_cell hbr6 0; have r1 := blk_cell hbr6 1; have r2 := blk_cell hbr6 2; have r3 := blk_cell hbr6 3; have r4 := blk_cell hbr6 4; have r5 := blk_cell hbr6 5; have r6 := blk_cell hbr6 6; have s0 := blk_free hbr6 0; have s1 := blk_free hbr6 1; have s2 := blk_free hbr6 2; have s3 := blk_free hbr6 3; have s4 := blk_free hbr6 4; have s5 := blk_free hbr6 5; have s6 := blk_free hbr6 6; simp only [List.getElem?_toArray, List.getElem?_cons_zero, List.getElem?_cons_succ] at r0 r1 r2 r3 r4 r5 r6
  clear hc hst hg hbr6
  iterate 14 (with_reducible refine wpStill_step (fun KK hKK => ?_); go_simp; refine hKK _ ?_; clear hKK KK)
  with_reducible refine wpStill_nil ?_
  go_wp2_with fail
  have hK := HST.out (.int .u64 (x.seen + 1))
  have hbr7 := mut_keep hK.2 HB6.out (by decide)
  have hfin := reply_end hK.1 (mut_trans O6.out hK.2) hbr7 (Nat.le_refl _) (repW_only _ w.heap.size false 0 false 0 false 0 0); have hz := repW_obj hbr7 false 0 false 0 false 0 0; refine bodyPost_ret (v := reply false 0 false 0 false 0 0) ?_ rfl ?_; (focus (refine (show (results _ _).run _ (repW _ w.heap.size false 0 false 0 false 0 0) = .ok _ (repW _ w.heap.size false 0 false 0 false 0 0) from ?_); have z0 := blk_cell hz 0; have z1 := blk_cell hz 1; have z2 := blk_cell hz 2; have z3 := blk_cell hz 3; have z4 := blk_cell hz 4; have z5 := blk_cell hz 5; have z6 := blk_cell hz 6; simp only [List.getElem?_toArray, List.getElem?_cons_zero, List.getElem?_cons_succ] at z0 z1 z2 z3 z4 z5 z6; simp [results, Try.results19, go_sem, z0, z1, z2, z3, z4, z5, z6, reply]; done))
  exact ⟨rfl, hfin.1, hfin.2⟩
end Go.Proofs.Ytgjemjogncnbnaa.Tad
