/- The engine: a read. -/
import Derived.Test.YtgjemjogncnbnaaTadN
namespace Go.Proofs.Ytgjemjogncnbnaa.Tad
open Go.RowKit
set_option linter.unusedSimpArgs false
set_option linter.unusedVariables false
set_option maxRecDepth 50000

set_option maxHeartbeats 3200000 in
theorem read0_any {lo : Nat} {w : World} {eb : Nat} {B : Bk} {E : Eng} (h : EngAt lo w eb B E) (t : Int) {x : T} (hx : E.th t = some x) (ha : x.at_ = 0) :
    Calls Try.prog 24 #[ptr eb, .int .i64 t, ptr (B.pt t).p] w (WPost lo w eb B { E with th := updT E.th t (some { x with val := E.h, at_ := 1 }) } (reply false 0 false 0 false 0 0)) := by
  have l1 : Below w.heap.size w (w.alloc (.cells #[.bool false, .int .u64 0, .bool false, .int .i64 0, .bool false, .int .u8 0, .int .i64 0] 38)) := (by repeat (first | (with_reducible exact Below.refl _ _) | (with_reducible apply Below.drew) | (with_reducible refine below_drewN ?_ _) | (with_reducible refine below_alloc' ?_ ?_ _; (focus ((try simp) <;> omega))) | (with_reducible refine below_set' ?_ ?_ _; (focus ((try simp) <;> omega))))); have hbr : (w.alloc (.cells #[.bool false, .int .u64 0, .bool false, .int .i64 0, .bool false, .int .u8 0, .int .i64 0] 38)).heap[w.heap.size]? = some (.cells #[.bool false, .int .u64 0, .bool false, .int .i64 0, .bool false, .int .u8 0, .int .i64 0] 38 (0, 0)) := (by simp [↓heap_alloc_eq, ↓heap_set_eq, ↓heap_drew_eq, ↓heap_drewN_eq, setObj, size_drewN]); have h1 := h.below l1; have hel := blk_lt h.obj; have hen : ¬ eb = w.heap.size := (by omega); have hpl := blk_lt (h.ths t x hx).obj; have hpn : ¬ (B.pt t).p = w.heap.size := (by omega)
  have hc := (h.ths t x hx).cells
  obtain ⟨x7, f7⟩ := hc 7 _ rfl; obtain ⟨x11, f11⟩ := hc 11 _ rfl
  have x5 := (hc 5 _ rfl).1
  rw [ha] at x7
  have e1 := blk_cell h.obj 1; simp only [List.getElem?_toArray, List.getElem?_cons_zero, List.getElem?_cons_succ] at e1
  have hv0 := h.val.1
  obtain ⟨_, _, ⟨hcs, hhg⟩, _⟩ := h.val
  have hgl := blk_lt hhg
  have hgn : ¬ B.hg = w.heap.size := by omega
  have hob := (h.ths t x hx).obj
  have hT := att_turn h hx (w' := (w.setCell ⟨(B.pt t).p, 11, none⟩ (.int .u64 E.h)).setCell ⟨(B.pt t).p, 7, none⟩ (.int .i64 1)) (y := { x with val := E.h, at_ := 1 })
    (by repeat (first | (with_reducible exact Only.refl _ _) | (with_reducible apply Only.drew) | (with_reducible apply Only.drewN) | (with_reducible apply Only.alloc) | (with_reducible refine only_set' ?_ ?_ _; (focus ((try simp) <;> omega))))) (by unfold attCells at hob ⊢; simp [↓heap_alloc_eq, ↓heap_set_eq, ↓heap_drew_eq, ↓heap_drewN_eq, setObj, size_drewN, hob]) rfl rfl (w2 := (((w.setCell ⟨(B.pt t).p, 11, none⟩ (.int .u64 E.h)).setCell ⟨(B.pt t).p, 7, none⟩ (.int .i64 1)).alloc (.cells #[.bool false, .int .u64 0, .bool false, .int .i64 0, .bool false, .int .u8 0, .int .i64 0] 38))) (by repeat (first | (with_reducible exact Below.refl _ _) | (with_reducible apply Below.drew) | (with_reducible refine below_drewN ?_ _) | (with_reducible refine below_alloc' ?_ ?_ _; (focus ((try simp) <;> omega))) | (with_reducible refine below_set' ?_ ?_ _; (focus ((try simp) <;> omega)))))
  have HB3 := Lib.hid (show (((w.setCell ⟨(B.pt t).p, 11, none⟩ (.int .u64 E.h)).setCell ⟨(B.pt t).p, 7, none⟩ (.int .i64 1)).alloc (.cells #[.bool false, .int .u64 0, .bool false, .int .i64 0, .bool false, .int .u8 0, .int .i64 0] 38)).heap[w.heap.size]? = some (.cells #[.bool false, .int .u64 0, .bool false, .int .i64 0, .bool false, .int .u8 0, .int .i64 0] 38 (0, 0)) from by simp [↓heap_alloc_eq, ↓heap_set_eq, ↓heap_drew_eq, ↓heap_drewN_eq, setObj, size_drewN])
  have HT := Lib.hid hT
  clear h h1 l1 hbr hob hT hc hx ha hhg
  generalize (B.pt t).p = pb at *
  go_enter Try.func24, Try.ntmps24
  go_wp2_with fail
  refine bodyPost_ret (v := reply false 0 false 0 false 0 0) ?_ rfl ?_
  · simp [results, Try.results24, go_sem, reply]
  · exact ⟨rfl, HT.out.1, HT.out.2⟩
set_option maxHeartbeats 3200000 in
theorem read1_no {lo : Nat} {w : World} {eb : Nat} {B : Bk} {E : Eng} (h : EngAt lo w eb B E) (t : Int) {x : T} (hx : E.th t = some x) (ha : x.at_ = 1) (hs : (E.lk.cnt == x.snap) = false) :
    Calls Try.prog 24 #[ptr eb, .int .i64 t, ptr (B.pt t).p] w (WPost lo w eb B { E with th := updT E.th t (some { x with at_ := 4, back := 0 }) } (reply false 0 false 0 false 0 0)) := by
  have l1 : Below w.heap.size w (w.alloc (.cells #[.bool false, .int .u64 0, .bool false, .int .i64 0, .bool false, .int .u8 0, .int .i64 0] 38)) := (by repeat (first | (with_reducible exact Below.refl _ _) | (with_reducible apply Below.drew) | (with_reducible refine below_drewN ?_ _) | (with_reducible refine below_alloc' ?_ ?_ _; (focus ((try simp) <;> omega))) | (with_reducible refine below_set' ?_ ?_ _; (focus ((try simp) <;> omega))))); have hbr : (w.alloc (.cells #[.bool false, .int .u64 0, .bool false, .int .i64 0, .bool false, .int .u8 0, .int .i64 0] 38)).heap[w.heap.size]? = some (.cells #[.bool false, .int .u64 0, .bool false, .int .i64 0, .bool false, .int .u8 0, .int .i64 0] 38 (0, 0)) := (by simp [↓heap_alloc_eq, ↓heap_set_eq, ↓heap_drew_eq, ↓heap_drewN_eq, setObj, size_drewN]); have h1 := h.below l1; have hel := blk_lt h.obj; have hen : ¬ eb = w.heap.size := (by omega); have hpl := blk_lt (h.ths t x hx).obj; have hpn : ¬ (B.pt t).p = w.heap.size := (by omega)
  have hc := (h.ths t x hx).cells
  have x7 := (hc 7 _ rfl).1; have x5 := (hc 5 _ rfl).1
  rw [ha] at x7
  have H1 := Lib.hid h1; have L1 := Lib.hid l1; have HB1 := Lib.hid hbr; have HX := Lib.hid hx; have HS := Lib.hid hs
  clear h h1 l1 hbr hc hx ha hs
  go_enter Try.func24, Try.ntmps24
  go_wp2_with fail
  clear x7 x5
  obtain ⟨W1, hW1⟩ : ∃ W1, w.alloc (.cells #[.bool false, .int .u64 0, .bool false, .int .i64 0, .bool false, .int .u8 0, .int .i64 0] 38) = W1 := ⟨_, rfl⟩
  rw [hW1] at H1 L1 HB1 ⊢
  clear hW1
  have H2 := Lib.hid (show EngAt lo W1.drew eb B E from H1.out.below (Below.refl _ _).drew)
  have HB2 := Lib.hid (show W1.drew.heap[w.heap.size]? = _ from HB1.out)
  have L2 := Lib.hid (show Below w.heap.size w W1.drew from L1.out.drew)
  clear H1 L1 HB1
  refine wp_region_tail 8 (by kernel_rfl) (by kernel_rfl) ?_; simp only [List.take_succ_cons, List.take_zero, List.drop_succ_cons, List.drop_zero]
  generalize W1.drew = WD at *
  have x3 := ((H2.out.ths t x HX.out).cells 3 _ rfl).1
  have e0 := blk_cell H2.out.obj 0; simp only [List.getElem?_toArray, List.getElem?_cons_zero, List.getElem?_cons_succ] at e0
  have HSI := Lib.hid (Seq.since_any WD B.lb E.lk H2.out.lock x.snap)
  rw [HS.out] at HSI
  have HL := Lib.hid (look_any H2.out HX.out 0)
  generalize (B.pt t).p = pb at *
  iterate 8 (with_reducible refine wpStill_step (fun KK hKK => ?_); go_simp; refine hKK _ ?_; clear hKK KK)
  with_reducible refine wpStill_nil ?_
  go_wp2_with fail
  refine HSI.out.mono ?_
  rintro e w3 ⟨rfl, rfl⟩
  go_wp2_with fail
  refine HL.out.mono ?_
  rintro e w4 ⟨rfl, hE, o4⟩
  have hbr4 := mut_keep o4 HB2.out (by decide)
  have HE4 := Lib.hid hE; have O4 := Lib.hid (mut_trans (mut_below (lo := lo) L2.out) o4); have HB4 := Lib.hid hbr4
  have r0 := blk_cell hbr4 0; have r1 := blk_cell hbr4 1; have r2 := blk_cell hbr4 2; have r3 := blk_cell hbr4 3; have r4 := blk_cell hbr4 4; have r5 := blk_cell hbr4 5; have r6 := blk_cell hbr4 6; have s0 := blk_free hbr4 0; have s1 := blk_free hbr4 1; have s2 := blk_free hbr4 2; have s3 := blk_free hbr4 3; have s4 := blk_free hbr4 4; have s5 := blk_free hbr4 5; have s6 := blk_free hbr4 6; simp only [List.getElem?_toArray, List.getElem?_cons_zero, List.getElem?_cons_succ] at r0 r1 r2 r3 r4 r5 r6
  clear hE o4 hbr4 HL x3 e0
  unfold reply
  go_wp2_with fail
  have hfin := reply_end HE4.out O4.out HB4.out (Nat.le_refl _) (repW_only _ w.heap.size false 0 false 0 false 0 0); have hz := repW_obj HB4.out false 0 false 0 false 0 0; refine bodyPost_ret (v := reply false 0 false 0 false 0 0) ?_ rfl ?_; (focus (refine (show (results _ _).run _ (repW _ w.heap.size false 0 false 0 false 0 0) = .ok _ (repW _ w.heap.size false 0 false 0 false 0 0) from ?_); have z0 := blk_cell hz 0; have z1 := blk_cell hz 1; have z2 := blk_cell hz 2; have z3 := blk_cell hz 3; have z4 := blk_cell hz 4; have z5 := blk_cell hz 5; have z6 := blk_cell hz 6; simp only [List.getElem?_toArray, List.getElem?_cons_zero, List.getElem?_cons_succ] at z0 z1 z2 z3 z4 z5 z6; simp [results, Try.results24, go_sem, z0, z1, z2, z3, z4, z5, z6, reply]; done))
  exact ⟨rfl, hfin.1, hfin.2⟩
end Go.Proofs.Ytgjemjogncnbnaa.Tad
