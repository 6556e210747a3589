/- The engine: a commit, at its other places. -/
import Derived.Test.YtgjemjogncnbnaaTadM
namespace Go.Proofs.Ytgjemjogncnbnaa.Tad
open Go.RowKit
set_option linter.unusedSimpArgs false
set_option linter.unusedVariables false
set_option maxRecDepth 50000

set_option maxHeartbeats 3200000 in
theorem go1_no {lo : Nat} {w : World} {eb : Nat} {B : Bk} {E : Eng} (h : EngAt lo w eb B E) (t : Int) {x : T} (hx : E.th t = some x) (ha : x.at_ = 1) {rv : Int} (hf : x.fs = [[(0, rv)]]) (hte : E.lk.tryE t x.snap = 7 ∨ E.lk.tryE t x.snap = 8) :
    Calls Try.prog 21 #[ptr eb, .int .i64 t, ptr (B.pt t).p] w (WPost lo w eb B { E with th := updT E.th t (some { x with at_ := 4, back := 1 }) } (reply false 0 false 0 false 0 0)) := by
  have l1 : Below w.heap.size w (w.alloc (.cells #[.bool false, .int .u64 0, .bool false, .int .i64 0, .bool false, .int .u8 0, .int .i64 0] 38)) := (by repeat (first | (with_reducible exact Below.refl _ _) | (with_reducible apply Below.drew) | (with_reducible refine below_drewN ?_ _) | (with_reducible refine below_alloc' ?_ ?_ _; (focus ((try simp) <;> omega))) | (with_reducible refine below_set' ?_ ?_ _; (focus ((try simp) <;> omega))))); have hbr : (w.alloc (.cells #[.bool false, .int .u64 0, .bool false, .int .i64 0, .bool false, .int .u8 0, .int .i64 0] 38)).heap[w.heap.size]? = some (.cells #[.bool false, .int .u64 0, .bool false, .int .i64 0, .bool false, .int .u8 0, .int .i64 0] 38 (0, 0)) := (by simp [↓heap_alloc_eq, ↓heap_set_eq, ↓heap_drew_eq, ↓heap_drewN_eq, setObj, size_drewN]); have h1 := h.below l1; have hel := blk_lt h.obj; have hen : ¬ eb = w.heap.size := (by omega); have hpl := blk_lt (h.ths t x hx).obj; have hpn : ¬ (B.pt t).p = w.heap.size := (by omega)
  have HA := Lib.hid (all_to (h1.ths t x hx).log hf)
  have x1 := ((h.ths t x hx).cells 1 _ rfl).1
  have H1 := Lib.hid h1; have L1 := Lib.hid l1; have HBR := Lib.hid hbr; have HX := Lib.hid hx; have HAT := Lib.hid ha; have HTE := Lib.hid hte
  clear h h1 l1 hbr ha hx hte hf
  go_enter Try.func21, Try.ntmps21
  go_wp2_with fail
  refine HA.out.mono ?_
  rintro e w2 ⟨g, gc, rfl, hg, g0, g1, l2⟩
  have x7 := (((H1.out.below l2).ths t x HX.out).cells 7 _ rfl).1
  rw [HAT.out] at x7
  have H2 := Lib.hid (show EngAt lo w2.drew eb B E from (H1.out.below l2).below (Below.refl _ _).drew)
  have HB2 := Lib.hid (show w2.drew.heap[w.heap.size]? = _ from bblk l2 HBR.out)
  have L2 := Lib.hid (show Below w.heap.size w w2.drew from (btrans L1.out (Nat.le_refl _) l2).drew)
  clear l2 g0 g1 hg HA H1 L1 HBR x1
  go_wp2_with fail
  clear x7
  refine wp_region_tail 9 (by kernel_rfl) (by kernel_rfl) ?_; simp only [List.take_succ_cons, List.take_zero, List.drop_succ_cons, List.drop_zero]
  generalize w2.drew = WD at *
  have x3 := ((H2.out.ths t x HX.out).cells 3 _ rfl).1
  have e0 := blk_cell H2.out.obj 0; simp only [List.getElem?_toArray, List.getElem?_cons_zero, List.getElem?_cons_succ] at e0
  have HT := Lib.hid (Seq.try_any WD B.lb E.lk H2.out.linv H2.out.lock t x.snap)
  iterate 9 (with_reducible refine wpStill_step (fun KK hKK => ?_); go_simp; refine hKK _ ?_; clear hKK KK)
  with_reducible refine wpStill_nil ?_
  go_wp2_with fail
  refine HT.out.mono ?_
  rintro e w3 ⟨rfl, hl3, o3⟩
  have hst : E.lk.trySt t x.snap = E.lk := by unfold Seq.St.trySt; rw [if_neg (by rcases HTE.out with e | e <;> rw [e] <;> decide)]
  rw [hst] at hl3
  have h3 := H2.out.lkT o3 hl3 H2.out.linv
  have hh3 : EngAt lo w3 eb B E := h3.1
  have O3 := Lib.hid (mut_trans (mut_below (lo := lo) L2.out) h3.2)
  have HB3 := Lib.hid (mut_keep h3.2 HB2.out (by decide))
  have HL := Lib.hid (look_any hh3 HX.out 1)
  clear h3 hh3 hl3 o3 x3 e0 HT H2 HB2 L2
  generalize (B.pt t).p = pb at *
  rcases HTE.out with e | e
  · rw [e]
    go_wp2_with fail
    refine HL.out.mono ?_
    rintro e w4 ⟨rfl, hE, o4⟩
    have hbr4 := mut_keep o4 HB3.out (by decide)
    have HE4 := Lib.hid hE; have O4 := Lib.hid (mut_trans O3.out o4); have HB4 := Lib.hid hbr4
    have r0 := blk_cell hbr4 0; have r1 := blk_cell hbr4 1; have r2 := blk_cell hbr4 2; have r3 := blk_cell hbr4 3; have r4 := blk_cell hbr4 4; have r5 := blk_cell hbr4 5; have r6 := blk_cell hbr4 6; have s0 := blk_free hbr4 0; have s1 := blk_free hbr4 1; have s2 := blk_free hbr4 2; have s3 := blk_free hbr4 3; have s4 := blk_free hbr4 4; have s5 := blk_free hbr4 5; have s6 := blk_free hbr4 6; simp only [List.getElem?_toArray, List.getElem?_cons_zero, List.getElem?_cons_succ] at r0 r1 r2 r3 r4 r5 r6
    clear hE o4 hbr4 HL
    unfold reply
    go_wp2_with fail
    have hfin := reply_end HE4.out O4.out HB4.out (Nat.le_refl _) (repW_only _ w.heap.size false 0 false 0 false 0 0); have hz := repW_obj HB4.out false 0 false 0 false 0 0; refine bodyPost_ret (v := reply false 0 false 0 false 0 0) ?_ rfl ?_; (focus (refine (show (results _ _).run _ (repW _ w.heap.size false 0 false 0 false 0 0) = .ok _ (repW _ w.heap.size false 0 false 0 false 0 0) from ?_); have z0 := blk_cell hz 0; have z1 := blk_cell hz 1; have z2 := blk_cell hz 2; have z3 := blk_cell hz 3; have z4 := blk_cell hz 4; have z5 := blk_cell hz 5; have z6 := blk_cell hz 6; simp only [List.getElem?_toArray, List.getElem?_cons_zero, List.getElem?_cons_succ] at z0 z1 z2 z3 z4 z5 z6; simp [results, Try.results21, go_sem, z0, z1, z2, z3, z4, z5, z6, reply]; done))
    exact ⟨rfl, hfin.1, hfin.2⟩
  · rw [e]
    go_wp2_with fail
    refine HL.out.mono ?_
    rintro e w4 ⟨rfl, hE, o4⟩
    have hbr4 := mut_keep o4 HB3.out (by decide)
    have HE4 := Lib.hid hE; have O4 := Lib.hid (mut_trans O3.out o4); have HB4 := Lib.hid hbr4
    have r0 := blk_cell hbr4 0; have r1 := blk_cell hbr4 1; have r2 := blk_cell hbr4 2; have r3 := blk_cell hbr4 3; have r4 := blk_cell hbr4 4; have r5 := blk_cell hbr4 5; have r6 := blk_cell hbr4 6; have s0 := blk_free hbr4 0; have s1 := blk_free hbr4 1; have s2 := blk_free hbr4 2; have s3 := blk_free hbr4 3; have s4 := blk_free hbr4 4; have s5 := blk_free hbr4 5; have s6 := blk_free hbr4 6; simp only [List.getElem?_toArray, List.getElem?_cons_zero, List.getElem?_cons_succ] at r0 r1 r2 r3 r4 r5 r6
    clear hE o4 hbr4 HL
    unfold reply
    go_wp2_with fail
    have hfin := reply_end HE4.out O4.out HB4.out (Nat.le_refl _) (repW_only _ w.heap.size false 0 false 0 false 0 0); have hz := repW_obj HB4.out false 0 false 0 false 0 0; refine bodyPost_ret (v := reply false 0 false 0 false 0 0) ?_ rfl ?_; (focus (refine (show (results _ _).run _ (repW _ w.heap.size false 0 false 0 false 0 0) = .ok _ (repW _ w.heap.size false 0 false 0 false 0 0) from ?_); have z0 := blk_cell hz 0; have z1 := blk_cell hz 1; have z2 := blk_cell hz 2; have z3 := blk_cell hz 3; have z4 := blk_cell hz 4; have z5 := blk_cell hz 5; have z6 := blk_cell hz 6; simp only [List.getElem?_toArray, List.getElem?_cons_zero, List.getElem?_cons_succ] at z0 z1 z2 z3 z4 z5 z6; simp [results, Try.results21, go_sem, z0, z1, z2, z3, z4, z5, z6, reply]; done))
    exact ⟨rfl, hfin.1, hfin.2⟩
set_option maxHeartbeats 3200000 in
theorem go1_ok {lo : Nat} {w : World} {eb : Nat} {B : Bk} {E : Eng} (h : EngAt lo w eb B E) (t : Int) {x : T} (hx : E.th t = some x) (ha : x.at_ = 1) {rv : Int} (hf : x.fs = [[(0, rv)]]) (hte : E.lk.tryE t x.snap = 0) (hs0 : 0 ≤ x.snap) (hs1 : x.snap < 1099511627778) {n : Nat} (hnum : x.num = n) (hny : n < E.n) (hy : E.n ≤ 1000) :
    Calls Try.prog 21 #[ptr eb, .int .i64 t, ptr (B.pt t).p] w (WPost lo w eb B { E with lk := E.lk.trySt t x.snap, th := updT E.th t (some { x with dec := true, at_ := 2, next := 0 }) } (reply false 0 false 0 false 0 0)) := by
  have l1 : Below w.heap.size w (w.alloc (.cells #[.bool false, .int .u64 0, .bool false, .int .i64 0, .bool false, .int .u8 0, .int .i64 0] 38)) := (by repeat (first | (with_reducible exact Below.refl _ _) | (with_reducible apply Below.drew) | (with_reducible refine below_drewN ?_ _) | (with_reducible refine below_alloc' ?_ ?_ _; (focus ((try simp) <;> omega))) | (with_reducible refine below_set' ?_ ?_ _; (focus ((try simp) <;> omega))))); have hbr : (w.alloc (.cells #[.bool false, .int .u64 0, .bool false, .int .i64 0, .bool false, .int .u8 0, .int .i64 0] 38)).heap[w.heap.size]? = some (.cells #[.bool false, .int .u64 0, .bool false, .int .i64 0, .bool false, .int .u8 0, .int .i64 0] 38 (0, 0)) := (by simp [↓heap_alloc_eq, ↓heap_set_eq, ↓heap_drew_eq, ↓heap_drewN_eq, setObj, size_drewN]); have h1 := h.below l1; have hel := blk_lt h.obj; have hen : ¬ eb = w.heap.size := (by omega); have hpl := blk_lt (h.ths t x hx).obj; have hpn : ¬ (B.pt t).p = w.heap.size := (by omega)
  have HA := Lib.hid (all_to (h1.ths t x hx).log hf)
  have x1 := ((h.ths t x hx).cells 1 _ rfl).1
  have H1 := Lib.hid h1; have L1 := Lib.hid l1; have HBR := Lib.hid hbr; have HX := Lib.hid hx; have HAT := Lib.hid ha; have HTE := Lib.hid hte
  have HNUM := Lib.hid hnum
  clear h h1 l1 hbr ha hx hte hnum hf
  go_enter Try.func21, Try.ntmps21
  go_wp2_with fail
  refine HA.out.mono ?_
  rintro e w2 ⟨g, gc, rfl, hg, g0, g1, l2⟩
  have x7 := (((H1.out.below l2).ths t x HX.out).cells 7 _ rfl).1
  rw [HAT.out] at x7
  have H2 := Lib.hid (show EngAt lo w2.drew eb B E from (H1.out.below l2).below (Below.refl _ _).drew)
  have HB2 := Lib.hid (show w2.drew.heap[w.heap.size]? = _ from bblk l2 HBR.out)
  have L2 := Lib.hid (show Below w.heap.size w w2.drew from (btrans L1.out (Nat.le_refl _) l2).drew)
  clear l2 g0 g1 hg HA H1 L1 HBR x1
  go_wp2_with fail
  clear x7
  refine wp_region_tail 9 (by kernel_rfl) (by kernel_rfl) ?_; simp only [List.take_succ_cons, List.take_zero, List.drop_succ_cons, List.drop_zero]
  generalize w2.drew = WD at *
  have x3 := ((H2.out.ths t x HX.out).cells 3 _ rfl).1
  have e0 := blk_cell H2.out.obj 0; simp only [List.getElem?_toArray, List.getElem?_cons_zero, List.getElem?_cons_succ] at e0
  have HT := Lib.hid (Seq.try_any WD B.lb E.lk H2.out.linv H2.out.lock t x.snap)
  iterate 9 (with_reducible refine wpStill_step (fun KK hKK => ?_); go_simp; refine hKK _ ?_; clear hKK KK)
  with_reducible refine wpStill_nil ?_
  go_wp2_with fail
  refine HT.out.mono ?_
  rintro e w3 ⟨rfl, hl3, o3⟩
  rw [HTE.out]
  have h3 := H2.out.lkT o3 hl3 (Seq.inv_try H2.out.linv t x.snap)
  have O3 := Lib.hid (mut_trans (mut_below (lo := lo) L2.out) h3.2)
  have HB3 := Lib.hid (mut_keep h3.2 HB2.out (by decide))
  have hc := (h3.1.ths t x HX.out).cells
  obtain ⟨y7, f7⟩ := hc 7 _ rfl; obtain ⟨y9, f9⟩ := hc 9 _ rfl; obtain ⟨y12, f12⟩ := hc 12 _ rfl
  have hob := (h3.1.ths t x HX.out).obj
  have hT := att_turn h3.1 HX.out (w' := ((w3.setCell ⟨(B.pt t).p, 12, none⟩ (.bool true)).setCell ⟨(B.pt t).p, 7, none⟩ (.int .i64 2)).setCell ⟨(B.pt t).p, 9, none⟩ (.int .i64 0)) (y := { x with dec := true, at_ := 2, next := 0 })
    (by repeat (first | (with_reducible exact Only.refl _ _) | (with_reducible apply Only.drew) | (with_reducible apply Only.drewN) | (with_reducible apply Only.alloc) | (with_reducible refine only_set' ?_ ?_ _; (focus ((try simp) <;> omega))))) (by unfold attCells at hob ⊢; simp [↓heap_alloc_eq, ↓heap_set_eq, ↓heap_drew_eq, ↓heap_drewN_eq, setObj, size_drewN, hob]) rfl rfl (Below.refl _ _)
  have HTT := Lib.hid hT.1; have O4 := Lib.hid (mut_trans O3.out hT.2); have HB4 := Lib.hid (mut_keep hT.2 HB3.out (by decide))
  clear h3 hl3 o3 x3 e0 HT H2 HB2 L2 hob hT hc HB3 O3
  obtain ⟨pb, hpb⟩ : ∃ pb, (B.pt t).p = pb := ⟨_, rfl⟩
  have HPB := Lib.hid hpb
  rw [hpb] at y7 f7 y9 f9 y12 f12 HTT O4 HB4 ⊢
  clear hpb
  go_wp2_with fail
  obtain ⟨W5, hW5⟩ : ∃ W5, ((w3.setCell ⟨pb, 12, none⟩ (.bool true)).setCell ⟨pb, 7, none⟩ (.int .i64 2)).setCell ⟨pb, 9, none⟩ (.int .i64 0) = W5 := ⟨_, rfl⟩
  rw [hW5] at HTT O4 HB4 ⊢
  clear hW5 y7 f7 y9 f9 y12 f12
  have H6 := Lib.hid (HTT.out.below (show Below W5.heap.size W5 W5.drew from (Below.refl _ _).drew))
  have O6 := Lib.hid (mut_trans O4.out (mut_below (lo := lo) (show Below W5.heap.size W5 W5.drew from (Below.refl _ _).drew)))
  have HB6 := Lib.hid (show W5.drew.heap[w.heap.size]? = _ from HB4.out)
  clear HTT O4 HB4
  refine wp_region_tail 14 (by kernel_rfl) (by kernel_rfl) ?_; simp only [List.take_succ_cons, List.take_zero, List.drop_succ_cons, List.drop_zero]
  generalize W5.drew = WF at *
  obtain ⟨g, cap, hky, ⟨u, hu⟩, hfz, ⟨gcs, hg⟩, hst⟩ := H6.out.key (n := n) hny
  have hc := (H6.out.ths t _ (updT_same _ _ _)).cells
  have y2 := (hc 2 _ rfl).1; have y3 := (hc 3 _ rfl).1
  have e4 := blk_cell H6.out.obj 4; simp only [List.getElem?_toArray, List.getElem?_cons_zero, List.getElem?_cons_succ] at e4
  rw [hky] at e4
  rw [HPB.out] at y2 y3
  rw [HNUM.out] at y2
  have HST := Lib.hid hst
  have hn1 : (n : Int) < E.n := by omega
  have hn2 : ¬ (n : Int) < 0 := by omega
  have hbr6 := HB6.out
  have hgr : ¬ w.heap.size = g := blk_ne hbr6 hg (by decide)
  have r0 := blk_cell hbr6 0; have r1 := blk_cell hbr6 1; have r2 := blk_cell hbr6 2; have r3 := blk_cell hbr6 3; have r4 := blk_cell hbr6 4; have r5 := blk_cell hbr6 5; have r6 := blk_cell hbr6 6; have s0 := blk_free hbr6 0; have s1 := blk_free hbr6 1; have s2 := blk_free hbr6 2; have s3 := blk_free hbr6 3; have s4 := blk_free hbr6 4; have s5 := blk_free hbr6 5; have s6 := blk_free hbr6 6; simp only [List.getElem?_toArray, List.getElem?_cons_zero, List.getElem?_cons_succ] at r0 r1 r2 r3 r4 r5 r6
  clear hc hst hg hbr6
  iterate 14 (with_reducible refine wpStill_step (fun KK hKK => ?_); go_simp; refine hKK _ ?_; clear hKK KK)
  with_reducible refine wpStill_nil ?_
  go_wp2_with fail
  have hK := HST.out (.int .u64 (x.snap + 2))
  have hbr7 := mut_keep hK.2 HB6.out (by decide)
  have hfin := reply_end hK.1 (mut_trans O6.out hK.2) hbr7 (Nat.le_refl _) (repW_only _ w.heap.size false 0 false 0 false 0 0); have hz := repW_obj hbr7 false 0 false 0 false 0 0; refine bodyPost_ret (v := reply false 0 false 0 false 0 0) ?_ rfl ?_; (focus (refine (show (results _ _).run _ (repW _ w.heap.size false 0 false 0 false 0 0) = .ok _ (repW _ w.heap.size false 0 false 0 false 0 0) from ?_); have z0 := blk_cell hz 0; have z1 := blk_cell hz 1; have z2 := blk_cell hz 2; have z3 := blk_cell hz 3; have z4 := blk_cell hz 4; have z5 := blk_cell hz 5; have z6 := blk_cell hz 6; simp only [List.getElem?_toArray, List.getElem?_cons_zero, List.getElem?_cons_succ] at z0 z1 z2 z3 z4 z5 z6; simp [results, Try.results21, go_sem, z0, z1, z2, z3, z4, z5, z6, reply]; done))
  exact ⟨rfl, hfin.1, hfin.2⟩
set_option maxHeartbeats 3200000 in
theorem go2_any {lo : Nat} {w : World} {eb : Nat} {B : Bk} {E : Eng} (h : EngAt lo w eb B E) (t : Int) {x : T} (hx : E.th t = some x) (ha : x.at_ = 2) {rv : Int} (hf : x.fs = [[(0, rv)]]) (hn : x.next = 0) :
    Calls Try.prog 21 #[ptr eb, .int .i64 t, ptr (B.pt t).p] w (WPost lo w eb B { E with h := rv, th := updT E.th t (some { x with at_ := 3, next := 1 }) } (reply false 0 false 0 false 0 0)) := by
  have l1 : Below w.heap.size w (w.alloc (.cells #[.bool false, .int .u64 0, .bool false, .int .i64 0, .bool false, .int .u8 0, .int .i64 0] 38)) := (by repeat (first | (with_reducible exact Below.refl _ _) | (with_reducible apply Below.drew) | (with_reducible refine below_drewN ?_ _) | (with_reducible refine below_alloc' ?_ ?_ _; (focus ((try simp) <;> omega))) | (with_reducible refine below_set' ?_ ?_ _; (focus ((try simp) <;> omega))))); have hbr : (w.alloc (.cells #[.bool false, .int .u64 0, .bool false, .int .i64 0, .bool false, .int .u8 0, .int .i64 0] 38)).heap[w.heap.size]? = some (.cells #[.bool false, .int .u64 0, .bool false, .int .i64 0, .bool false, .int .u8 0, .int .i64 0] 38 (0, 0)) := (by simp [↓heap_alloc_eq, ↓heap_set_eq, ↓heap_drew_eq, ↓heap_drewN_eq, setObj, size_drewN]); have h1 := h.below l1; have hel := blk_lt h.obj; have hen : ¬ eb = w.heap.size := (by omega); have hpl := blk_lt (h.ths t x hx).obj; have hpn : ¬ (B.pt t).p = w.heap.size := (by omega)
  have HA := Lib.hid (all_to (h1.ths t x hx).log hf)
  have x1 := ((h.ths t x hx).cells 1 _ rfl).1
  have H1 := Lib.hid h1; have L1 := Lib.hid l1; have HBR := Lib.hid hbr; have HX := Lib.hid hx; have HAT := Lib.hid ha; have HN := Lib.hid hn
  clear h h1 l1 hbr ha hx hn hf
  go_enter Try.func21, Try.ntmps21
  go_wp2_with fail
  refine HA.out.mono ?_
  rintro e w2 ⟨g, gc, rfl, hg, g0, g1, l2⟩
  have x7 := (((H1.out.below l2).ths t x HX.out).cells 7 _ rfl).1
  rw [HAT.out] at x7
  have H2 := Lib.hid (show EngAt lo w2.drew eb B E from (H1.out.below l2).below (Below.refl _ _).drew)
  have HB2 := Lib.hid (show w2.drew.heap[w.heap.size]? = _ from bblk l2 HBR.out)
  have L2 := Lib.hid (show Below w.heap.size w w2.drew from (btrans L1.out (Nat.le_refl _) l2).drew)
  have G0 := Lib.hid (show w2.drew.cell? ⟨g, 0, none⟩ = _ from g0); have G1 := Lib.hid (show w2.drew.cell? ⟨g, 1, none⟩ = _ from g1)
  clear l2 g0 g1 hg HA H1 L1 HBR x1
  go_wp2_with fail
  clear x7
  refine wp_region_tail 20 (by kernel_rfl) (by kernel_rfl) ?_; simp only [List.take_succ_cons, List.take_zero, List.drop_succ_cons, List.drop_zero]
  generalize w2.drew = WD at *
  have hc := (H2.out.ths t x HX.out).cells
  obtain ⟨y7, f7⟩ := hc 7 _ rfl; obtain ⟨y9, f9⟩ := hc 9 _ rfl
  rw [HN.out] at y9
  have e1 := blk_cell H2.out.obj 1; simp only [List.getElem?_toArray, List.getElem?_cons_zero, List.getElem?_cons_succ] at e1
  have g0 := G0.out; have g1 := G1.out
  obtain ⟨v0, fv0, ⟨hcs, hhg⟩, hv⟩ := H2.out.val
  have hV := hv rv
  have hpo := (H2.out.ths t x HX.out).obj
  have hpg : ¬ (B.pt t).p = B.hg := blk_ne hpo hhg (by decide)
  have hrg : ¬ w.heap.size = B.hg := blk_ne HB2.out hhg (by decide)
  have hob := (hV.1.ths t x HX.out).obj
  have hT := att_turn hV.1 HX.out (w' := (((WD.setCell ⟨B.hg, 0, none⟩ (.int .u64 rv)).setCell ⟨(B.pt t).p, 9, none⟩ (.int .i64 1)).setCell ⟨(B.pt t).p, 7, none⟩ (.int .i64 3))) (y := { x with at_ := 3, next := 1 })
    (by repeat (first | (with_reducible exact Only.refl _ _) | (with_reducible apply Only.drew) | (with_reducible apply Only.drewN) | (with_reducible apply Only.alloc) | (with_reducible refine only_set' ?_ ?_ _; (focus ((try simp) <;> omega))))) ?hblk rfl rfl (Below.refl _ _)
  case hblk =>
    generalize WD.setCell ⟨B.hg, 0, none⟩ (.int .u64 rv) = W9 at *
    unfold attCells at hob ⊢
    simp [↓heap_alloc_eq, ↓heap_set_eq, ↓heap_drew_eq, ↓heap_drewN_eq, setObj, size_drewN, hob, HN.out]
  have OT := Lib.hid (mut_trans (mut_below (lo := lo) L2.out) (mut_trans hV.2 hT.2))
  have HB3 := Lib.hid (mut_keep hT.2 (mut_keep hV.2 HB2.out (by decide)) (by decide))
  have hbr2 := HB2.out
  have r0 := blk_cell hbr2 0; have r1 := blk_cell hbr2 1; have r2 := blk_cell hbr2 2; have r3 := blk_cell hbr2 3; have r4 := blk_cell hbr2 4; have r5 := blk_cell hbr2 5; have r6 := blk_cell hbr2 6; have s0 := blk_free hbr2 0; have s1 := blk_free hbr2 1; have s2 := blk_free hbr2 2; have s3 := blk_free hbr2 3; have s4 := blk_free hbr2 4; have s5 := blk_free hbr2 5; have s6 := blk_free hbr2 6; simp only [List.getElem?_toArray, List.getElem?_cons_zero, List.getElem?_cons_succ] at r0 r1 r2 r3 r4 r5 r6
  have HTT := Lib.hid hT.1
  clear hc hv hV hpo hob hT hbr2 hhg H2 L2 HB2 G0 G1
  generalize (B.pt t).p = pb at *
  iterate 20 (with_reducible refine wpStill_step (fun KK hKK => ?_); go_simp; refine hKK _ ?_; clear hKK KK)
  with_reducible refine wpStill_nil ?_
  go_wp2_with fail
  have hfin := reply_end HTT.out OT.out HB3.out (Nat.le_refl _) (repW_only _ w.heap.size false 0 false 0 false 0 0); have hz := repW_obj HB3.out false 0 false 0 false 0 0; refine bodyPost_ret (v := reply false 0 false 0 false 0 0) ?_ rfl ?_; (focus (refine (show (results _ _).run _ (repW _ w.heap.size false 0 false 0 false 0 0) = .ok _ (repW _ w.heap.size false 0 false 0 false 0 0) from ?_); have z0 := blk_cell hz 0; have z1 := blk_cell hz 1; have z2 := blk_cell hz 2; have z3 := blk_cell hz 3; have z4 := blk_cell hz 4; have z5 := blk_cell hz 5; have z6 := blk_cell hz 6; simp only [List.getElem?_toArray, List.getElem?_cons_zero, List.getElem?_cons_succ] at z0 z1 z2 z3 z4 z5 z6; simp [results, Try.results21, go_sem, z0, z1, z2, z3, z4, z5, z6, reply]; done))
  exact ⟨rfl, hfin.1, hfin.2⟩
end Go.Proofs.Ytgjemjogncnbnaa.Tad
