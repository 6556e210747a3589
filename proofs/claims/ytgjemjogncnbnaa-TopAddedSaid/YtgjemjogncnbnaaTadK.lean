/- The engine: again, at its other places. -/
import Derived.Test.YtgjemjogncnbnaaTadJ
namespace Go.Proofs.Ytgjemjogncnbnaa.Tad
open Go.RowKit
set_option linter.unusedSimpArgs false
set_option linter.unusedVariables false
set_option maxRecDepth 50000

/-- what was read: nothing, or the variable -/
def OneE (es : List Rd.Ent) : Prop := es = [] ∨ ∃ v, 0 ≤ v ∧ v < 18446744073709551616 ∧ Wri.rightVal v = true ∧ es = [(0, v, 0)]
theorem OneE.len {es : List Rd.Ent} (h : OneE es) : es.length ≤ 1 := by
  rcases h with rfl | ⟨v, _, _, _, rfl⟩ <;> simp
theorem OneE.wf {es : List Rd.Ent} (h : OneE es) : Rd.WfE es := by
  rcases h with rfl | ⟨v, h1, h2, h3, rfl⟩
  · exact Rd.WfE.nil
  · exact ⟨by simp, fun e he => by simp at he; subst he; exact ⟨⟨(by show (0 : Int) ≤ 0; decide), (by show (0 : Int) < 12; decide)⟩, h1, h2⟩⟩
set_option maxHeartbeats 3200000 in
theorem again5_end {lo : Nat} {w : World} {eb : Nat} {B : Bk} {E : Eng} (h : EngAt lo w eb B E) (t : Int) {x : T} (hx : E.th t = some x) (ha : x.at_ = 5) (he : OneE x.es) (hn : x.next = x.es.length) :
    Calls Try.prog 19 #[ptr eb, .int .i64 t, ptr (B.pt t).p] w (WPost lo w eb B { E with th := updT E.th t (some { x with at_ := 6 }) } (reply false 0 false 0 false 0 0)) := by
  have l1 : Below w.heap.size w (w.alloc (.cells #[.bool false, .int .u64 0, .bool false, .int .i64 0, .bool false, .int .u8 0, .int .i64 0] 38)) := (by repeat (first | (with_reducible exact Below.refl _ _) | (with_reducible apply Below.drew) | (with_reducible refine below_drewN ?_ _) | (with_reducible refine below_alloc' ?_ ?_ _; (focus ((try simp) <;> omega))) | (with_reducible refine below_set' ?_ ?_ _; (focus ((try simp) <;> omega))))); have hbr : (w.alloc (.cells #[.bool false, .int .u64 0, .bool false, .int .i64 0, .bool false, .int .u8 0, .int .i64 0] 38)).heap[w.heap.size]? = some (.cells #[.bool false, .int .u64 0, .bool false, .int .i64 0, .bool false, .int .u8 0, .int .i64 0] 38 (0, 0)) := (by simp [↓heap_alloc_eq, ↓heap_set_eq, ↓heap_drew_eq, ↓heap_drewN_eq, setObj, size_drewN]); have h1 := h.below l1; have hel := blk_lt h.obj; have hen : ¬ eb = w.heap.size := (by omega); have hpl := blk_lt (h.ths t x hx).obj; have hpn : ¬ (B.pt t).p = w.heap.size := (by omega)
  have HS := Lib.hid (Rd.list_any _ _ _ _ (h1.ths t x hx).set.at he.wf)
  have hc := (h.ths t x hx).cells
  have x7 := (hc 7 _ rfl).1; have x0 := (hc 0 _ rfl).1
  rw [ha] at x7
  have H1 := Lib.hid h1; have L1 := Lib.hid l1; have HBR := Lib.hid hbr; have HX := Lib.hid hx
  clear h h1 l1 hbr ha hx hc
  go_enter Try.func19, Try.ntmps19
  go_wp2_with fail
  refine HS.out.mono ?_
  rintro e w2 ⟨v, rfl, hv, l2⟩
  obtain ⟨va, vc, rfl⟩ := ownsRow_slice hv
  have h2 := H1.out.below l2
  have hbr2 := bblk l2 HBR.out
  have hc := (h2.ths t x HX.out).cells
  obtain ⟨x7', f7⟩ := hc 7 _ rfl; obtain ⟨x9, f9⟩ := hc 9 _ rfl
  rw [hn] at x9
  have hob := (h2.ths t x HX.out).obj
  have hT := att_turn h2 HX.out (w' := w2.setCell ⟨(B.pt t).p, 7, none⟩ (.int .i64 6)) (y := { x with at_ := 6 })
    (by repeat (first | (with_reducible exact Only.refl _ _) | (with_reducible apply Only.drew) | (with_reducible apply Only.drewN) | (with_reducible apply Only.alloc) | (with_reducible refine only_set' ?_ ?_ _; (focus ((try simp) <;> omega))))) (by unfold attCells at hob ⊢; simp [↓heap_alloc_eq, ↓heap_set_eq, ↓heap_drew_eq, ↓heap_drewN_eq, setObj, size_drewN, hob]) rfl rfl (Below.refl _ _)
  have hbr3 := mut_keep hT.2 hbr2 (by decide)
  have L2 := Lib.hid (btrans L1.out (Nat.le_refl _) l2)
  have HB3 := Lib.hid hbr3; have HT := Lib.hid hT.1; have OT := Lib.hid (mut_trans (mut_below L2.out) hT.2)
  have r0 := blk_cell hbr2 0; have r1 := blk_cell hbr2 1; have r2 := blk_cell hbr2 2; have r3 := blk_cell hbr2 3; have r4 := blk_cell hbr2 4; have r5 := blk_cell hbr2 5; have r6 := blk_cell hbr2 6; have s0 := blk_free hbr2 0; have s1 := blk_free hbr2 1; have s2 := blk_free hbr2 2; have s3 := blk_free hbr2 3; have s4 := blk_free hbr2 4; have s5 := blk_free hbr2 5; have s6 := blk_free hbr2 6; simp only [List.getElem?_toArray, List.getElem?_cons_zero, List.getElem?_cons_succ] at r0 r1 r2 r3 r4 r5 r6
  clear h2 hbr2 l2 x7 x0 hc hob hT hbr3 hpl hel hv HS he
  generalize (B.pt t).p = pb at *
  generalize x.es.length = nn at *
  go_wp2_with fail
  have hfin := reply_end HT.out OT.out HB3.out (Nat.le_refl _) (repW_only _ w.heap.size false 0 false 0 false 0 0); have hz := repW_obj HB3.out false 0 false 0 false 0 0; refine bodyPost_ret (v := reply false 0 false 0 false 0 0) ?_ rfl ?_; (focus (refine (show (results _ _).run _ (repW _ w.heap.size false 0 false 0 false 0 0) = .ok _ (repW _ w.heap.size false 0 false 0 false 0 0) from ?_); have z0 := blk_cell hz 0; have z1 := blk_cell hz 1; have z2 := blk_cell hz 2; have z3 := blk_cell hz 3; have z4 := blk_cell hz 4; have z5 := blk_cell hz 5; have z6 := blk_cell hz 6; simp only [List.getElem?_toArray, List.getElem?_cons_zero, List.getElem?_cons_succ] at z0 z1 z2 z3 z4 z5 z6; simp [results, Try.results19, go_sem, z0, z1, z2, z3, z4, z5, z6, reply]; done))
  exact ⟨rfl, hfin.1, hfin.2⟩
theorem ents_one {Bs : Nat} {w : World} {v : Value} {rv : Int} (h : Rd.EntsAt Bs w v [(0, rv, 0)]) : ∃ g c, v = .slice (some ⟨g, 0, none⟩) 1 c ∧ Bs ≤ g ∧ w.cell? ⟨g, 0, none⟩ = some (.int .i64 0) ∧ w.cell? ⟨g, 1, none⟩ = some (.int .u64 rv) := by
  have hc := fun (g : Nat) (hg : v.ownBlock = some g) (j : Nat) (u : Value) => h.cells (g := g) hg j u
  rcases h.2 with ⟨_, h0⟩ | ⟨g, cap, cur, rfl, hb, _⟩
  · cases h0
  · have h0 := hc g rfl 0 (.int .i64 0) rfl
    have h1 := hc g rfl 1 (.int .u64 rv) rfl
    rw [Addr.add_lit] at h0 h1
    exact ⟨g, cap, rfl, hb, h0, h1⟩
set_option maxHeartbeats 3200000 in
theorem again5_same {lo : Nat} {w : World} {eb : Nat} {B : Bk} {E : Eng} (h : EngAt lo w eb B E) (t : Int) {x : T} (hx : E.th t = some x) (ha : x.at_ = 5) {rv : Int} (h1v : 0 ≤ rv) (h2v : rv < 18446744073709551616) (h3v : Wri.rightVal rv = true) (he : x.es = [(0, rv, 0)]) (hn : x.next = 0) (hh : E.h = rv) :
    Calls Try.prog 19 #[ptr eb, .int .i64 t, ptr (B.pt t).p] w (WPost lo w eb B { E with th := updT E.th t (some { x with next := 1 }) } (reply false 0 false 0 false 0 0)) := by
  have l1 : Below w.heap.size w (w.alloc (.cells #[.bool false, .int .u64 0, .bool false, .int .i64 0, .bool false, .int .u8 0, .int .i64 0] 38)) := (by repeat (first | (with_reducible exact Below.refl _ _) | (with_reducible apply Below.drew) | (with_reducible refine below_drewN ?_ _) | (with_reducible refine below_alloc' ?_ ?_ _; (focus ((try simp) <;> omega))) | (with_reducible refine below_set' ?_ ?_ _; (focus ((try simp) <;> omega))))); have hbr : (w.alloc (.cells #[.bool false, .int .u64 0, .bool false, .int .i64 0, .bool false, .int .u8 0, .int .i64 0] 38)).heap[w.heap.size]? = some (.cells #[.bool false, .int .u64 0, .bool false, .int .i64 0, .bool false, .int .u8 0, .int .i64 0] 38 (0, 0)) := (by simp [↓heap_alloc_eq, ↓heap_set_eq, ↓heap_drew_eq, ↓heap_drewN_eq, setObj, size_drewN]); have h1 := h.below l1; have hel := blk_lt h.obj; have hen : ¬ eb = w.heap.size := (by omega); have hpl := blk_lt (h.ths t x hx).obj; have hpn : ¬ (B.pt t).p = w.heap.size := (by omega)
  have HS := Lib.hid (Rd.list_any _ _ _ _ (h1.ths t x hx).set.at (OneE.wf (.inr ⟨rv, h1v, h2v, h3v, he⟩)))
  rw [he] at HS
  have hc := (h.ths t x hx).cells
  have x7 := (hc 7 _ rfl).1; have x0 := (hc 0 _ rfl).1
  rw [ha] at x7
  have HSM := Lib.hid (fun W => same_any W rv rv ⟨h1v, h2v⟩ ⟨h1v, h2v⟩ h3v h3v)
  rw [show (rv == rv) = true by simp] at HSM
  have H1 := Lib.hid h1; have L1 := Lib.hid l1; have HBR := Lib.hid hbr; have HX := Lib.hid hx
  clear h h1 l1 hbr ha hx hc
  go_enter Try.func19, Try.ntmps19
  go_wp2_with fail
  refine HS.out.mono ?_
  rintro e w2 ⟨v, rfl, hv, l2⟩
  obtain ⟨g, vc, rfl, hg, g0, g1⟩ := ents_one hv
  have x9 := (((H1.out.below l2).ths t x HX.out).cells 9 _ rfl).1
  rw [hn] at x9
  have H2 := Lib.hid (show EngAt lo w2.drew eb B E from (H1.out.below l2).below (Below.refl _ _).drew)
  have HB2 := Lib.hid (show w2.drew.heap[w.heap.size]? = _ from bblk l2 HBR.out)
  have L2 := Lib.hid (show Below w.heap.size w w2.drew from (btrans L1.out (Nat.le_refl _) l2).drew)
  have G0 := Lib.hid (show w2.drew.cell? ⟨g, 0, none⟩ = _ from g0)
  have G1 := Lib.hid (show w2.drew.cell? ⟨g, 1, none⟩ = _ from g1)
  clear l2 x7 x0 hpl hel hv HS hg g0 g1 H1 L1 HBR
  go_wp2_with fail
  clear x9
  refine wp_region_tail 23 (by kernel_rfl) (by kernel_rfl) ?_; simp only [List.take_succ_cons, List.take_zero, List.drop_succ_cons, List.drop_zero]
  generalize w2.drew = WD at *
  have h2 := H2.out; have hbr2 := HB2.out
  have hc := (h2.ths t x HX.out).cells
  obtain ⟨x9, f9⟩ := hc 9 _ rfl
  rw [hn] at x9
  have e1 := blk_cell h2.obj 1; simp only [List.getElem?_toArray, List.getElem?_cons_zero, List.getElem?_cons_succ] at e1
  have hv0 := h2.val.1
  rw [hh] at hv0
  have g0 := G0.out; have g1 := G1.out
  have hob := (h2.ths t x HX.out).obj
  have hT := att_turn h2 HX.out (w' := WD.setCell ⟨(B.pt t).p, 9, none⟩ (.int .i64 1)) (y := { x with next := 1 })
    (by repeat (first | (with_reducible exact Only.refl _ _) | (with_reducible apply Only.drew) | (with_reducible apply Only.drewN) | (with_reducible apply Only.alloc) | (with_reducible refine only_set' ?_ ?_ _; (focus ((try simp) <;> omega))))) (by unfold attCells at hob ⊢; simp [↓heap_alloc_eq, ↓heap_set_eq, ↓heap_drew_eq, ↓heap_drewN_eq, setObj, size_drewN, hob]) rfl rfl (Below.refl _ _)
  have hbr3 := mut_keep hT.2 hbr2 (by decide)
  have HB3 := Lib.hid hbr3; have HT := Lib.hid hT.1; have OT := Lib.hid (mut_trans (mut_below L2.out) hT.2)
  have r0 := blk_cell hbr2 0; have r1 := blk_cell hbr2 1; have r2 := blk_cell hbr2 2; have r3 := blk_cell hbr2 3; have r4 := blk_cell hbr2 4; have r5 := blk_cell hbr2 5; have r6 := blk_cell hbr2 6; have s0 := blk_free hbr2 0; have s1 := blk_free hbr2 1; have s2 := blk_free hbr2 2; have s3 := blk_free hbr2 3; have s4 := blk_free hbr2 4; have s5 := blk_free hbr2 5; have s6 := blk_free hbr2 6; simp only [List.getElem?_toArray, List.getElem?_cons_zero, List.getElem?_cons_succ] at r0 r1 r2 r3 r4 r5 r6
  clear h2 hbr2 hc hob hT hbr3 H2 HB2 L2 G0 G1 he
  generalize (B.pt t).p = pb at *
  iterate 22 (with_reducible refine wpStill_step (fun KK hKK => ?_); go_simp; refine hKK _ ?_; clear hKK KK)
  with_reducible refine wpStill_step (fun KK hKK => ?_); go_simp; refine ⟨_, ((HSM.out _).mono (fun e w' h => ⟨h.1, h.2.symm⟩)), hKK _ ?_⟩; clear hKK KK
  with_reducible refine wpStill_nil ?_
  clear g0 g1 e1 hv0 HSM
  go_wp2_with fail
  have hfin := reply_end HT.out OT.out HB3.out (Nat.le_refl _) (repW_only _ w.heap.size false 0 false 0 false 0 0); have hz := repW_obj HB3.out false 0 false 0 false 0 0; refine bodyPost_ret (v := reply false 0 false 0 false 0 0) ?_ rfl ?_; (focus (refine (show (results _ _).run _ (repW _ w.heap.size false 0 false 0 false 0 0) = .ok _ (repW _ w.heap.size false 0 false 0 false 0 0) from ?_); have z0 := blk_cell hz 0; have z1 := blk_cell hz 1; have z2 := blk_cell hz 2; have z3 := blk_cell hz 3; have z4 := blk_cell hz 4; have z5 := blk_cell hz 5; have z6 := blk_cell hz 6; simp only [List.getElem?_toArray, List.getElem?_cons_zero, List.getElem?_cons_succ] at z0 z1 z2 z3 z4 z5 z6; simp [results, Try.results19, go_sem, z0, z1, z2, z3, z4, z5, z6, reply]; done))
  exact ⟨rfl, hfin.1, hfin.2⟩
set_option maxHeartbeats 3200000 in
theorem again5_diff {lo : Nat} {w : World} {eb : Nat} {B : Bk} {E : Eng} (h : EngAt lo w eb B E) (hlo : lo ≤ w.heap.size) (hm : E.m ≤ 1000000) (t : Int) (t0 : 0 ≤ t) (t3 : t < 3) {x : T} (hx : E.th t = some x) (ha : x.at_ = 5) {rv : Int} (h1v : 0 ≤ rv) (h2v : rv < 18446744073709551616) (h3v : Wri.rightVal rv = true) (he : x.es = [(0, rv, 0)]) (hn : x.next = 0) {hv : Int} (hh : E.h = hv) (k1 : 0 ≤ hv) (k2 : hv < 18446744073709551616) (k3 : Wri.rightVal hv = true) (hne : (hv == rv) = false) (how : E.lk.own ≠ some t) {n : Nat} (hnum : x.num = n) (hny : n < E.y) (hy : E.y ≤ 1000) :
    Calls Try.prog 19 #[ptr eb, .int .i64 t, ptr (B.pt t).p] w (RPost lo w eb { E with m := E.m + 1, th := updT E.th t none } (reply true 0 false 0 true 1 0)) := by
  have l1 : Below w.heap.size w (w.alloc (.cells #[.bool false, .int .u64 0, .bool false, .int .i64 0, .bool false, .int .u8 0, .int .i64 0] 38)) := (by repeat (first | (with_reducible exact Below.refl _ _) | (with_reducible apply Below.drew) | (with_reducible refine below_drewN ?_ _) | (with_reducible refine below_alloc' ?_ ?_ _; (focus ((try simp) <;> omega))) | (with_reducible refine below_set' ?_ ?_ _; (focus ((try simp) <;> omega))))); have hbr : (w.alloc (.cells #[.bool false, .int .u64 0, .bool false, .int .i64 0, .bool false, .int .u8 0, .int .i64 0] 38)).heap[w.heap.size]? = some (.cells #[.bool false, .int .u64 0, .bool false, .int .i64 0, .bool false, .int .u8 0, .int .i64 0] 38 (0, 0)) := (by simp [↓heap_alloc_eq, ↓heap_set_eq, ↓heap_drew_eq, ↓heap_drewN_eq, setObj, size_drewN]); have h1 := h.below l1; have hel := blk_lt h.obj; have hen : ¬ eb = w.heap.size := (by omega); have hpl := blk_lt (h.ths t x hx).obj; have hpn : ¬ (B.pt t).p = w.heap.size := (by omega)
  have HS := Lib.hid (Rd.list_any _ _ _ _ (h1.ths t x hx).set.at (OneE.wf (.inr ⟨rv, h1v, h2v, h3v, he⟩)))
  rw [he] at HS
  have hc := (h.ths t x hx).cells
  have x7 := (hc 7 _ rfl).1; have x0 := (hc 0 _ rfl).1
  rw [ha] at x7
  have HSM := Lib.hid (fun W => same_any W hv rv ⟨k1, k2⟩ ⟨h1v, h2v⟩ k3 h3v)
  rw [hne] at HSM
  have H1 := Lib.hid h1; have L1 := Lib.hid l1; have HBR := Lib.hid hbr; have HX := Lib.hid hx
  clear h h1 l1 hbr ha hx hc
  go_enter Try.func19, Try.ntmps19
  go_wp2_with fail
  refine HS.out.mono ?_
  rintro e w2 ⟨v, rfl, hvv, l2⟩
  obtain ⟨g, vc, rfl, hg, g0, g1⟩ := ents_one hvv
  have x9 := (((H1.out.below l2).ths t x HX.out).cells 9 _ rfl).1
  rw [hn] at x9
  have H2 := Lib.hid (show EngAt lo w2.drew eb B E from (H1.out.below l2).below (Below.refl _ _).drew)
  have HB2 := Lib.hid (show w2.drew.heap[w.heap.size]? = _ from bblk l2 HBR.out)
  have L2 := Lib.hid (show Below w.heap.size w w2.drew from (btrans L1.out (Nat.le_refl _) l2).drew)
  have G0 := Lib.hid (show w2.drew.cell? ⟨g, 0, none⟩ = _ from g0)
  have G1 := Lib.hid (show w2.drew.cell? ⟨g, 1, none⟩ = _ from g1)
  clear l2 x7 x0 hpl hel hvv HS hg g0 g1 H1 L1 HBR
  go_wp2_with fail
  clear x9
  refine wp_region_tail 23 (by kernel_rfl) (by kernel_rfl) ?_; simp only [List.take_succ_cons, List.take_zero, List.drop_succ_cons, List.drop_zero]
  generalize w2.drew = WD at *
  have h2 := H2.out; have hbr2 := HB2.out
  have hc := (h2.ths t x HX.out).cells
  have x9 := (hc 9 _ rfl).1
  rw [hn] at x9
  have e1 := blk_cell h2.obj 1; simp only [List.getElem?_toArray, List.getElem?_cons_zero, List.getElem?_cons_succ] at e1
  have hv0 := h2.val.1
  rw [hh] at hv0
  have g0 := G0.out; have g1 := G1.out
  have HE := Lib.hid (end_any h2 (Nat.le_trans hlo L2.out.size) hm t t0 t3 HX.out how hnum hny hy 1)
  clear h2 hbr2 hc H2 G0 G1 he
  generalize (B.pt t).p = pb at *
  iterate 22 (with_reducible refine wpStill_step (fun KK hKK => ?_); go_simp; refine hKK _ ?_; clear hKK KK)
  with_reducible refine wpStill_step (fun KK hKK => ?_); go_simp; refine ⟨_, ((HSM.out _).mono (fun e w' h => ⟨h.1, h.2.symm⟩)), hKK _ ?_⟩; clear hKK KK
  with_reducible refine wpStill_nil ?_
  clear g0 g1 e1 hv0 HSM x9
  go_wp2_with fail
  refine HE.out.mono ?_
  rintro e w3 ⟨rfl, ⟨B3, hE⟩, o3⟩
  have hbr3 := mut_keep o3 HB2.out (by decide)
  have HE3 := Lib.hid hE; have O3 := Lib.hid (mut_trans (mut_below L2.out) o3); have HB3 := Lib.hid hbr3
  have r0 := blk_cell hbr3 0; have r1 := blk_cell hbr3 1; have r2 := blk_cell hbr3 2; have r3 := blk_cell hbr3 3; have r4 := blk_cell hbr3 4; have r5 := blk_cell hbr3 5; have r6 := blk_cell hbr3 6; have s0 := blk_free hbr3 0; have s1 := blk_free hbr3 1; have s2 := blk_free hbr3 2; have s3 := blk_free hbr3 3; have s4 := blk_free hbr3 4; have s5 := blk_free hbr3 5; have s6 := blk_free hbr3 6; simp only [List.getElem?_toArray, List.getElem?_cons_zero, List.getElem?_cons_succ] at r0 r1 r2 r3 r4 r5 r6
  clear hE o3 hbr3 HB2 L2 HE
  unfold reply
  go_wp2_with fail
  have hfin := reply_end HE3.out O3.out HB3.out (Nat.le_refl _) (repW_only _ w.heap.size true 0 false 0 true 1 0); have hz := repW_obj HB3.out true 0 false 0 true 1 0; refine bodyPost_ret (v := reply true 0 false 0 true 1 0) ?_ rfl ?_; (focus (refine (show (results _ _).run _ (repW _ w.heap.size true 0 false 0 true 1 0) = .ok _ (repW _ w.heap.size true 0 false 0 true 1 0) from ?_); have z0 := blk_cell hz 0; have z1 := blk_cell hz 1; have z2 := blk_cell hz 2; have z3 := blk_cell hz 3; have z4 := blk_cell hz 4; have z5 := blk_cell hz 5; have z6 := blk_cell hz 6; simp only [List.getElem?_toArray, List.getElem?_cons_zero, List.getElem?_cons_succ] at z0 z1 z2 z3 z4 z5 z6; simp [results, Try.results19, go_sem, z0, z1, z2, z3, z4, z5, z6, reply]; done))
  exact ⟨rfl, ⟨_, hfin.1⟩, hfin.2⟩
end Go.Proofs.Ytgjemjogncnbnaa.Tad
