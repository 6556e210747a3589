/- The engine: again, at its first place. -/
import Derived.Test.YtgjemjogncnbnaaTadI
namespace Go.Proofs.Ytgjemjogncnbnaa.Tad
open Go.RowKit
set_option linter.unusedSimpArgs false
set_option linter.unusedVariables false
set_option maxRecDepth 50000

def WPost (lo : Nat) (w : World) (eb : Nat) (B : Bk) (E' : Eng) (R : Value) (e : Ending) (w' : World) : Prop := e = .returned R ∧ EngAt lo w' eb B E' ∧ Only (Mut lo w) w w'
set_option maxHeartbeats 3200000 in
theorem again4_busy {lo : Nat} {w : World} {eb : Nat} {B : Bk} {E : Eng} (h : EngAt lo w eb B E) (t : Int) {x : T} (hx : E.th t = some x) (ha : x.at_ = 4) {o : Int} (ho : E.lk.own = some o) :
    Calls Try.prog 19 #[ptr eb, .int .i64 t, ptr (B.pt t).p] w (WPost lo w eb B E (reply false 0 true o false 0 0)) := by
  have l1 : Below w.heap.size w (w.alloc (.cells #[.bool false, .int .u64 0, .bool false, .int .i64 0, .bool false, .int .u8 0, .int .i64 0] 38)) := (by repeat (first | (with_reducible exact Below.refl _ _) | (with_reducible apply Below.drew) | (with_reducible refine below_drewN ?_ _) | (with_reducible refine below_alloc' ?_ ?_ _; (focus ((try simp) <;> omega))) | (with_reducible refine below_set' ?_ ?_ _; (focus ((try simp) <;> omega))))); have hbr : (w.alloc (.cells #[.bool false, .int .u64 0, .bool false, .int .i64 0, .bool false, .int .u8 0, .int .i64 0] 38)).heap[w.heap.size]? = some (.cells #[.bool false, .int .u64 0, .bool false, .int .i64 0, .bool false, .int .u8 0, .int .i64 0] 38 (0, 0)) := (by simp [↓heap_alloc_eq, ↓heap_set_eq, ↓heap_drew_eq, ↓heap_drewN_eq, setObj, size_drewN]); have h1 := h.below l1; have hel := blk_lt h.obj; have hen : ¬ eb = w.heap.size := (by omega); have hpl := blk_lt (h.ths t x hx).obj; have hpn : ¬ (B.pt t).p = w.heap.size := (by omega)
  have HS := Lib.hid (Seq.snap_any _ B.lb E.lk h1.lock)
  have HSE := Lib.hid (show E.lk.snapE = 7 by unfold Seq.St.snapE; rw [ho]; rfl)
  have HSV := Lib.hid (show E.lk.snapV = 0 by unfold Seq.St.snapV; rw [ho]; rfl)
  have HOV := Lib.hid (show E.lk.ownV = o by unfold Seq.St.ownV; rw [ho]; rfl)
  have x7 := ((h.ths t x hx).cells 7 _ rfl).1
  rw [ha] at x7
  have e0 := blk_cell h.obj 0; simp only [List.getElem?_toArray, List.getElem?_cons_zero, List.getElem?_cons_succ] at e0
  have H1 := Lib.hid h1; have L1 := Lib.hid l1; have HBR := Lib.hid hbr
  clear h h1 hx l1 hbr ha ho
  generalize (B.pt t).p = pb at *
  go_enter Try.func19, Try.ntmps19
  go_wp2_with fail
  refine HS.out.mono ?_
  rintro e w2 ⟨rfl, l2⟩
  rw [HSE.out, HSV.out]
  have h2 := H1.out.below l2
  have hbr2 := bblk l2 HBR.out
  have HB := Lib.hid (Seq.owner_any w2 B.lb E.lk h2.lock)
  have e0' := blk_cell h2.obj 0; simp only [List.getElem?_toArray, List.getElem?_cons_zero, List.getElem?_cons_succ] at e0'
  have HB2 := Lib.hid hbr2; have H2 := Lib.hid h2; have L2 := Lib.hid (btrans L1.out (Nat.le_refl _) l2)
  have r0 := blk_cell hbr2 0; have r1 := blk_cell hbr2 1; have r2 := blk_cell hbr2 2; have r3 := blk_cell hbr2 3; have r4 := blk_cell hbr2 4; have r5 := blk_cell hbr2 5; have r6 := blk_cell hbr2 6; have s0 := blk_free hbr2 0; have s1 := blk_free hbr2 1; have s2 := blk_free hbr2 2; have s3 := blk_free hbr2 3; have s4 := blk_free hbr2 4; have s5 := blk_free hbr2 5; have s6 := blk_free hbr2 6; simp only [List.getElem?_toArray, List.getElem?_cons_zero, List.getElem?_cons_succ] at r0 r1 r2 r3 r4 r5 r6
  clear h2 hbr2 l2 e0 x7
  go_wp2_with fail
  refine HB.out.mono ?_
  rintro e w3 ⟨rfl, rfl⟩
  rw [HOV.out]
  go_wp2_with fail
  have hfin := reply_end H2.out (mut_below L2.out) HB2.out (Nat.le_refl _) (repW_only _ w.heap.size false 0 true o false 0 0); have hz := repW_obj HB2.out false 0 true o false 0 0; refine bodyPost_ret (v := reply false 0 true o false 0 0) ?_ rfl ?_; (focus (refine (show (results _ _).run _ (repW _ w.heap.size false 0 true o false 0 0) = .ok _ (repW _ w.heap.size false 0 true o false 0 0) from ?_); have z0 := blk_cell hz 0; have z1 := blk_cell hz 1; have z2 := blk_cell hz 2; have z3 := blk_cell hz 3; have z4 := blk_cell hz 4; have z5 := blk_cell hz 5; have z6 := blk_cell hz 6; simp only [List.getElem?_toArray, List.getElem?_cons_zero, List.getElem?_cons_succ] at z0 z1 z2 z3 z4 z5 z6; simp [results, Try.results19, go_sem, z0, z1, z2, z3, z4, z5, z6, reply]; done))
  exact ⟨rfl, hfin.1, hfin.2⟩
set_option maxHeartbeats 3200000 in
theorem again4_free {lo : Nat} {w : World} {eb : Nat} {B : Bk} {E : Eng} (h : EngAt lo w eb B E) (t : Int) {x : T} (hx : E.th t = some x) (ha : x.at_ = 4) (ho : E.lk.own = none) :
    Calls Try.prog 19 #[ptr eb, .int .i64 t, ptr (B.pt t).p] w (WPost lo w eb B { E with th := updT E.th t (some { x with seen := E.lk.cnt, at_ := 5, next := 0 }) } (reply false 0 false 0 false 0 0)) := by
  have l1 : Below w.heap.size w (w.alloc (.cells #[.bool false, .int .u64 0, .bool false, .int .i64 0, .bool false, .int .u8 0, .int .i64 0] 38)) := (by repeat (first | (with_reducible exact Below.refl _ _) | (with_reducible apply Below.drew) | (with_reducible refine below_drewN ?_ _) | (with_reducible refine below_alloc' ?_ ?_ _; (focus ((try simp) <;> omega))) | (with_reducible refine below_set' ?_ ?_ _; (focus ((try simp) <;> omega))))); have hbr : (w.alloc (.cells #[.bool false, .int .u64 0, .bool false, .int .i64 0, .bool false, .int .u8 0, .int .i64 0] 38)).heap[w.heap.size]? = some (.cells #[.bool false, .int .u64 0, .bool false, .int .i64 0, .bool false, .int .u8 0, .int .i64 0] 38 (0, 0)) := (by simp [↓heap_alloc_eq, ↓heap_set_eq, ↓heap_drew_eq, ↓heap_drewN_eq, setObj, size_drewN]); have h1 := h.below l1; have hel := blk_lt h.obj; have hen : ¬ eb = w.heap.size := (by omega); have hpl := blk_lt (h.ths t x hx).obj; have hpn : ¬ (B.pt t).p = w.heap.size := (by omega)
  have HS := Lib.hid (Seq.snap_any _ B.lb E.lk h1.lock)
  have HSE := Lib.hid (show E.lk.snapE = 0 by unfold Seq.St.snapE; rw [ho]; rfl)
  have HSV := Lib.hid (show E.lk.snapV = E.lk.cnt by unfold Seq.St.snapV; rw [ho]; rfl)
  have x7 := ((h.ths t x hx).cells 7 _ rfl).1
  rw [ha] at x7
  have e0 := blk_cell h.obj 0; simp only [List.getElem?_toArray, List.getElem?_cons_zero, List.getElem?_cons_succ] at e0
  have H1 := Lib.hid h1; have L1 := Lib.hid l1; have HBR := Lib.hid hbr; have HX := Lib.hid hx
  clear h h1 l1 hbr ha ho hx
  go_enter Try.func19, Try.ntmps19
  go_wp2_with fail
  refine HS.out.mono ?_
  rintro e w2 ⟨rfl, l2⟩
  rw [HSE.out, HSV.out]
  have h2 := H1.out.below l2
  have hbr2 := bblk l2 HBR.out
  have hc := (h2.ths t x HX.out).cells
  obtain ⟨x7', f7⟩ := hc 7 _ rfl; obtain ⟨x9, f9⟩ := hc 9 _ rfl; obtain ⟨x10, f10⟩ := hc 10 _ rfl
  have hob := (h2.ths t x HX.out).obj
  have hT := att_turn h2 HX.out (w' := ((w2.setCell ⟨(B.pt t).p, 10, none⟩ (.int .u64 E.lk.cnt)).setCell ⟨(B.pt t).p, 7, none⟩ (.int .i64 5)).setCell ⟨(B.pt t).p, 9, none⟩ (.int .i64 0)) (y := { x with seen := E.lk.cnt, at_ := 5, next := 0 })
    (by repeat (first | (with_reducible exact Only.refl _ _) | (with_reducible apply Only.drew) | (with_reducible apply Only.drewN) | (with_reducible apply Only.alloc) | (with_reducible refine only_set' ?_ ?_ _; (focus ((try simp) <;> omega))))) (by unfold attCells at hob ⊢; simp [↓heap_alloc_eq, ↓heap_set_eq, ↓heap_drew_eq, ↓heap_drewN_eq, setObj, size_drewN, hob]) rfl rfl (Below.refl _ _)
  have hbr3 := mut_keep hT.2 hbr2 (by decide)
  have L2 := Lib.hid (btrans L1.out (Nat.le_refl _) l2)
  have HB3 := Lib.hid hbr3; have HT := Lib.hid hT.1; have OT := Lib.hid (mut_trans (mut_below L2.out) hT.2)
  have r0 := blk_cell hbr2 0; have r1 := blk_cell hbr2 1; have r2 := blk_cell hbr2 2; have r3 := blk_cell hbr2 3; have r4 := blk_cell hbr2 4; have r5 := blk_cell hbr2 5; have r6 := blk_cell hbr2 6; have s0 := blk_free hbr2 0; have s1 := blk_free hbr2 1; have s2 := blk_free hbr2 2; have s3 := blk_free hbr2 3; have s4 := blk_free hbr2 4; have s5 := blk_free hbr2 5; have s6 := blk_free hbr2 6; simp only [List.getElem?_toArray, List.getElem?_cons_zero, List.getElem?_cons_succ] at r0 r1 r2 r3 r4 r5 r6
  clear h2 hbr2 l2 e0 x7 hc hob hT hbr3 hpl hel
  generalize (B.pt t).p = pb at *
  go_wp2_with fail
  have hfin := reply_end HT.out OT.out HB3.out (Nat.le_refl _) (repW_only _ w.heap.size false 0 false 0 false 0 0); have hz := repW_obj HB3.out false 0 false 0 false 0 0; refine bodyPost_ret (v := reply false 0 false 0 false 0 0) ?_ rfl ?_; (focus (refine (show (results _ _).run _ (repW _ w.heap.size false 0 false 0 false 0 0) = .ok _ (repW _ w.heap.size false 0 false 0 false 0 0) from ?_); have z0 := blk_cell hz 0; have z1 := blk_cell hz 1; have z2 := blk_cell hz 2; have z3 := blk_cell hz 3; have z4 := blk_cell hz 4; have z5 := blk_cell hz 5; have z6 := blk_cell hz 6; simp only [List.getElem?_toArray, List.getElem?_cons_zero, List.getElem?_cons_succ] at z0 z1 z2 z3 z4 z5 z6; simp [results, Try.results19, go_sem, z0, z1, z2, z3, z4, z5, z6, reply]; done))
  exact ⟨rfl, hfin.1, hfin.2⟩
end Go.Proofs.Ytgjemjogncnbnaa.Tad
