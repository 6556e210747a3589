/- The engine: done, look. -/
import Derived.Test.YtgjemjogncnbnaaTadD
namespace Go.Proofs.Ytgjemjogncnbnaa.Tad
open Go.RowKit
set_option linter.unusedSimpArgs false
set_option linter.unusedVariables false
set_option maxRecDepth 50000

theorem AttAt.cells {w : World} {x : Pt} {t : T} (h : AttAt w x t) : ∀ i v, (attCells x t).toList[i]? = some v → w.cell? ⟨x.p, i, none⟩ = some v ∧ w.frozen? ⟨x.p, i, none⟩ = false := fun i v hv => by
  refine ⟨?_, blk_free h.obj i⟩
  rw [blk_cell h.obj i]
  simpa using hv
theorem att_turn {lo : Nat} {w w' : World} {eb : Nat} {B : Bk} {E : Eng} (h : EngAt lo w eb B E) {t : Int} {x y : T} (hx : E.th t = some x) (o : Only (fun k => k = (B.pt t).p) w w') (ho : w'.heap[(B.pt t).p]? = some (.cells (attCells (B.pt t) y) 68 (0, 0)))
    (he : y.es = x.es) (hf : y.fs = x.fs) {w2 : World} (l : Below w'.heap.size w' w2) : EngAt lo w2 eb B { E with th := updT E.th t (some y) } ∧ Only (Mut lo w) w w2 :=
  ⟨(h.att hx o ho he hf).below l, mut_trans (mut_one o (h.ths t x hx).obj (by show _ ∈ _; decide) (h.lo3 t x hx).1) (mut_below l)⟩
set_option maxHeartbeats 3200000 in
theorem done_any {lo : Nat} {w : World} {eb : Nat} {B : Bk} {E : Eng} (h : EngAt lo w eb B E) {t : Int} {x : T} (hx : E.th t = some x) (v : Int) :
    Calls Try.prog 46 #[ptr (B.pt t).p, .int .u64 v] w fun e w' => e = .returned (reply true v false 0 false 0 0) ∧ EngAt lo w' eb B { E with th := updT E.th t (some { x with kd := 0, av := 0 }) } ∧ Only (Mut lo w) w w' := by
  have hc := (h.ths t x hx).cells
  obtain ⟨x4, f4⟩ := hc 4 _ rfl; obtain ⟨x5, f5⟩ := hc 5 _ rfl; obtain ⟨x6, f6⟩ := hc 6 _ rfl
  have hob := (h.ths t x hx).obj
  have hpl := blk_lt hob
  have hpn : ¬ (B.pt t).p = w.heap.size := by omega
  have H := Lib.hid h; have HX := Lib.hid hx; have HOB := Lib.hid hob
  clear hc h hx hob
  go_enter Try.func46, Try.ntmps46
  go_wp2_with fail
  refine bodyPost_ret (v := reply true v false 0 false 0 0) ?_ rfl ?_
  · simp [results, Try.results46, go_sem, reply]
  · have hob := HOB.out
    unfold attCells at hob
    refine ⟨rfl, att_turn H.out HX.out (w' := ((w.setCell ⟨(B.pt t).p, 4, none⟩ (.int .u8 0)).setCell ⟨(B.pt t).p, 5, none⟩ (.int .i64 0)).setCell ⟨(B.pt t).p, 6, none⟩ (.int .u64 0)) (y := { x with kd := 0, av := 0 })
      ((((Only.refl (fun k => k = (B.pt t).p) w).setCell (p := ⟨(B.pt t).p, 4, none⟩) (.inr rfl) _).setCell (p := ⟨(B.pt t).p, 5, none⟩) (.inr rfl) _).setCell (p := ⟨(B.pt t).p, 6, none⟩) (.inr rfl) _) ?_ rfl rfl (by repeat (first | (with_reducible exact Below.refl _ _) | (with_reducible apply Below.drew) | (with_reducible refine below_drewN ?_ _) | (with_reducible refine below_alloc' ?_ ?_ _; (focus ((try simp) <;> omega))) | (with_reducible refine below_set' ?_ ?_ _; (focus ((try simp) <;> omega)))))⟩
    unfold attCells
    simp [↓heap_alloc_eq, ↓heap_set_eq, ↓heap_drew_eq, ↓heap_drewN_eq, setObj, size_drewN, hob]
set_option maxHeartbeats 3200000 in
theorem look_any {lo : Nat} {w : World} {eb : Nat} {B : Bk} {E : Eng} (h : EngAt lo w eb B E) {t : Int} {x : T} (hx : E.th t = some x) (bk : Int) :
    Calls Try.prog 42 #[ptr (B.pt t).p, .int .i64 bk] w fun e w' => e = .returned (reply false 0 false 0 false 0 0) ∧ EngAt lo w' eb B { E with th := updT E.th t (some { x with at_ := 4, back := bk }) } ∧ Only (Mut lo w) w w' := by
  have hc := (h.ths t x hx).cells
  obtain ⟨x7, f7⟩ := hc 7 _ rfl; obtain ⟨x8, f8⟩ := hc 8 _ rfl
  have hob := (h.ths t x hx).obj
  have hpl := blk_lt hob
  have hpn : ¬ (B.pt t).p = w.heap.size := by omega
  have H := Lib.hid h; have HX := Lib.hid hx; have HOB := Lib.hid hob
  clear hc h hx hob
  go_enter Try.func42, Try.ntmps42
  go_wp2_with fail
  refine bodyPost_ret (v := reply false 0 false 0 false 0 0) ?_ rfl ?_
  · simp [results, Try.results42, go_sem, reply]
  · have hob := HOB.out
    unfold attCells at hob
    refine ⟨rfl, att_turn H.out HX.out (w' := (w.setCell ⟨(B.pt t).p, 7, none⟩ (.int .i64 4)).setCell ⟨(B.pt t).p, 8, none⟩ (.int .i64 bk)) (y := { x with at_ := 4, back := bk })
      (((Only.refl (fun k => k = (B.pt t).p) w).setCell (p := ⟨(B.pt t).p, 7, none⟩) (.inr rfl) _).setCell (p := ⟨(B.pt t).p, 8, none⟩) (.inr rfl) _) ?_ rfl rfl (by repeat (first | (with_reducible exact Below.refl _ _) | (with_reducible apply Below.drew) | (with_reducible refine below_drewN ?_ _) | (with_reducible refine below_alloc' ?_ ?_ _; (focus ((try simp) <;> omega))) | (with_reducible refine below_set' ?_ ?_ _; (focus ((try simp) <;> omega)))))⟩
    unfold attCells
    simp [↓heap_alloc_eq, ↓heap_set_eq, ↓heap_drew_eq, ↓heap_drewN_eq, setObj, size_drewN, hob]
end Go.Proofs.Ytgjemjogncnbnaa.Tad
