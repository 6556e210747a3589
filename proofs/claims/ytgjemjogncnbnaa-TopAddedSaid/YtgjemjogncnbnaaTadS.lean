/- The engine: a step of a read. -/
import Derived.Test.YtgjemjogncnbnaaTadR
namespace Go.Proofs.Ytgjemjogncnbnaa.Tad
open Go.RowKit
set_option linter.unusedSimpArgs false
set_option linter.unusedVariables false
set_option maxRecDepth 50000
theorem get_none {w : World} {b : Nat} {fs : List Wri.Frm} (h : ∃ xs, xs.map (·.2) = fs ∧ Wri.LogAt w b xs) (hf : fs = [[]]) :
    Calls Try.prog 22 #[ptr b, .int .i64 0] w fun e w' => e = .returned (.tuple #[.int .u64 0, .bool false]) ∧ Below w.heap.size w w' := by
  obtain ⟨xs, e, hl⟩ := h
  rw [hf] at e
  match xs, e, hl with
  | [(u, f)], e, hl =>
    simp only [List.map_cons, List.map_nil, List.cons.injEq, and_true] at e
    subst e
    exact Wri.lget_any w b _ hl 0
set_option maxHeartbeats 3200000 in
theorem step_read {lo : Nat} {w : World} {eb : Nat} {B : Bk} {E : Eng} (h : EngAt lo w eb B E) (t : Int) (h0 : 0 ≤ t) (h3 : t < 3) {x : T} (hx : E.th t = some x) (hk : x.kd = 1) (ha : ¬ 4 ≤ x.at_) (hf : x.fs = [[]]) {E' : Eng} {d : Bool} {v : Int} {bb : Bool} {o : Int} {en : Bool} {rs er : Int}
    (HC : ∀ W, Below w.heap.size w W → Calls Try.prog 24 #[ptr eb, .int .i64 t, ptr (B.pt t).p] W (RPost lo W eb E' (reply d v bb o en rs er))) :
    Calls Try.prog 6 #[ptr eb, .int .i64 t] w (RPost lo w eb E' (reply d v bb o en rs er)) := by
  have l1 : Below w.heap.size w (w.alloc (.cells #[.bool false, .int .u64 0, .bool false, .int .i64 0, .bool false, .int .u8 0, .int .i64 0] 38)) := (by repeat (first | (with_reducible exact Below.refl _ _) | (with_reducible apply Below.drew) | (with_reducible refine below_drewN ?_ _) | (with_reducible refine below_alloc' ?_ ?_ _; (focus ((try simp) <;> omega))) | (with_reducible refine below_set' ?_ ?_ _; (focus ((try simp) <;> omega))))); have hbr : (w.alloc (.cells #[.bool false, .int .u64 0, .bool false, .int .i64 0, .bool false, .int .u8 0, .int .i64 0] 38)).heap[w.heap.size]? = some (.cells #[.bool false, .int .u64 0, .bool false, .int .i64 0, .bool false, .int .u8 0, .int .i64 0] 38 (0, 0)) := (by simp [↓heap_alloc_eq, ↓heap_set_eq, ↓heap_drew_eq, ↓heap_drewN_eq, setObj, size_drewN]); have h1 := h.below l1; have hel := blk_lt h.obj; have hen : ¬ eb = w.heap.size := (by omega); have hpl := blk_lt (h.ths t x hx).obj; have hpn : ¬ (B.pt t).p = w.heap.size := (by omega); have HM := Lib.hid (may_any (w.alloc (.cells #[.bool false, .int .u64 0, .bool false, .int .i64 0, .bool false, .int .u8 0, .int .i64 0] 38)) eb t h0 h3); have hlk := h.look t h0 h3 (w.alloc (.cells #[.bool false, .int .u64 0, .bool false, .int .i64 0, .bool false, .int .u8 0, .int .i64 0] 38)) l1; rw [hx] at hlk; simp only [Option.map_some, Option.getD_some] at hlk; (have x0 := blk_cell h.obj 2); simp only [List.getElem?_toArray, List.getElem?_cons_zero, List.getElem?_cons_succ] at x0; (have x4 := ((h.ths t x hx).cells 4 _ rfl).1); (have x7 := ((h.ths t x hx).cells 7 _ rfl).1); (have L1 := Lib.hid l1); (have HBR := Lib.hid hbr); (have H1 := Lib.hid h1); (have HX := Lib.hid hx); clear l1 hbr h1 h hx
  have HCC := Lib.hid HC
  have HF := Lib.hid hf
  rw [hk] at x4
  clear HC hf hk
  go_enter Try.func6, Try.ntmps6
  go_wp2_with fail
  refine HM.out.mono ?_
  rintro e w1 ⟨rfl, rfl⟩
  go_wp2_with fail
  clear x0 x4 x7 hlk HM
  obtain ⟨W1, hW1⟩ : ∃ W1, w.alloc (.cells #[.bool false, .int .u64 0, .bool false, .int .i64 0, .bool false, .int .u8 0, .int .i64 0] 38) = W1 := ⟨_, rfl⟩
  rw [hW1] at H1 L1 HBR ⊢
  clear hW1
  have H2 := Lib.hid (show EngAt lo W1.drew eb B E from H1.out.below (Below.refl _ _).drew)
  have HB2 := Lib.hid (show W1.drew.heap[w.heap.size]? = _ from HBR.out)
  have L2 := Lib.hid (show Below w.heap.size w W1.drew from L1.out.drew)
  clear H1 L1 HBR
  have hc := (H2.out.ths t x HX.out).cells
  have QA := And.intro (hc 1 _ rfl).1 (hc 5 _ rfl).1
  have HG := Lib.hid (get_none (H2.out.ths t x HX.out).log HF.out)
  have KO := Lib.hid (show ∀ w', Below W1.drew.heap.size W1.drew w' → (w'.cell? ⟨(B.pt t).p, 1, none⟩ = some (ptr (B.pt t).q) ∧ w'.cell? ⟨(B.pt t).p, 5, none⟩ = some (.int .i64 0)) from fun w' l => ⟨bkeep l QA.1, bkeep l QA.2⟩)
  clear hc
  go_region_held3 (fun w' => w'.cell? ⟨(B.pt t).p, 1, none⟩ = some (ptr (B.pt t).q) ∧ w'.cell? ⟨(B.pt t).p, 5, none⟩ = some (.int .i64 0)) (first | (with_reducible exact QA) | (with_reducible exact QB)) ((go_at_call 22; (with_reducible refine Calls.mono HG.out ?_); rintro e w5 ⟨rfl, l5⟩; have QB := KO.out w5 l5))
  have L1 := Lib.hid (btrans L2.out (Nat.le_refl _) l5)
  have HBR := Lib.hid (bblk l5 HB2.out)
  have HC5 := Lib.hid (HCC.out w5 L1.out)
  clear l5 HG HB2 H2 QA QB KO
  go_wp2_with fail
  refine HC5.out.mono ?_
  intro e w2 hp
  clear HC5
  obtain ⟨rfl, ⟨B2, hE⟩, o2⟩ := hp; have hbr2 := mut_keep o2 HBR.out (by decide); have HE2 := Lib.hid hE; have O2 := Lib.hid (mut_trans (mut_below (lo := lo) L1.out) o2); have HB2 := Lib.hid hbr2; have r0 := blk_cell hbr2 0; have r1 := blk_cell hbr2 1; have r2 := blk_cell hbr2 2; have r3 := blk_cell hbr2 3; have r4 := blk_cell hbr2 4; have r5 := blk_cell hbr2 5; have r6 := blk_cell hbr2 6; have s0 := blk_free hbr2 0; have s1 := blk_free hbr2 1; have s2 := blk_free hbr2 2; have s3 := blk_free hbr2 3; have s4 := blk_free hbr2 4; have s5 := blk_free hbr2 5; have s6 := blk_free hbr2 6; simp only [List.getElem?_toArray, List.getElem?_cons_zero, List.getElem?_cons_succ] at r0 r1 r2 r3 r4 r5 r6; clear hE o2 hbr2
  unfold reply
  go_wp2_with fail
  have hfin := reply_end HE2.out O2.out HB2.out (Nat.le_refl _) (repW_only _ w.heap.size d v bb o en rs er); have hz := repW_obj HB2.out d v bb o en rs er; refine bodyPost_ret (v := reply d v bb o en rs er) ?_ rfl ?_; (focus (refine (show (results _ _).run _ (repW _ w.heap.size d v bb o en rs er) = .ok _ (repW _ w.heap.size d v bb o en rs er) from ?_); have z0 := blk_cell hz 0; have z1 := blk_cell hz 1; have z2 := blk_cell hz 2; have z3 := blk_cell hz 3; have z4 := blk_cell hz 4; have z5 := blk_cell hz 5; have z6 := blk_cell hz 6; simp only [List.getElem?_toArray, List.getElem?_cons_zero, List.getElem?_cons_succ] at z0 z1 z2 z3 z4 z5 z6; simp [results, Try.results6, go_sem, z0, z1, z2, z3, z4, z5, z6, reply]; done))
  exact ⟨rfl, ⟨_, hfin.1⟩, hfin.2⟩
end Go.Proofs.Ytgjemjogncnbnaa.Tad
