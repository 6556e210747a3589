/- The engine: a read that is done. -/
import Derived.Test.YtgjemjogncnbnaaTadO
namespace Go.Proofs.Ytgjemjogncnbnaa.Tad
open Go.RowKit
set_option linter.unusedSimpArgs false
set_option linter.unusedVariables false
set_option maxRecDepth 50000

/-- the first entry of a set -/
theorem set_one {w : World} {s bm : Nat} (h : SetE w s bm []) {v : Int} (hv : 0 ≤ v ∧ v < 18446744073709551616) (hr : Wri.rightVal v = true) :
    Calls Try.prog 47 #[ptr s, .agg #[.int .i64 0, .int .u64 v, .int .u64 0]] w fun e w' => e = .returned (.int .i64 0) ∧ Only (fun k => k = s ∨ k = bm) w w' ∧ ∃ b', (b' = bm ∨ w.heap.size ≤ b') ∧ SetE w' s b' [(0, v, 0)] := by
  have hE : Rd.addE [] 0 v 0 = 0 := by
    unfold Rd.addE
    rw [if_neg (by decide)]
    have : rightVal v = true := hr
    rw [if_neg (by rw [this]; decide)]
    rfl
  have hS : Rd.addS [] 0 v 0 = [(0, v, 0)] := by
    unfold Rd.addS
    rw [hE]
    rfl
  refine (Rd.add_any w s _ [] h.new 0 v 0 hv).mono ?_
  rintro e w' ⟨rfl, hA, o⟩
  rw [hS] at hA
  rw [hE]
  obtain ⟨ov, b', h1, h2, h3, _, f2, _, _, h8⟩ := hA
  refine ⟨rfl, o, b', ?_, ov, h1, h2, h3, h8, fun e => by cases e⟩
  rcases f2 with (rfl | rfl) | f2
  · exact absurd h1 h3.not_cells
  · exact .inl rfl
  · exact .inr f2.1
set_option maxHeartbeats 3200000 in
theorem read1_ok {lo : Nat} {w : World} {eb : Nat} {B : Bk} {E : Eng} (h : EngAt lo w eb B E) (hlo : lo ≤ w.heap.size) (hm : E.m ≤ 1000000) (t : Int) {x : T} (hx : E.th t = some x) (ha : x.at_ = 1) (hs : (E.lk.cnt == x.snap) = true) (hes : x.es = []) (hv : 0 ≤ x.val ∧ x.val < 18446744073709551616) (hr : Wri.rightVal x.val = true) :
    Calls Try.prog 24 #[ptr eb, .int .i64 t, ptr (B.pt t).p] w (RPost lo w eb { E with m := E.m + 1, th := updT E.th t (some { x with es := [(0, x.val, 0)], kd := 0, av := 0 }) } (reply true x.val false 0 false 0 0)) := by
  have l1 : Below w.heap.size w (w.alloc (.cells #[.bool false, .int .u64 0, .bool false, .int .i64 0, .bool false, .int .u8 0, .int .i64 0] 38)) := (by repeat (first | (with_reducible exact Below.refl _ _) | (with_reducible apply Below.drew) | (with_reducible refine below_drewN ?_ _) | (with_reducible refine below_alloc' ?_ ?_ _; (focus ((try simp) <;> omega))) | (with_reducible refine below_set' ?_ ?_ _; (focus ((try simp) <;> omega))))); have hbr : (w.alloc (.cells #[.bool false, .int .u64 0, .bool false, .int .i64 0, .bool false, .int .u8 0, .int .i64 0] 38)).heap[w.heap.size]? = some (.cells #[.bool false, .int .u64 0, .bool false, .int .i64 0, .bool false, .int .u8 0, .int .i64 0] 38 (0, 0)) := (by simp [↓heap_alloc_eq, ↓heap_set_eq, ↓heap_drew_eq, ↓heap_drewN_eq, setObj, size_drewN]); have h1 := h.below l1; have hel := blk_lt h.obj; have hen : ¬ eb = w.heap.size := (by omega); have hpl := blk_lt (h.ths t x hx).obj; have hpn : ¬ (B.pt t).p = w.heap.size := (by omega)
  have hc := (h.ths t x hx).cells
  have x7 := (hc 7 _ rfl).1; have x5 := (hc 5 _ rfl).1
  rw [ha] at x7
  have H1 := Lib.hid h1; have L1 := Lib.hid l1; have HB1 := Lib.hid hbr; have HX := Lib.hid hx; have HS := Lib.hid hs; have HES := Lib.hid hes; have HV := Lib.hid hv; have HR := Lib.hid hr
  clear h h1 l1 hbr hc hx ha hs hes hv hr
  go_enter Try.func24, Try.ntmps24
  go_wp2_with fail
  clear x7 x5
  obtain ⟨W1, hW1⟩ : ∃ W1, w.alloc (.cells #[.bool false, .int .u64 0, .bool false, .int .i64 0, .bool false, .int .u8 0, .int .i64 0] 38) = W1 := ⟨_, rfl⟩
  rw [hW1] at H1 L1 HB1 ⊢
  clear hW1
  have H2 := Lib.hid (show EngAt lo W1.drew eb B E from H1.out.below (Below.refl _ _).drew)
  have HB2 := Lib.hid (show W1.drew.heap[w.heap.size]? = _ from HB1.out)
  have L2 := Lib.hid (show Below w.heap.size w W1.drew from L1.out.drew)
  clear H1 L1 HB1
  refine wp_region_tail 8 (by kernel_rfl) (by kernel_rfl) ?_; simp only [List.take_succ_cons, List.take_zero, List.drop_succ_cons, List.drop_zero]
  generalize W1.drew = WD at *
  have x3 := ((H2.out.ths t x HX.out).cells 3 _ rfl).1
  have e0 := blk_cell H2.out.obj 0; simp only [List.getElem?_toArray, List.getElem?_cons_zero, List.getElem?_cons_succ] at e0
  have HSI := Lib.hid (Seq.since_any WD B.lb E.lk H2.out.lock x.snap)
  rw [HS.out] at HSI
  iterate 8 (with_reducible refine wpStill_step (fun KK hKK => ?_); go_simp; refine hKK _ ?_; clear hKK KK)
  with_reducible refine wpStill_nil ?_
  go_wp2_with fail
  refine HSI.out.mono ?_
  rintro e w3 ⟨rfl, rfl⟩
  go_wp2_with fail
  have H3 := Lib.hid (show EngAt lo WD.drew eb B E from H2.out.below (Below.refl _ _).drew)
  have HB3 := Lib.hid (show WD.drew.heap[w.heap.size]? = _ from HB2.out)
  have L3 := Lib.hid (show Below w.heap.size w WD.drew from L2.out.drew)
  clear H2 HB2 L2 x3 e0 HSI
  refine wp_region_tail 10 (by kernel_rfl) (by kernel_rfl) ?_; simp only [List.take_succ_cons, List.take_zero, List.drop_succ_cons, List.drop_zero]
  generalize WD.drew = WE at *
  have hc := (H3.out.ths t x HX.out).cells
  have x0 := (hc 0 _ rfl).1; have x11 := (hc 11 _ rfl).1
  have HA := Lib.hid (set_one (HES.out ▸ (H3.out.ths t x HX.out).set) HV.out HR.out)
  clear hc
  iterate 10 (with_reducible refine wpStill_step (fun KK hKK => ?_); go_simp; refine hKK _ ?_; clear hKK KK)
  with_reducible refine wpStill_nil ?_
  go_wp2_with fail
  refine HA.out.mono ?_
  rintro e w5 ⟨rfl, o5, b', hb', hset⟩
  have hA := H3.out.ths t x HX.out
  obtain ⟨ov, hs1, _, hmm, _⟩ := hA.set
  obtain ⟨xs, hxe, ha, hl1, hl2⟩ := hA.log
  have hpq := blk_ne hA.obj hs1 (by decide)
  have hpm := map_ne hmm hA.obj
  have hK : KindS WE (fun k => k = (B.pt t).s ∨ k = (B.pt t).b) := fun k hk _ => by
    rcases hk with rfl | rfl
    · exact ⟨_, hs1, by show _ ∈ _; decide⟩
    · obtain ⟨es, c, hm⟩ := hmm.obj
      exact ⟨_, hm, trivial⟩
  have hthr := H3.out.thr HX.out (y := { x with es := [(0, x.val, 0)] }) o5 (fun k hk _ => .inr hk) hb'
    ⟨o5.blk hA.obj (fun hh => hh.elim (fun e => hpq e) (fun e => hpm e.symm)), hset, xs, hxe, log_frame ⟨ha, hl1, hl2⟩ o5 hK (fun hh => hh.elim (fun e => blk_ne hl1 hs1 (by decide) e) (fun e => map_ne hmm hl1 e.symm))⟩
  have O5 := Lib.hid (mut_trans (mut_below (lo := lo) L3.out) hthr.2)
  have HB5 := Lib.hid (mut_keep hthr.2 HB3.out (by decide))
  have hg := got_any hthr.1 (Nat.le_trans hlo O5.out.size) hm (t := t) (updT_same _ _ _) x.val
  simp only [if_true] at hg
  have HG := Lib.hid hg
  have y11 := ((hthr.1.ths t _ (updT_same _ _ _)).cells 11 _ rfl).1
  simp only [if_true] at y11
  clear hA hs1 hmm hxe hl1 hl2 hpq hpm hK hthr hg o5 hset x0 x11 HA H3 HB3 L3
  go_wp2_with fail
  refine HG.out.mono ?_
  rintro e w6 ⟨rfl, ⟨u, hE⟩, o6⟩
  simp only [updT_twice] at hE
  have hbr6 := mut_keep o6 HB5.out (by decide)
  have HE6 := Lib.hid hE; have O6 := Lib.hid (mut_trans O5.out o6); have HB6 := Lib.hid hbr6
  have r0 := blk_cell hbr6 0; have r1 := blk_cell hbr6 1; have r2 := blk_cell hbr6 2; have r3 := blk_cell hbr6 3; have r4 := blk_cell hbr6 4; have r5 := blk_cell hbr6 5; have r6 := blk_cell hbr6 6; have s0 := blk_free hbr6 0; have s1 := blk_free hbr6 1; have s2 := blk_free hbr6 2; have s3 := blk_free hbr6 3; have s4 := blk_free hbr6 4; have s5 := blk_free hbr6 5; have s6 := blk_free hbr6 6; simp only [List.getElem?_toArray, List.getElem?_cons_zero, List.getElem?_cons_succ] at r0 r1 r2 r3 r4 r5 r6
  clear hE o6 hbr6 HG y11
  unfold reply
  go_wp2_with fail
  have hfin := reply_end HE6.out O6.out HB6.out (Nat.le_refl _) (repW_only _ w.heap.size true x.val false 0 false 0 0); have hz := repW_obj HB6.out true x.val false 0 false 0 0; refine bodyPost_ret (v := reply true x.val false 0 false 0 0) ?_ rfl ?_; (focus (refine (show (results _ _).run _ (repW _ w.heap.size true x.val false 0 false 0 0) = .ok _ (repW _ w.heap.size true x.val false 0 false 0 0) from ?_); have z0 := blk_cell hz 0; have z1 := blk_cell hz 1; have z2 := blk_cell hz 2; have z3 := blk_cell hz 3; have z4 := blk_cell hz 4; have z5 := blk_cell hz 5; have z6 := blk_cell hz 6; simp only [List.getElem?_toArray, List.getElem?_cons_zero, List.getElem?_cons_succ] at z0 z1 z2 z3 z4 z5 z6; simp [results, Try.results24, go_sem, z0, z1, z2, z3, z4, z5, z6, reply]; done))
  exact ⟨rfl, ⟨_, hfin.1⟩, hfin.2⟩
end Go.Proofs.Ytgjemjogncnbnaa.Tad
