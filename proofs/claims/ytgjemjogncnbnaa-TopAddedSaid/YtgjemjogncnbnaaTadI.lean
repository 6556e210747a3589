/- The engine: cells of its rows are written; end. -/
import Derived.Test.YtgjemjogncnbnaaTadH
namespace Go.Proofs.Ytgjemjogncnbnaa.Tad
open Go.RowKit
set_option linter.unusedSimpArgs false
set_option linter.unusedVariables false
set_option maxRecDepth 50000

theorem row_store {w : World} {e : TypeId} {v : Value} {N : Nat} {xs : List Value} (h : w.ownsRow 0 e 1 v N xs) {n : Nat} (hn : n < N) :
    ∃ g cap, v = .slice (some ⟨g, 0, none⟩) N cap ∧ (∃ u, xs[n]? = some u ∧ w.cell? ⟨g, n, none⟩ = some u) ∧ w.frozen? ⟨g, n, none⟩ = false ∧ (∃ cs, w.heap[g]? = some (.cells cs e (0, 0))) ∧ ∀ u, (w.setCell ⟨g, n, none⟩ u).ownsRow 0 e 1 v N (xs.set n u) := by
  have hl : xs.length = N * 1 := h.1
  rcases h.2 with ⟨_, rfl⟩ | ⟨g, cap, cur, rfl, hb, hg, hrest⟩
  · omega
  · have hx : xs[n]? = some (xs[n]'(by omega)) := List.getElem?_eq_getElem (by omega)
    exact ⟨g, cap, rfl, ⟨_, hx, row_cell1 (v := .nilFunc) h hx⟩, blk_free hg n, ⟨_, hg⟩, fun u => row_set h (by omega)⟩
section
variable {lo : Nat} {w : World} {eb : Nat} {B : Bk} {E : Eng}
theorem EngAt.cellT (h : EngAt lo w eb B E) {g n : Nat} {cs : Array Value} {e : TypeId} (hg : w.heap[g]? = some (.cells cs e (0, 0))) (he : e ∈ [26, 25, 35]) (hlo : lo ≤ g) (u : Value) {E' : Eng} (hE : E'.lk = E.lk ∧ E'.th = E.th ∧ E'.c = E.c ∧ E'.m = E.m)
    (hh : (w.setCell ⟨g, n, none⟩ u).ownsRow 0 26 1 (.slice (some ⟨B.hg, 0, none⟩) 2 B.hc) 2 [.int .u64 E'.h, .int .u64 9221120237041090560])
    (hk : ∃ xs, (w.setCell ⟨g, n, none⟩ u).ownsRow 0 25 1 B.ky E'.n xs) (hw : ∃ xs, (w.setCell ⟨g, n, none⟩ u).ownsRow 0 35 1 B.wy E'.y xs) :
    EngAt lo (w.setCell ⟨g, n, none⟩ u) eb B E' ∧ Only (Mut lo w) w (w.setCell ⟨g, n, none⟩ u) := by
  have o : Only (fun k => k = g) w (w.setCell ⟨g, n, none⟩ u) := (Only.refl (fun k => k = g) w).setCell (p := ⟨g, n, none⟩) (.inr rfl) _
  have hE1 : 61 ≠ e := by rintro rfl; revert he; decide
  have hE2 : 80 ≠ e := by rintro rfl; revert he; decide
  refine ⟨h.rows o (fun k hk _ => ?_) ⟨rfl, rfl, rfl, rfl⟩ ⟨hE.1, hE.2.1, hE.2.2.1⟩ (o.blk h.obj (blk_ne h.obj hg hE1)) hh ?_ hk hw h.lo2, mut_one o hg ?_ hlo⟩
  · subst hk
    refine .inr ⟨_, _, hg, ?_⟩
    simp only [List.mem_cons, List.not_mem_nil, or_false] at he ⊢
    rcases he with rfl | rfl | rfl <;> simp
  · rw [hE.2.2.2]
    refine h.evs.imp fun _ hr => ownsRow_only hr o fun k hk' hS => ?_
    subst hS
    exact row_ne hr hg (fun e => hE2 e.symm) hk'
  · show e ∈ _
    simp only [List.mem_cons, List.not_mem_nil, or_false] at he ⊢
    rcases he with rfl | rfl | rfl <;> simp
theorem row_other {e : TypeId} {size N : Nat} {v : Value} {xs : List Value} (h : w.ownsRow 0 e size v N xs) {g n : Nat} {cs : Array Value} {e' : TypeId} (hg : w.heap[g]? = some (.cells cs e' (0, 0))) (hne : e' ≠ e) (u : Value) : (w.setCell ⟨g, n, none⟩ u).ownsRow 0 e size v N xs :=
  ownsRow_only h ((Only.refl (fun k => k = g) w).setCell (p := ⟨g, n, none⟩) (.inr rfl) _) fun k hk hS => by
    subst hS
    exact row_ne h hg hne hk
theorem EngAt.why (h : EngAt lo w eb B E) {n : Nat} (hn : n < E.y) : ∃ g cap, B.wy = .slice (some ⟨g, 0, none⟩) E.y cap ∧ (∃ u, w.cell? ⟨g, n, none⟩ = some u) ∧ w.frozen? ⟨g, n, none⟩ = false ∧ (∃ cs, w.heap[g]? = some (.cells cs 35 (0, 0))) ∧
    ∀ u, EngAt lo (w.setCell ⟨g, n, none⟩ u) eb B E ∧ Only (Mut lo w) w (w.setCell ⟨g, n, none⟩ u) := by
  obtain ⟨xs, hr⟩ := h.wys
  obtain ⟨g, cap, e, ⟨u, _, hu⟩, hf, ⟨cs, hg⟩, hs⟩ := row_store hr hn
  exact ⟨g, cap, e, ⟨u, hu⟩, hf, ⟨cs, hg⟩, fun u => h.cellT hg (by decide) (h.lo2.2.2 g (by rw [e]; rfl)) u ⟨rfl, rfl, rfl, rfl⟩ (row_other h.heap hg (by decide) u) (h.kys.imp fun _ hr => row_other hr hg (by decide) u) ⟨_, hs u⟩⟩
theorem EngAt.key (h : EngAt lo w eb B E) {n : Nat} (hn : n < E.n) : ∃ g cap, B.ky = .slice (some ⟨g, 0, none⟩) E.n cap ∧ (∃ u, w.cell? ⟨g, n, none⟩ = some u) ∧ w.frozen? ⟨g, n, none⟩ = false ∧ (∃ cs, w.heap[g]? = some (.cells cs 25 (0, 0))) ∧
    ∀ u, EngAt lo (w.setCell ⟨g, n, none⟩ u) eb B E ∧ Only (Mut lo w) w (w.setCell ⟨g, n, none⟩ u) := by
  obtain ⟨xs, hr⟩ := h.kys
  obtain ⟨g, cap, e, ⟨u, _, hu⟩, hf, ⟨cs, hg⟩, hs⟩ := row_store hr hn
  exact ⟨g, cap, e, ⟨u, hu⟩, hf, ⟨cs, hg⟩, fun u => h.cellT hg (by decide) (h.lo2.2.1 g (by rw [e]; rfl)) u ⟨rfl, rfl, rfl, rfl⟩ (row_other h.heap hg (by decide) u) ⟨_, hs u⟩ (h.wys.imp fun _ hr => row_other hr hg (by decide) u)⟩
theorem EngAt.val (h : EngAt lo w eb B E) : w.cell? ⟨B.hg, 0, none⟩ = some (.int .u64 E.h) ∧ w.frozen? ⟨B.hg, 0, none⟩ = false ∧ (∃ cs, w.heap[B.hg]? = some (.cells cs 26 (0, 0))) ∧
    ∀ v : Int, EngAt lo (w.setCell ⟨B.hg, 0, none⟩ (.int .u64 v)) eb B { E with h := v } ∧ Only (Mut lo w) w (w.setCell ⟨B.hg, 0, none⟩ (.int .u64 v)) := by
  obtain ⟨g, cap, e, ⟨u, hu0, hu⟩, hf, ⟨cs, hg⟩, hs⟩ := row_store h.heap (n := 0) (by decide)
  injection e with e1 e2
  injection e1 with e1
  injection e1 with e1 _ _
  subst e1
  injection hu0 with hu0
  subst hu0
  exact ⟨hu, hf, ⟨cs, hg⟩, fun v => h.cellT hg (by decide) h.lo1.2.2.1 _ ⟨rfl, rfl, rfl, rfl⟩ (hs (.int .u64 v)) (h.kys.imp fun _ hr => row_other hr hg (by decide) _) (h.wys.imp fun _ hr => row_other hr hg (by decide) _)⟩
end
set_option maxHeartbeats 3200000 in
theorem end_any {lo : Nat} {w : World} {eb : Nat} {B : Bk} {E : Eng} (h : EngAt lo w eb B E) (hlo : lo ≤ w.heap.size) (hm : E.m ≤ 1000000) (t : Int) (h0 : 0 ≤ t) (h3 : t < 3) {x : T} (hx : E.th t = some x) (hn : E.lk.own ≠ some t) {n : Nat} (hnum : x.num = n) (hny : n < E.y) (hy : E.y ≤ 1000) (why : Int) :
    Calls Try.prog 20 #[ptr eb, .int .i64 t, .int .u8 why] w (RPost lo w eb { E with m := E.m + 1, th := updT E.th t none } (reply true 0 false 0 true why 0)) := by
  have l1 : Below w.heap.size w (w.alloc (.cells #[.bool false, .int .u64 0, .bool false, .int .i64 0, .bool false, .int .u8 0, .int .i64 0] 38)) := by repeat (first | (with_reducible exact Below.refl _ _) | (with_reducible apply Below.drew) | (with_reducible refine below_drewN ?_ _) | (with_reducible refine below_alloc' ?_ ?_ _; (focus ((try simp) <;> omega))) | (with_reducible refine below_set' ?_ ?_ _; (focus ((try simp) <;> omega))))
  have hbr : (w.alloc (.cells #[.bool false, .int .u64 0, .bool false, .int .i64 0, .bool false, .int .u8 0, .int .i64 0] 38)).heap[w.heap.size]? = some (.cells #[.bool false, .int .u64 0, .bool false, .int .i64 0, .bool false, .int .u8 0, .int .i64 0] 38 (0, 0)) := by simp [↓heap_alloc_eq, ↓heap_set_eq, ↓heap_drew_eq, ↓heap_drewN_eq, setObj, size_drewN]
  have h1 := h.below l1
  have hlk := h.look t h0 h3 (w.alloc (.cells #[.bool false, .int .u64 0, .bool false, .int .i64 0, .bool false, .int .u8 0, .int .i64 0] 38)) l1
  rw [hx] at hlk
  simp only [Option.map_some, Option.getD_some] at hlk
  have e2 := blk_cell h.obj 2
  simp only [List.getElem?_toArray, List.getElem?_cons_zero, List.getElem?_cons_succ] at e2
  have hel := blk_lt h.obj
  have hen : ¬ eb = w.heap.size := by omega
  obtain ⟨wd, hdr, hmd, od⟩ := MapIs.drop (P := Try.prog) Try.underlying3 Try.underlying56 h1.mp (th_in h0 h3) 0
  have hD := h1.del t od hmd
  have hbrd := od.blk hbr (fun e => map_ne h1.mp hbr e.symm)
  have hpo := (h1.ths t x hx).obj
  have hpd := od.blk hpo (fun e => map_ne h1.mp hpo e.symm)
  have d0 := blk_cell hD.1.obj 0
  simp only [List.getElem?_toArray, List.getElem?_cons_zero, List.getElem?_cons_succ] at d0
  have HB := Lib.hid (Seq.break_any wd B.lb E.lk hD.1.linv hD.1.lock t)
  have hbs : E.lk.breakSt t = E.lk := by unfold Seq.St.breakSt; rw [if_neg hn]
  rw [hbs] at HB
  have HX := Lib.hid hx; have L1 := Lib.hid l1; have HBRD := Lib.hid hbrd; have HD := Lib.hid hD; have HPD := Lib.hid hpd
  have HLO := Lib.hid hlo
  clear h h1 hx l1 hbr hbrd hpo hpd hmd od hbs hD
  go_enter Try.func20, Try.ntmps20
  go_wp2_with fail
  refine HB.out.mono ?_
  rintro e w2 ⟨rfl, hl2, o2⟩
  have h2 := HD.out.1.lkT o2 hl2 HD.out.1.linv
  obtain ⟨lcs, hlc⟩ := lock_obj HD.out.1.lock
  have hbr2 := o2.blk HBRD.out (blk_ne HBRD.out hlc (by decide))
  have hp2 := o2.blk HPD.out (blk_ne HPD.out hlc (by decide))
  have OA := Lib.hid (mut_trans (mut_trans (mut_below (lo := lo) L1.out) HD.out.2) h2.2)
  have hE2 : EngAt lo w2.drew eb B { E with th := updT E.th t none } := h2.1.below (Below.refl _ _).drew
  obtain ⟨g, cap, hwy, ⟨u, hu⟩, hfz, ⟨gcs, hg⟩, hst⟩ := hE2.why (n := n) hny
  obtain ⟨hE3, o3⟩ := hst (.int .u8 why)
  have hbr3 := mut_keep o3 (show w2.drew.heap[w.heap.size]? = _ from hbr2) (by decide)
  have hp3 := ((Only.refl (fun k => k = g) w2.drew).setCell (p := ⟨g, n, none⟩) (.inr rfl) (.int .u8 why)).blk (show w2.drew.heap[(B.pt t).p]? = _ from hp2) (blk_ne (show w2.drew.heap[(B.pt t).p]? = _ from hp2) hg (by decide))
  have f5 := blk_cell hE2.obj 5
  have q2 := blk_cell (show w2.drew.heap[(B.pt t).p]? = _ from hp2) 2
  have q2' := blk_cell hp3 2
  unfold attCells at q2 q2'
  simp only [List.getElem?_toArray, List.getElem?_cons_zero, List.getElem?_cons_succ] at f5 q2 q2'
  rw [hwy] at f5
  have f5' : w2.cell? ⟨eb, 5, none⟩ = _ := f5
  have p2 : w2.cell? ⟨(B.pt t).p, 2, none⟩ = _ := q2
  rw [hnum] at p2 q2 q2'
  have hpg : ¬ (B.pt t).p = g := blk_ne (show w2.drew.heap[(B.pt t).p]? = _ from hp2) hg (by decide)
  have OB := Lib.hid (mut_trans OA.out (mut_trans (mut_below (lo := lo) ((Below.refl w2.heap.size w2).drew)) o3))
  have HT := Lib.hid (tell_any hE3 (Nat.le_trans HLO.out OB.out.size) hm 9 n 0 0)
  have HE3 := Lib.hid hE3; have HBR3 := Lib.hid hbr3
  have hn1 : (n : Int) < E.y := by omega
  have hn2 : ¬ (n : Int) < 0 := by omega
  clear h2 hbr2 hp2 hE2 hst hE3 o3 hbr3 hp3 hl2 o2 HD HBRD HPD hlk e2 d0 hdr hlc hg OA HB
  generalize (B.pt t).p = pb at *
  go_wp2_with fail
  refine wp_region_tail 10 (by kernel_rfl) (by kernel_rfl) ?_; simp only [List.take_succ_cons, List.take_zero, List.drop_succ_cons, List.drop_zero]
  repeat (first | (with_reducible refine wpStill_skip ?_ ?_; (focus (simp [Region.wanted, yielded]; done)); simp only [Act.put, List.setIfInBounds_toArray, List.set_cons_succ, List.set_cons_zero]) | (with_reducible refine wpStill_step (fun KK hKK => ?_); go_simp; refine hKK _ ?_; clear hKK KK))
  with_reducible refine wpStill_nil ?_
  go_wp2_with fail
  refine HT.out.mono ?_
  rintro e w4 ⟨rfl, ⟨u, hE⟩, o4⟩
  have hbr4 := mut_keep o4 HBR3.out (by decide)
  have HE4 := Lib.hid hE; have O4 := Lib.hid (mut_trans OB.out o4); have HB4 := Lib.hid hbr4
  have r0 := blk_cell hbr4 0; have r1 := blk_cell hbr4 1; have r2 := blk_cell hbr4 2; have r3 := blk_cell hbr4 3; have r4 := blk_cell hbr4 4; have r5 := blk_cell hbr4 5; have r6 := blk_cell hbr4 6; have s0 := blk_free hbr4 0; have s1 := blk_free hbr4 1; have s2 := blk_free hbr4 2; have s3 := blk_free hbr4 3; have s4 := blk_free hbr4 4; have s5 := blk_free hbr4 5; have s6 := blk_free hbr4 6; simp only [List.getElem?_toArray, List.getElem?_cons_zero, List.getElem?_cons_succ] at r0 r1 r2 r3 r4 r5 r6
  clear hE o4 hbr4 HT
  go_wp2_with fail
  have hfin := reply_end HE4.out O4.out HB4.out (Nat.le_refl _) (repW_only _ w.heap.size true 0 false 0 true why 0); have hz := repW_obj HB4.out true 0 false 0 true why 0; refine bodyPost_ret (v := reply true 0 false 0 true why 0) ?_ rfl ?_; (focus (refine (show (results _ _).run _ (repW _ w.heap.size true 0 false 0 true why 0) = .ok _ (repW _ w.heap.size true 0 false 0 true why 0) from ?_); have z0 := blk_cell hz 0; have z1 := blk_cell hz 1; have z2 := blk_cell hz 2; have z3 := blk_cell hz 3; have z4 := blk_cell hz 4; have z5 := blk_cell hz 5; have z6 := blk_cell hz 6; simp only [List.getElem?_toArray, List.getElem?_cons_zero, List.getElem?_cons_succ] at z0 z1 z2 z3 z4 z5 z6; simp [results, Try.results20, go_sem, z0, z1, z2, z3, z4, z5, z6, reply]; done))
  exact ⟨rfl, ⟨_, hfin.1⟩, hfin.2⟩
end Go.Proofs.Ytgjemjogncnbnaa.Tad
