/- The engine: a beginning. -/
import Derived.Test.YtgjemjogncnbnaaTadT
namespace Go.Proofs.Ytgjemjogncnbnaa.Tad
open Go.RowKit
set_option linter.unusedSimpArgs false
set_option linter.unusedVariables false
set_option maxRecDepth 50000

theorem infoU : (Try.prog.info? 25).map (fun i => (i.zero, i.size, i.bytes)) = some (some (.int .u64 0), 1, 8) := by kernel_rfl
theorem infoW : (Try.prog.info? 35).map (fun i => (i.zero, i.size, i.bytes)) = some (some (.int .u8 0), 1, 1) := by kernel_rfl
def newT (n : Nat) (s : Int) : T := { es := [], fs := [[]], num := n, snap := s, kd := 0, av := 0, at_ := 0, back := 0, next := 0, seen := 0, val := 0, dec := false }
def RetPost (lo : Nat) (w : World) (eb : Nat) (E' : Eng) (R : Value) (e : Ending) (w' : World) : Prop := e = .returned R ∧ (∃ B', EngAt lo w' eb B' E') ∧ Only (Mut lo w) w w'
set_option maxHeartbeats 3200000 in
theorem begin_busy {lo : Nat} {w : World} {eb : Nat} {B : Bk} {E : Eng} (h : EngAt lo w eb B E) (t : Int) (h0 : 0 ≤ t) (h3 : t < 3) (hx : E.th t = none) (hn : E.n < 64) {o : Int} (ho : E.lk.own = some o) :
    Calls Try.prog 8 #[ptr eb, .int .i64 t] w (RetPost lo w eb E (.tuple #[.int .i64 0, .int .i64 7])) := by
  have HM := Lib.hid (may_any w eb t h0 h3)
  have HS := Lib.hid (Seq.snap_any _ B.lb E.lk h.lock)
  have HSE := Lib.hid (show E.lk.snapE = 7 by unfold Seq.St.snapE; rw [ho]; rfl)
  obtain ⟨ys, hrow⟩ := h.kys
  obtain ⟨ka, kc, hk⟩ := ownsRow_slice hrow
  have hlk := h.look t h0 h3 w (Below.refl _ _)
  rw [hx] at hlk
  simp only [Option.map_none, Option.getD_none] at hlk
  have hob := h.obj
  rw [hk] at hob
  have e0 := blk_cell hob 0; simp only [List.getElem?_toArray, List.getElem?_cons_zero, List.getElem?_cons_succ] at e0
  have e2 := blk_cell hob 2; simp only [List.getElem?_toArray, List.getElem?_cons_zero, List.getElem?_cons_succ] at e2
  have e4 := blk_cell hob 4; simp only [List.getElem?_toArray, List.getElem?_cons_zero, List.getElem?_cons_succ] at e4
  have g1 : ¬ (64 : Int) ≤ (E.n : Int) := by omega
  have H := Lib.hid h
  clear h hrow hk hob hx hn ho
  go_enter Try.func8, Try.ntmps8
  go_wp2_with fail
  refine HM.out.mono ?_
  rintro e w1 ⟨rfl, rfl⟩
  go_wp2_with fail
  refine HS.out.mono ?_
  rintro e w2 ⟨rfl, l2⟩
  rw [HSE.out]
  go_wp2_with fail
  refine bodyPost_ret (v := .tuple #[.int .i64 0, .int .i64 7]) ?_ rfl ?_; (focus (simp [results, Try.results8, go_sem, Nat.zero_le]; done))
  exact ⟨rfl, ⟨_, H.out.below l2⟩, mut_below l2⟩
set_option maxHeartbeats 3200000 in
theorem begin_full {lo : Nat} {w : World} {eb : Nat} {B : Bk} {E : Eng} (h : EngAt lo w eb B E) (t : Int) (h0 : 0 ≤ t) (h3 : t < 3) (hx : E.th t = none) (hn : 64 ≤ E.n) :
    Calls Try.prog 8 #[ptr eb, .int .i64 t] w (RetPost lo w eb E (.tuple #[.int .i64 0, .int .i64 4])) := by
  have HM := Lib.hid (may_any w eb t h0 h3)
  obtain ⟨ys, hrow⟩ := h.kys
  obtain ⟨ka, kc, hk⟩ := ownsRow_slice hrow
  have hlk := h.look t h0 h3 w (Below.refl _ _)
  rw [hx] at hlk
  simp only [Option.map_none, Option.getD_none] at hlk
  have hob := h.obj
  rw [hk] at hob
  have e0 := blk_cell hob 0; simp only [List.getElem?_toArray, List.getElem?_cons_zero, List.getElem?_cons_succ] at e0
  have e2 := blk_cell hob 2; simp only [List.getElem?_toArray, List.getElem?_cons_zero, List.getElem?_cons_succ] at e2
  have e4 := blk_cell hob 4; simp only [List.getElem?_toArray, List.getElem?_cons_zero, List.getElem?_cons_succ] at e4
  have g1 : (64 : Int) ≤ (E.n : Int) := by omega
  have H := Lib.hid h
  clear h hrow hk hob hx hn
  go_enter Try.func8, Try.ntmps8
  go_wp2_with fail
  refine HM.out.mono ?_
  rintro e w1 ⟨rfl, rfl⟩
  go_wp2_with fail
  refine bodyPost_ret (v := .tuple #[.int .i64 0, .int .i64 4]) ?_ rfl ?_; (focus (simp [results, Try.results8, go_sem, Nat.zero_le]; done))
  exact ⟨rfl, ⟨_, H.out⟩, Only.refl _ _⟩
set_option maxHeartbeats 6400000 in
theorem begin_ok {lo : Nat} {w : World} {eb : Nat} {B : Bk} {E : Eng} (h : EngAt lo w eb B E) (hlo : lo ≤ w.heap.size) (hm : E.m ≤ 1000000) (t : Int) (h0 : 0 ≤ t) (h3 : t < 3) (hx : E.th t = none) (hn : E.n < 64) (hy : E.y ≤ 64) (hc : E.c ≤ 64) (ho : E.lk.own = none) :
    Calls Try.prog 8 #[ptr eb, .int .i64 t] w (RetPost lo w eb { E with n := E.n + 1, y := E.y + 1, c := E.c + 1, m := E.m + 1, th := updT E.th t (some (newT E.n E.lk.cnt)) } (.tuple #[.int .i64 E.n, .int .i64 0])) := by
  have HM := Lib.hid (may_any w eb t h0 h3)
  have HS := Lib.hid (Seq.snap_any _ B.lb E.lk h.lock)
  have HSE := Lib.hid (show E.lk.snapE = 0 by unfold Seq.St.snapE; rw [ho]; rfl)
  have HSV := Lib.hid (show E.lk.snapV = E.lk.cnt by unfold Seq.St.snapV; rw [ho]; rfl)
  obtain ⟨ys, hrow⟩ := h.kys
  obtain ⟨ka, kc, hk⟩ := ownsRow_slice hrow
  have hlk := h.look t h0 h3 w (Below.refl _ _)
  rw [hx] at hlk
  simp only [Option.map_none, Option.getD_none] at hlk
  have hob := h.obj
  rw [hk] at hob
  have e0 := blk_cell hob 0; simp only [List.getElem?_toArray, List.getElem?_cons_zero, List.getElem?_cons_succ] at e0
  have e2 := blk_cell hob 2; simp only [List.getElem?_toArray, List.getElem?_cons_zero, List.getElem?_cons_succ] at e2
  have e4 := blk_cell hob 4; simp only [List.getElem?_toArray, List.getElem?_cons_zero, List.getElem?_cons_succ] at e4
  have g1 : ¬ (64 : Int) ≤ (E.n : Int) := by omega
  have hb1 := h.linv.lo; have hb2 := h.linv.hi
  obtain ⟨cn, hcn⟩ : ∃ cn, E.lk.cnt = cn := ⟨_, rfl⟩
  rw [hcn] at hb1 hb2 HSV ⊢
  have H := Lib.hid h; have HX := Lib.hid hx; have HK := Lib.hid hk; have HC := Lib.hid hc; have HCN := Lib.hid hcn; have HLO := Lib.hid hlo; have HY := Lib.hid hy; have HN := Lib.hid hn; have HMM := Lib.hid hm
  clear h hrow hk hob hx hn ho hc hcn hlo hy hm
  go_enter Try.func8, Try.ntmps8
  go_wp2_with fail
  refine HM.out.mono ?_
  rintro e w1 ⟨rfl, rfl⟩
  go_wp2_with fail
  refine HS.out.mono ?_
  rintro e w2 ⟨rfl, l2⟩
  rw [HSE.out, HSV.out]
  go_wp2_with fail
  have h2 := H.out.below l2
  have e2' := bkeep l2 e2
  have HL2 := Lib.hid l2; have H2 := Lib.hid h2
  clear e2 e4 hlk HM HS l2 h2
  have hS0 : w2.drew.cell? ⟨eb, 2, none⟩ = some (.map (some B.mb)) := e2'
  clear e2'
  refine wp_region_F (fun w' => w'.cell? ⟨eb, 2, none⟩ = some (.map (some B.mb))) 11 (by kernel_rfl) ?_
  refine wpAnyF_take (i := 0) (v := ?_) rfl (by kernel_rfl) (by kernel_rfl) (by kernel_rfl) (by kernel_rfl) (fun _ _ _ h => h) (Or.inl ⟨by rfl, ?_⟩) (by assumption) ?_; rotate_left; (focus (intro w hSw; (skip); (first | (go_simp; done) | (go_simp; with_reducible rfl)))); (try simp only [Act.put, List.setIfInBounds_toArray, List.set_cons_zero, List.set_cons_succ])
  refine wpAnyF_take (i := 1) (v := ?_) rfl (by kernel_rfl) (by kernel_rfl) (by kernel_rfl) (by kernel_rfl) (fun _ _ _ h => h) (Or.inl ⟨by rfl, ?_⟩) (by assumption) ?_; rotate_left; (focus (intro w hSw; (skip); (first | (go_simp; done) | (go_simp; with_reducible rfl)))); (try simp only [Act.put, List.setIfInBounds_toArray, List.set_cons_zero, List.set_cons_succ])
  refine wpAnyF_take (i := 2) (v := ?_) rfl (by kernel_rfl) (by kernel_rfl) (by kernel_rfl) (by kernel_rfl) (fun _ _ _ h => h) (Or.inl ⟨by rfl, ?_⟩) (by assumption) ?_; rotate_left; (focus (intro w hSw; (skip); (first | (go_simp; done) | (go_simp; with_reducible rfl)))); (try simp only [Act.put, List.setIfInBounds_toArray, List.set_cons_zero, List.set_cons_succ])
  refine wpAnyF_take (i := 3) (v := ?_) rfl (by kernel_rfl) (by kernel_rfl) (by kernel_rfl) (by kernel_rfl) (fun _ _ _ h => h) (Or.inl ⟨by rfl, ?_⟩) (by assumption) ?_; rotate_left; (focus (intro w hSw; (have q0 := hSw); (first | (go_simp; done) | (go_simp; with_reducible rfl)))); (try simp only [Act.put, List.setIfInBounds_toArray, List.set_cons_zero, List.set_cons_succ])
  refine wpAnyF_take (i := 4) (v := ?_) rfl (by kernel_rfl) (by kernel_rfl) (by kernel_rfl) (by kernel_rfl) (fun _ _ _ h => h) (Or.inl ⟨by rfl, ?_⟩) (by assumption) ?_; rotate_left; (focus (intro w hSw; (skip); (first | (go_simp; done) | (go_simp; with_reducible rfl)))); (try simp only [Act.put, List.setIfInBounds_toArray, List.set_cons_zero, List.set_cons_succ])
  refine wpAnyF_take (i := 7) (v := ?_) rfl (by kernel_rfl) (by kernel_rfl) (by kernel_rfl) (by kernel_rfl) (fun _ _ _ h => h) (Or.inl ⟨by rfl, ?_⟩) (by assumption) ?_; rotate_left; (focus (intro w hSw; (skip); (first | (go_simp; done) | (go_simp; with_reducible rfl)))); (try simp only [Act.put, List.setIfInBounds_toArray, List.set_cons_zero, List.set_cons_succ])
  refine wpAnyF_take (i := 8) (v := ?_) rfl (by kernel_rfl) (by kernel_rfl) (by kernel_rfl) (by kernel_rfl) (fun _ _ _ h => h) (Or.inl ⟨by rfl, ?_⟩) (by assumption) ?_; rotate_left; (focus (intro w hSw; (skip); (first | (go_simp; done) | (go_simp; with_reducible rfl)))); (try simp only [Act.put, List.setIfInBounds_toArray, List.set_cons_zero, List.set_cons_succ])
  refine wpAnyF_ready (rs := [5]) (by kernel_rfl) (by simp) ?_
  refine AllF.cons rfl (fun K hK => ?_) AllF.nil
  go_simp
  refine (setNew_any _).mono ?_
  rintro e w3 ⟨rfl, hse, l3⟩
  have hS3 := bkeep l3 hS0
  have L3 := Lib.hid (show Below w.heap.size w w3 from btrans HL2.out.drew (Nat.le_refl _) l3)
  have HSE3 := Lib.hid hse
  have hg2 : w.heap.size ≤ w2.drew.heap.size := HL2.out.drew.size
  obtain ⟨sb, hsb⟩ : ∃ sb, w2.drew.heap.size = sb := ⟨_, rfl⟩
  rw [hsb] at HSE3 hg2 ⊢
  clear hS0 l3 hse hsb
  refine hK.out _ _ (fun _ => hS3) ?_; clear hK K; (try simp only [Act.put, List.setIfInBounds_toArray, List.set_cons_zero, List.set_cons_succ])
  refine wpAnyF_ready (rs := [6]) (by kernel_rfl) (by simp) ?_
  refine AllF.cons rfl (fun K hK => ?_) AllF.nil
  go_simp
  refine (Wri.new_any _).mono ?_
  rintro e w4 ⟨qb, rfl, hq, hlog, l4⟩
  have hS4 := bkeep l4 hS3
  have L4 := Lib.hid (btrans L3.out (Nat.le_refl _) l4)
  have HSE4 := Lib.hid (set_frame HSE3.out (Only.empty l4 (Nat.le_refl _)) KindS.none id id)
  have HLOG := Lib.hid hlog
  have hqb : w.heap.size ≤ qb := Nat.le_trans L3.out.size hq
  clear hS3 l4 hq hlog HSE3 L3
  refine hK.out _ _ (fun _ => hS4) ?_; clear hK K; (try simp only [Act.put, List.setIfInBounds_toArray, List.set_cons_zero, List.set_cons_succ])
  refine wpAnyF_take (i := 9) (v := ?_) rfl (by kernel_rfl) (by kernel_rfl) (by kernel_rfl) (by kernel_rfl) (fun _ _ _ h => h) (Or.inl ⟨by rfl, ?_⟩) (by assumption) ?_; rotate_left; (focus (intro w hSw; (skip); (first | (go_simp; done) | (go_simp; with_reducible rfl)))); (try simp only [Act.put, List.setIfInBounds_toArray, List.set_cons_zero, List.set_cons_succ])
  refine wpAnyF_ready (rs := [10]) (by kernel_rfl) (by simp) ?_
  refine AllF.cons rfl (fun K hK => ?_) AllF.nil
  go_simp
  obtain ⟨W4, hW4⟩ : ∃ W4, w4.alloc (.cells #[ptr (sb + 1), Wri.ptr qb, .int .i64 E.n, .int .u64 cn, .int .u8 0, .int .i64 0, .int .u64 0, .int .i64 0, .int .i64 0, .int .i64 0, .int .u64 0, .int .u64 0, .bool false] 68) = W4 := ⟨_, rfl⟩
  rw [hW4]
  have l4 : Below w4.heap.size w4 W4 := by rw [← hW4]; repeat (first | (with_reducible exact Below.refl _ _) | (with_reducible apply Below.drew) | (with_reducible refine below_drewN ?_ _) | (with_reducible refine below_alloc' ?_ ?_ _; (focus ((try simp) <;> omega))) | (with_reducible refine below_set' ?_ ?_ _; (focus ((try simp) <;> omega))))
  have hb4 : W4.heap[w4.heap.size]? = some (.cells #[ptr (sb + 1), Wri.ptr qb, .int .i64 E.n, .int .u64 cn, .int .u8 0, .int .i64 0, .int .u64 0, .int .i64 0, .int .i64 0, .int .i64 0, .int .u64 0, .int .u64 0, .bool false] 68 (0, 0)) := by rw [← hW4]; simp [↓heap_alloc_eq, ↓heap_set_eq, ↓heap_drew_eq, ↓heap_drewN_eq, setObj, size_drewN]
  have hA : AttAt W4 ⟨w4.heap.size, qb, sb + 1, sb⟩ (newT E.n cn) := ⟨hb4, set_frame HSE4.out (Only.empty l4 (Nat.le_refl _)) KindS.none id id, ⟨_, rfl, log_frame HLOG.out (Only.empty l4 (Nat.le_refl _)) KindS.none id⟩⟩
  have lW := btrans L4.out (Nat.le_refl _) l4
  have hm4 := H.out.mp.below lW
  obtain ⟨w5, hrun, hm5, o5⟩ := MapIs.store (by kernel_rfl) Try.underlying56 hm4 (by have := HC.out; omega) (th_in h0 h3) (ptr w4.heap.size)
  have hadd := H.out.add t HX.out HLO.out lW (z := ⟨w4.heap.size, qb, sb + 1, sb⟩) ⟨L4.out.size, hqb, by show w.heap.size ≤ sb + 1; omega, hg2⟩ hA o5 hm5
  have HAD := Lib.hid hadd
  have hS4' := bkeep l4 hS4
  clear hW4 l4 hb4 hA lW hm4 hm5 o5 hadd HSE4 HLOG L4 hS4
  refine hK.out _ _ (fun _ => hS4') ?_; clear hK K; (try simp only [Act.put, List.setIfInBounds_toArray, List.set_cons_zero, List.set_cons_succ])
  refine wpAnyF_ready (rs := [11]) (by kernel_rfl) (by simp) ?_
  refine AllF.cons rfl (fun K hK => ?_) AllF.nil
  go_simp
  refine hK.out _ _ (fun h => absurd rfl h) ?_; clear hK K; (try simp only [Act.put, List.setIfInBounds_toArray, List.set_cons_zero, List.set_cons_succ]); refine wpAnyF_done (by kernel_rfl) ?_ _
  clear hS4' hrun
  obtain ⟨B6, hB6, hky⟩ : ∃ B6 : Bk, EngAt lo w5 eb B6 { E with c := E.c + 1, th := updT E.th t (some (newT E.n cn)) } ∧ B6.ky = .slice ka E.n kc := ⟨_, HAD.out.1, HK.out⟩
  have O6 := Lib.hid HAD.out.2
  have hob := hB6.obj
  rw [hky] at hob
  have z4 := blk_cell hob 4; simp only [List.getElem?_toArray, List.getElem?_cons_zero, List.getElem?_cons_succ] at z4
  obtain ⟨ys6, hrow6⟩ := hB6.kys
  rw [hky] at hrow6
  have lA : Below w5.heap.size w5 (w5.alloc (.cells #[.int .u64 (cn + 1)] 25)) := by repeat (first | (with_reducible exact Below.refl _ _) | (with_reducible apply Below.drew) | (with_reducible refine below_drewN ?_ _) | (with_reducible refine below_alloc' ?_ ?_ _; (focus ((try simp) <;> omega))) | (with_reducible refine below_set' ?_ ?_ _; (focus ((try simp) <;> omega))))
  have hnew : ∀ j u, ([.int .u64 (cn + 1)] : List Value)[j]? = some u → (w5.alloc (.cells #[.int .u64 (cn + 1)] 25)).cell? ((⟨w5.heap.size, 0, none⟩ : Addr).add j) = some u := by
    intro j u hu
    rw [Addr.add_lit, Nat.zero_add, blk_cell (blk_new w5 _) j]
    simpa using hu
  have HROW := Lib.hid (ownsRow_only (row_lift (base' := lo) hrow6 (by rw [← hky]; exact hB6.lo2.2.1)) (Only.empty lA (Nat.le_refl _)) fun _ _ h => h)
  have hlA : lo ≤ (w5.alloc (.cells #[.int .u64 (cn + 1)] 25)).heap.size := Nat.le_trans HLO.out (Nat.le_trans O6.out.size lA.size)
  have HNEW := Lib.hid hnew; have H6 := Lib.hid hB6; have LA := Lib.hid lA; have HKY := Lib.hid hky
  obtain ⟨iu, hiu, hzu0, hzu1, hzu2⟩ := info_parts infoU
  clear hB6 hob hrow6 lA hnew HAD hky e0
  go_wp2_with (at_builtin; refine wpList_append_own _ rfl _ _ 58 rfl lo 25 iu (.int .u64 0) 1 8 Try.underlying58 hiu hzu0 hzu1 hzu2 rfl (by decide) _ E.n ys6 rfl HROW.out ⟨w5.heap.size, 0, none⟩ 1 1 [.int .u64 (cn + 1)] rfl rfl HNEW.out ?c1 ?c2 ?c3 hlA ?_)
  case c1 => rfl
  case c2 => unfold maxLen; omega
  case c3 => omega
  intro v7 w7 hown7 hgr7 hnn7
  obtain ⟨na, nc, rfl⟩ := ownsRow_slice hown7
  have hk7 := H6.out.keyA (Nat.le_trans HLO.out O6.out.size) LA.out hown7 (by rw [HKY.out]; exact hgr7)
  obtain ⟨y4, f4, h7, o7⟩ := hk7
  rw [HKY.out] at y4
  obtain ⟨yw, hroww⟩ := h7.wys
  obtain ⟨wa, wc, hwy⟩ := ownsRow_slice hroww
  have hob := h7.obj
  rw [hwy] at hob hroww
  have z5 := blk_cell hob 5; simp only [List.getElem?_toArray, List.getElem?_cons_zero, List.getElem?_cons_succ] at z5
  have lA : Below (w7.setCell ⟨eb, 4, none⟩ (.slice na (E.n + 1) nc)).heap.size (w7.setCell ⟨eb, 4, none⟩ (.slice na (E.n + 1) nc)) ((w7.setCell ⟨eb, 4, none⟩ (.slice na (E.n + 1) nc)).alloc (.cells #[.int .u8 0] 35)) := by repeat (first | (with_reducible exact Below.refl _ _) | (with_reducible apply Below.drew) | (with_reducible refine below_drewN ?_ _) | (with_reducible refine below_alloc' ?_ ?_ _; (focus ((try simp) <;> omega))) | (with_reducible refine below_set' ?_ ?_ _; (focus ((try simp) <;> omega))))
  have hnew : ∀ j u, ([.int .u8 0] : List Value)[j]? = some u → ((w7.setCell ⟨eb, 4, none⟩ (.slice na (E.n + 1) nc)).alloc (.cells #[.int .u8 0] 35)).cell? ((⟨w7.heap.size, 0, none⟩ : Addr).add j) = some u := by
    intro j u hu
    rw [show w7.heap.size = (w7.setCell ⟨eb, 4, none⟩ (.slice na (E.n + 1) nc)).heap.size by simp, Addr.add_lit, Nat.zero_add, blk_cell (blk_new _ _) j]
    simpa using hu
  have HROWW := Lib.hid (ownsRow_only (row_lift (base' := lo) hroww (by rw [← hwy]; exact h7.lo2.2.2)) (Only.empty lA (Nat.le_refl _)) fun _ _ h => h)
  have O7 := Lib.hid (mut_trans O6.out o7)
  have hlW : lo ≤ ((w7.setCell ⟨eb, 4, none⟩ (.slice na (E.n + 1) nc)).alloc (.cells #[.int .u8 0] 35)).heap.size := Nat.le_trans HLO.out (Nat.le_trans O7.out.size lA.size)
  have HNEWW := Lib.hid hnew; have H7 := Lib.hid h7; have LAW := Lib.hid lA; have HWY := Lib.hid hwy
  obtain ⟨iw, hiw, hzw0, hzw1, hzw2⟩ := info_parts infoW
  clear h7 hob hroww lA hnew hwy o7 hown7 hgr7 hnn7 HROW HNEW H6 LA HKY O6 z4 hlA
  go_wp2_with (at_builtin; refine wpList_append_own _ rfl _ _ 59 rfl lo 35 iw (.int .u8 0) 1 1 Try.underlying59 hiw hzw0 hzw1 hzw2 rfl (by decide) _ E.y yw rfl HROWW.out ⟨w7.heap.size, 0, none⟩ 1 1 [.int .u8 0] rfl rfl HNEWW.out ?d1 ?d2 ?d3 hlW ?_)
  case d1 => rfl
  case d2 => have := HY.out; unfold maxLen; omega
  case d3 => have := HY.out; omega
  intro v8 w8 hown8 hgr8 hnn8
  obtain ⟨na8, nc8, rfl⟩ := ownsRow_slice hown8
  have hk8 := H7.out.whyA (Nat.le_trans HLO.out O7.out.size) LAW.out hown8 (by rw [HWY.out]; exact hgr8)
  obtain ⟨y5, f5, h8, o8⟩ := hk8
  rw [HWY.out] at y5
  have O8 := Lib.hid (mut_trans O7.out o8)
  have HT := Lib.hid (tell_any h8 (Nat.le_trans HLO.out O8.out.size) HMM.out 1 E.n 0 0)
  clear h8 o8 hown8 hgr8 hnn8 HROWW HNEWW H7 LAW HWY O7 z5 hlW y4 f4
  go_wp2_with fail
  refine HT.out.mono ?_
  rintro e w9 ⟨rfl, ⟨u, hE⟩, o9⟩
  have HE9 := Lib.hid hE
  have O9 := Lib.hid (mut_trans O8.out o9)
  clear hE o9 HT O8 y5 f5
  go_wp2_with fail
  refine bodyPost_ret (v := .tuple #[.int .i64 E.n, .int .i64 0]) ?_ rfl ?_; (focus (simp [results, Try.results8, go_sem, Nat.zero_le]; done))
  exact ⟨rfl, ⟨_, HE9.out⟩, O9.out⟩
end Go.Proofs.Ytgjemjogncnbnaa.Tad
