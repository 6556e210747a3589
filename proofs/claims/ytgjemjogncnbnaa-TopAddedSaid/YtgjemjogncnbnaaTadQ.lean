/- The engine: a write. -/
import Derived.Test.YtgjemjogncnbnaaTadP
namespace Go.Proofs.Ytgjemjogncnbnaa.Tad
open Go.RowKit
set_option linter.unusedSimpArgs false
set_option linter.unusedVariables false
set_option maxRecDepth 50000

theorem put_one {w : World} {b : Nat} {fs : List Wri.Frm} (h : ∃ xs, xs.map (·.2) = fs ∧ Wri.LogAt w b xs) (hf : fs = [[]]) {v : Int} (hv : 0 ≤ v ∧ v < 18446744073709551616) (hr : Wri.rightVal v = true) :
    Calls Try.prog 51 #[ptr b, .int .i64 0, .int .u64 v] w fun e w' => e = .returned (.int .i64 0) ∧ Only (fun k => k = b) w w' ∧ ∃ xs, xs.map (·.2) = [[(0, v)]] ∧ Wri.LogAt w' b xs := by
  obtain ⟨xs, e, hl⟩ := h
  rw [hf] at e
  match xs, e, hl with
  | [(u, f)], e, hl =>
    simp only [List.map_cons, List.map_nil, List.cons.injEq, and_true] at e
    subst e
    refine (Wri.lput_to w b (u, []) [] hl (by simp) 0 v hv [(0, v)] ?_ rfl).mono ?_
    · unfold Wri.putE
      rw [if_neg (by decide), if_neg (by rw [hr]; decide)]
      exact if_neg (fun hh => by have := hh.2; simp [Wri.lenAll] at this)
    · rintro e w' ⟨u', rfl, ho, hL⟩
      exact ⟨rfl, ho, _, rfl, hL⟩
set_option maxHeartbeats 3200000 in
theorem turn_any {lo : Nat} {w : World} {eb : Nat} {B : Bk} {E : Eng} (h : EngAt lo w eb B E) (hlo : lo ≤ w.heap.size) (hm : E.m ≤ 1000000) (t : Int) {x : T} (hx : E.th t = some x) (hk : x.kd = 2) (hf : x.fs = [[]]) (hv : 0 ≤ x.av ∧ x.av < 18446744073709551616) (hr : Wri.rightVal x.av = true) :
    Calls Try.prog 25 #[ptr eb, .int .i64 t, ptr (B.pt t).p] w (RPost lo w eb { E with m := E.m + 1, th := updT E.th t (some { x with fs := [[(0, x.av)]], kd := 0, av := 0 }) } (reply true 0 false 0 false 0 0)) := by
  have l1 : Below w.heap.size w (w.alloc (.cells #[.bool false, .int .u64 0, .bool false, .int .i64 0, .bool false, .int .u8 0, .int .i64 0] 38)) := (by repeat (first | (with_reducible exact Below.refl _ _) | (with_reducible apply Below.drew) | (with_reducible refine below_drewN ?_ _) | (with_reducible refine below_alloc' ?_ ?_ _; (focus ((try simp) <;> omega))) | (with_reducible refine below_set' ?_ ?_ _; (focus ((try simp) <;> omega))))); have hbr : (w.alloc (.cells #[.bool false, .int .u64 0, .bool false, .int .i64 0, .bool false, .int .u8 0, .int .i64 0] 38)).heap[w.heap.size]? = some (.cells #[.bool false, .int .u64 0, .bool false, .int .i64 0, .bool false, .int .u8 0, .int .i64 0] 38 (0, 0)) := (by simp [↓heap_alloc_eq, ↓heap_set_eq, ↓heap_drew_eq, ↓heap_drewN_eq, setObj, size_drewN]); have h1 := h.below l1; have hel := blk_lt h.obj; have hen : ¬ eb = w.heap.size := (by omega); have hpl := blk_lt (h.ths t x hx).obj; have hpn : ¬ (B.pt t).p = w.heap.size := (by omega)
  have hc := (h.ths t x hx).cells
  have x2 := (hc 2 _ rfl).1; have x4 := (hc 4 _ rfl).1
  rw [hk] at x4
  have hpn1 : ¬ (B.pt t).p = w.heap.size + 1 := by omega
  have H := Lib.hid h; have HX := Lib.hid hx; have HF := Lib.hid hf; have HV := Lib.hid hv; have HR := Lib.hid hr; have HPL := Lib.hid hpl; have HLO := Lib.hid hlo
  clear h1 l1 hbr hc hx hk hf hv hr
  go_enter Try.func25, Try.ntmps25
  go_wp2_with fail
  obtain ⟨W, hW⟩ : ∃ W, (w.alloc (.cells #[.bool false, .int .u64 0, .bool false, .int .i64 0, .bool false, .int .u8 0, .int .i64 0] 38)).alloc (.cells #[.int .u8 0, .int .i64 x.num, .int .i64 0, .int .u64 0] 80) = W := ⟨_, rfl⟩
  have l1 : Below w.heap.size w W.drew := by rw [← hW]; repeat (first | (with_reducible exact Below.refl _ _) | (with_reducible apply Below.drew) | (with_reducible refine below_drewN ?_ _) | (with_reducible refine below_alloc' ?_ ?_ _; (focus ((try simp) <;> omega))) | (with_reducible refine below_set' ?_ ?_ _; (focus ((try simp) <;> omega))))
  have hbr : W.drew.heap[w.heap.size]? = some (.cells #[.bool false, .int .u64 0, .bool false, .int .i64 0, .bool false, .int .u8 0, .int .i64 0] 38 (0, 0)) := by rw [← hW]; simp [↓heap_alloc_eq, ↓heap_set_eq, ↓heap_drew_eq, ↓heap_drewN_eq, setObj, size_drewN]
  have hev : W.drew.heap[w.heap.size + 1]? = some (.cells #[.int .u8 0, .int .i64 x.num, .int .i64 0, .int .u64 0] 80 (0, 0)) := by rw [← hW]; simp [↓heap_alloc_eq, ↓heap_set_eq, ↓heap_drew_eq, ↓heap_drewN_eq, setObj, size_drewN]
  rw [hW]
  clear hW x2 x4
  have hes : w.heap.size + 1 < W.heap.size := blk_lt hev
  have h1 := H.out.below l1
  have hc := (h1.ths t x HX.out).cells
  have c5 := (hc 5 _ rfl).1; have c6 := (hc 6 _ rfl).1
  obtain ⟨pb, hpb⟩ : ∃ pb, (B.pt t).p = pb := ⟨_, rfl⟩
  have HPB := Lib.hid hpb
  rw [hpb] at c5 c6 hpn1 hpn hpl ⊢
  obtain ⟨ve, hve⟩ : ∃ ve, w.heap.size + 1 = ve := ⟨_, rfl⟩
  have HVE := Lib.hid hve
  rw [hve] at hev hpn1 hes ⊢
  have hpn2 : ¬ ve = pb := fun e => hpn1 e.symm
  clear hpb hve
  have hevw : W.heap[ve]? = _ := hev
  have heA : (W.setCell ⟨ve, 0, none⟩ (.int .u8 3)).drew.heap[ve]? = some (.cells #[.int .u8 3, .int .i64 x.num, .int .i64 0, .int .u64 0] 80 (0, 0)) := by simp [↓heap_alloc_eq, ↓heap_set_eq, ↓heap_drew_eq, ↓heap_drewN_eq, setObj, size_drewN, hevw]
  have heB : ((W.setCell ⟨ve, 0, none⟩ (.int .u8 3)).setCell ⟨ve, 2, none⟩ (.int .i64 0)).drew.heap[ve]? = some (.cells #[.int .u8 3, .int .i64 x.num, .int .i64 0, .int .u64 0] 80 (0, 0)) := by simp [↓heap_alloc_eq, ↓heap_set_eq, ↓heap_drew_eq, ↓heap_drewN_eq, setObj, size_drewN, hevw]
  have heC : (((W.setCell ⟨ve, 0, none⟩ (.int .u8 3)).setCell ⟨ve, 2, none⟩ (.int .i64 0)).setCell ⟨ve, 3, none⟩ (.int .u64 x.av)).drew.heap[ve]? = some (.cells #[.int .u8 3, .int .i64 x.num, .int .i64 0, .int .u64 x.av] 80 (0, 0)) := by simp [↓heap_alloc_eq, ↓heap_set_eq, ↓heap_drew_eq, ↓heap_drewN_eq, setObj, size_drewN, hevw]
  have HEC := Lib.hid heC
  have v0 := blk_cell hev 0; have z0 := blk_free hev 0; have v2 := blk_cell heA 2; have z2 := blk_free heA 2; have v3 := blk_cell heB 3; have z3 := blk_free heB 3
  simp only [List.getElem?_toArray, List.getElem?_cons_zero, List.getElem?_cons_succ] at v0 v2 v3
  have v0' : W.cell? ⟨ve, 0, none⟩ = _ := v0
  have z0' : W.frozen? ⟨ve, 0, none⟩ = _ := z0
  have v2' : (W.setCell ⟨ve, 0, none⟩ (.int .u8 3)).cell? ⟨ve, 2, none⟩ = _ := v2
  have z2' : (W.setCell ⟨ve, 0, none⟩ (.int .u8 3)).frozen? ⟨ve, 2, none⟩ = _ := z2
  have v3' : ((W.setCell ⟨ve, 0, none⟩ (.int .u8 3)).setCell ⟨ve, 2, none⟩ (.int .i64 0)).cell? ⟨ve, 3, none⟩ = _ := v3
  have z3' : ((W.setCell ⟨ve, 0, none⟩ (.int .u8 3)).setCell ⟨ve, 2, none⟩ (.int .i64 0)).frozen? ⟨ve, 3, none⟩ = _ := z3
  have w0 := blk_cell hev 2; have w3 := blk_cell hev 3; have y2 := blk_free hev 2; have y3 := blk_free hev 3
  simp only [List.getElem?_toArray, List.getElem?_cons_zero, List.getElem?_cons_succ] at w0 w3
  have w0' : W.cell? ⟨ve, 2, none⟩ = _ := w0
  have w3' : W.cell? ⟨ve, 3, none⟩ = _ := w3
  have y2' : W.frozen? ⟨ve, 2, none⟩ = _ := y2
  have y3' : W.frozen? ⟨ve, 3, none⟩ = _ := y3
  have oA : Only (fun k => k = ve) W.drew (W.setCell ⟨ve, 0, none⟩ (.int .u8 3)).drew := (Only.refl (fun k => k = ve) W.drew).setCell (p := ⟨ve, 0, none⟩) (.inr rfl) _
  have oB : Only (fun k => k = ve) W.drew ((W.setCell ⟨ve, 0, none⟩ (.int .u8 3)).setCell ⟨ve, 2, none⟩ (.int .i64 0)).drew := oA.setCell (p := ⟨ve, 2, none⟩) (.inr rfl) _
  have oC : Only (fun k => k = ve) W.drew (((W.setCell ⟨ve, 0, none⟩ (.int .u8 3)).setCell ⟨ve, 2, none⟩ (.int .i64 0)).setCell ⟨ve, 3, none⟩ (.int .u64 x.av)).drew := oB.setCell (p := ⟨ve, 3, none⟩) (.inr rfl) _
  have Q0 := And.intro c5 c6
  have Q1 := And.intro (oA.cell c5 hpn1) (oA.cell c6 hpn1)
  have Q2 := And.intro (oB.cell c5 hpn1) (oB.cell c6 hpn1)
  have Q3 := And.intro (oC.cell c5 hpn1) (oC.cell c6 hpn1)
  have lC : Below w.heap.size w (((W.setCell ⟨ve, 0, none⟩ (.int .u8 3)).setCell ⟨ve, 2, none⟩ (.int .i64 0)).setCell ⟨ve, 3, none⟩ (.int .u64 x.av)).drew := (((l1.setCell (p := ⟨ve, 0, none⟩) (by show w.heap.size ≤ ve; have := HVE.out; omega) _).setCell (p := ⟨ve, 2, none⟩) (by show w.heap.size ≤ ve; have := HVE.out; omega) _).setCell (p := ⟨ve, 3, none⟩) (by show w.heap.size ≤ ve; have := HVE.out; omega) _)
  have LC := Lib.hid lC
  have HBC := Lib.hid (oC.blk hbr (by show ¬ w.heap.size = ve; have := HVE.out; omega))
  clear hev hevw heA heB heC l1 hbr h1 hc lC oA oB oC c5 c6 v0 z0 v2 z2 v3 z3 w0 w3 y2 y3
  go_region_held3 (fun w' => w'.cell? ⟨pb, 5, none⟩ = some (.int .i64 0) ∧ w'.cell? ⟨pb, 6, none⟩ = some (.int .u64 x.av)) (first | (with_reducible exact Q0) | (with_reducible exact Q1) | (with_reducible exact Q2) | (with_reducible exact Q3)) (fail)
  rename_i hHeld
  clear hHeld v0' z0' v2' z2' v3' z3' w0' w3' y2' y3' Q0 Q1 Q2 Q3
  generalize (((W.setCell ⟨ve, 0, none⟩ (.int .u8 3)).setCell ⟨ve, 2, none⟩ (.int .i64 0)).setCell ⟨ve, 3, none⟩ (.int .u64 x.av)).drew = W5 at HEC LC HBC ⊢
  have H5 := Lib.hid (show EngAt lo W5.drew eb B E from (H.out.below LC.out).below (Below.refl _ _).drew)
  have HB5 := Lib.hid (show W5.drew.heap[w.heap.size]? = _ from HBC.out)
  have HE5 := Lib.hid (show W5.drew.heap[ve]? = _ from HEC.out)
  have L5 := Lib.hid (show Below w.heap.size w W5.drew from LC.out.drew)
  clear HEC HBC LC H
  go_wp2_with fail
  refine wp_region_tail 8 (by kernel_rfl) (by kernel_rfl) ?_; simp only [List.take_succ_cons, List.take_zero, List.drop_succ_cons, List.drop_zero]
  generalize W5.drew = WD at *
  have hc := (H5.out.ths t x HX.out).cells
  have x1 := (hc 1 _ rfl).1
  rw [HPB.out] at x1
  have he5 := HE5.out
  have e2 := blk_cell he5 2; have e3 := blk_cell he5 3
  simp only [List.getElem?_toArray, List.getElem?_cons_zero, List.getElem?_cons_succ] at e2 e3
  have HP := Lib.hid (put_one (H5.out.ths t x HX.out).log HF.out HV.out HR.out)
  clear hc he5
  iterate 8 (with_reducible refine wpStill_step (fun KK hKK => ?_); go_simp; refine hKK _ ?_; clear hKK KK)
  with_reducible refine wpStill_nil ?_
  go_wp2_with fail
  refine HP.out.mono ?_
  rintro e w6 ⟨rfl, o6, hL⟩
  have hA := H5.out.ths t x HX.out
  obtain ⟨ov, hs1, _, hmm, _⟩ := hA.set
  obtain ⟨xs, hxe, ha, hl1, hl2⟩ := hA.log
  have hK : KindS WD (fun k => k = (B.pt t).q) := .one hl1 (by show _ ∈ _; decide)
  have hthr := H5.out.thr HX.out (y := { x with fs := [[(0, x.av)]] }) o6 (fun k hk _ => .inl hk) (.inl rfl)
    ⟨o6.blk hA.obj (blk_ne hA.obj hl1 (by decide)), set_frame hA.set o6 hK (blk_ne hs1 hl1 (by decide)) (map_ne hmm hl1), hL⟩
  have O6 := Lib.hid (mut_trans (mut_below (lo := lo) L5.out) hthr.2)
  have hev6 := o6.blk HE5.out (blk_ne HE5.out hl1 (by decide))
  have hbr6 := o6.blk HB5.out (blk_ne HB5.out hl1 (by decide))
  have HT := Lib.hid (tell_any hthr.1 (Nat.le_trans HLO.out O6.out.size) hm 3 x.num 0 x.av)
  have HX6 := Lib.hid (updT_same E.th t { x with fs := [[(0, x.av)]] })
  have HB6 := Lib.hid hbr6
  have e0 := blk_cell hev6 0; have e1 := blk_cell hev6 1; have e2 := blk_cell hev6 2; have e3 := blk_cell hev6 3
  simp only [List.getElem?_toArray, List.getElem?_cons_zero, List.getElem?_cons_succ] at e0 e1 e2 e3
  have hpp : (({ B.pt t with b := (B.pt t).b } : Pt)).p = pb := HPB.out
  clear hA hs1 hmm hxe hl1 hl2 ha hK hthr o6 hL hev6 hbr6 HP HE5 HB5 L5
  go_wp2_with fail
  refine HT.out.mono ?_
  rintro e w7 ⟨rfl, ⟨u, hE⟩, o7⟩
  have hbr7 := mut_keep o7 HB6.out (by decide)
  have HB7 := Lib.hid hbr7
  have O7 := Lib.hid (mut_trans O6.out o7)
  have hd := done_any hE HX6.out 0
  simp only [if_true, updT_twice] at hd
  rw [HPB.out] at hd
  have HD := Lib.hid hd
  clear hE o7 hbr7 hd HT HB6 O6 e0 e1 e2 e3
  go_wp2_with fail
  refine HD.out.mono ?_
  rintro e w8 ⟨rfl, hE, o8⟩
  have hbr8 := mut_keep o8 HB7.out (by decide)
  have HE8 := Lib.hid hE; have O8 := Lib.hid (mut_trans O7.out o8); have HB8 := Lib.hid hbr8
  have r0 := blk_cell hbr8 0; have r1 := blk_cell hbr8 1; have r2 := blk_cell hbr8 2; have r3 := blk_cell hbr8 3; have r4 := blk_cell hbr8 4; have r5 := blk_cell hbr8 5; have r6 := blk_cell hbr8 6; have s0 := blk_free hbr8 0; have s1 := blk_free hbr8 1; have s2 := blk_free hbr8 2; have s3 := blk_free hbr8 3; have s4 := blk_free hbr8 4; have s5 := blk_free hbr8 5; have s6 := blk_free hbr8 6; simp only [List.getElem?_toArray, List.getElem?_cons_zero, List.getElem?_cons_succ] at r0 r1 r2 r3 r4 r5 r6
  clear hE o8 hbr8 HD HB7
  unfold reply
  go_wp2_with fail
  have hfin := reply_end HE8.out O8.out HB8.out (Nat.le_refl _) (repW_only _ w.heap.size true 0 false 0 false 0 0); have hz := repW_obj HB8.out true 0 false 0 false 0 0; refine bodyPost_ret (v := reply true 0 false 0 false 0 0) ?_ rfl ?_; (focus (refine (show (results _ _).run _ (repW _ w.heap.size true 0 false 0 false 0 0) = .ok _ (repW _ w.heap.size true 0 false 0 false 0 0) from ?_); have z0 := blk_cell hz 0; have z1 := blk_cell hz 1; have z2 := blk_cell hz 2; have z3 := blk_cell hz 3; have z4 := blk_cell hz 4; have z5 := blk_cell hz 5; have z6 := blk_cell hz 6; simp only [List.getElem?_toArray, List.getElem?_cons_zero, List.getElem?_cons_succ] at z0 z1 z2 z3 z4 z5 z6; simp [results, Try.results25, go_sem, z0, z1, z2, z3, z4, z5, z6, reply]; done))
  exact ⟨rfl, ⟨_, hfin.1⟩, hfin.2⟩
end Go.Proofs.Ytgjemjogncnbnaa.Tad
