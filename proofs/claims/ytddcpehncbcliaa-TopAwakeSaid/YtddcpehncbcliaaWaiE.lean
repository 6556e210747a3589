/- Sleep; out, Cancel. -/
import Derived.Test.YtddcpehncbcliaaWaiD
import Derived.Deep.RegionLaw
namespace Go.Proofs.Ytddcpehncbcliaa.Wai
open Go.RowKit
set_option linter.unusedSimpArgs false
set_option linter.unusedVariables false

theorem sleep_bad {F : Nat → Prop} (w : World) (b n : Nat) (ws : Ws) (h : ListsAt w b F n ws) (th : Int) (hE : sleepE ws th ≠ 0) :
    Calls Try.prog 26 #[ptr b, .int .i64 th] w fun e w' => e = .returned (.int .i64 (sleepE ws th)) ∧ Below w.heap.size w w' := by
  have hget := get_any w b n ws h th
  by_cases ht : okTh th
  · have hge : getEr th = 0 := by unfold getEr; rw [if_pos ht]
    have h8 : sleepE ws th = 8 := by
      unfold sleepE at hE ⊢
      rw [if_neg (by simpa using ht)] at hE ⊢
      cases hf : findW ws th with
      | none => rfl
      | some x =>
        rw [hf] at hE
        simp only at hE ⊢
        cases hs : x.sl
        · rw [hs] at hE; exact absurd rfl hE
        · rfl
    have hcase : (findW ws th).isSome = false ∨ ((findW ws th).isSome = true ∧ gSl ws th = true) := by
      unfold gSl
      unfold sleepE at hE
      rw [if_neg (by simpa using ht)] at hE
      cases hf : findW ws th with
      | none => exact .inl rfl
      | some x =>
        right
        rw [hf] at hE
        simp only at hE
        cases hs : x.sl
        · rw [hs] at hE; exact absurd rfl hE
        · exact ⟨rfl, by simp [hs]⟩
    rw [hge] at hget
    rw [h8]
    rcases hcase with h1 | ⟨h1, h2⟩
    · rw [h1] at hget
      have HGET := Lib.hid hget
      clear hget h1 h8 hE hge h
      go_enter Try.func26, Try.ntmps26
      go_wp2_with fail
      refine HGET.out.mono ?_
      rintro e w1 ⟨rfl, l1⟩
      have L1 := Lib.hid l1
      clear l1
      go_wp2_with fail
      go_ret
      exact ⟨rfl, btrans L1.out (Nat.le_refl _) (by repeat (first | (with_reducible exact Below.refl _ _) | (with_reducible apply Below.drew) | (with_reducible refine below_drewN ?_ _) | (with_reducible refine below_alloc' ?_ ?_ _; (focus ((try simp) <;> omega))) | (with_reducible refine below_set' ?_ ?_ _; (focus ((try simp) <;> omega)))))⟩
    · rw [h1, h2] at hget
      have HGET := Lib.hid hget
      clear hget h1 h2 h8 hE hge h
      go_enter Try.func26, Try.ntmps26
      go_wp2_with fail
      refine HGET.out.mono ?_
      rintro e w1 ⟨rfl, l1⟩
      have L1 := Lib.hid l1
      clear l1
      go_wp2_with fail
      go_ret
      exact ⟨rfl, btrans L1.out (Nat.le_refl _) (by repeat (first | (with_reducible exact Below.refl _ _) | (with_reducible apply Below.drew) | (with_reducible refine below_drewN ?_ _) | (with_reducible refine below_alloc' ?_ ?_ _; (focus ((try simp) <;> omega))) | (with_reducible refine below_set' ?_ ?_ _; (focus ((try simp) <;> omega)))))⟩
  · have hge : getEr th = 2 := by unfold getEr; rw [if_neg ht]
    have h8 : sleepE ws th = 2 := by unfold sleepE; rw [if_pos ht]
    rw [hge] at hget
    rw [h8]
    have HGET := Lib.hid hget
    clear hget h8 hE hge h
    go_enter Try.func26, Try.ntmps26
    go_wp2_with fail
    refine HGET.out.mono ?_
    rintro e w1 ⟨rfl, l1⟩
    have L1 := Lib.hid l1
    clear l1
    go_wp2_with fail
    go_ret
    exact ⟨rfl, btrans L1.out (Nat.le_refl _) (by repeat (first | (with_reducible exact Below.refl _ _) | (with_reducible apply Below.drew) | (with_reducible refine below_drewN ?_ _) | (with_reducible refine below_alloc' ?_ ?_ _; (focus ((try simp) <;> omega))) | (with_reducible refine below_set' ?_ ?_ _; (focus ((try simp) <;> omega)))))⟩
set_option maxHeartbeats 1600000 in
theorem sleep_ok {F : Nat → Prop} (w : World) (b n : Nat) (ws : Ws) (h : ListsAt w b F n ws) (hn : n ≤ 1000) (th : Int) (hE : sleepE ws th = 0) :
    Calls Try.prog 26 #[ptr b, .int .i64 th] w fun e w' => e = .returned (.int .i64 0) ∧ ListsAt w' b (Grow F w w') (n + 1) (bedded ws th) ∧ Only F w w' := by
  have hget := get_any w b n ws h th
  obtain ⟨ht, x, hf, hs⟩ : okTh th ∧ ∃ x, findW ws th = some x ∧ x.sl = false := by
    unfold sleepE at hE
    have ht : okTh th := Decidable.not_not.1 fun hn => by rw [if_pos hn] at hE; cases hE
    rw [if_neg (fun hn => hn ht)] at hE
    cases hf : findW ws th with
    | none => rw [hf] at hE; cases hE
    | some x =>
      rw [hf] at hE
      simp only at hE
      refine ⟨ht, x, rfl, ?_⟩
      cases hs : x.sl
      · rfl
      · rw [hs] at hE; cases hE
  have hge : getEr th = 0 := by unfold getEr; rw [if_pos ht]
  have hgo : gOf ws th = x.of := by unfold gOf; rw [hf]; rfl
  have hgs : gSl ws th = false := by unfold gSl; rw [hf]; exact hs
  rw [hge, hgo, hgs, hf] at hget
  have HGET := Lib.hid hget
  have HWF := Lib.hid (h.wf.bedded th)
  obtain ⟨ov, bm, hb, ho, hmp, f1, f2, f3, f4, hwf⟩ := h
  have HB := Lib.hid hb; have HO := Lib.hid ho; have HM := Lib.hid hmp; have HF := Lib.hid hf; have HTH := Lib.hid ht
  have hblt := blk_lt hb
  clear hget hge hgo hgs hf ht hb ho hmp hwf hE
  obtain ⟨xo, hxo⟩ : ∃ xo, xo = x.of := ⟨_, rfl⟩
  rw [← hxo] at HGET
  have HXO := Lib.hid hxo
  clear hxo
  go_enter Try.func26, Try.ntmps26
  go_wp2_with fail
  refine HGET.out.mono ?_
  rintro e w1 ⟨rfl, l1⟩
  have L1 := Lib.hid l1
  have hsz1 := l1.size
  clear l1
  simp only [Option.isSome_some]
  go_wp2_with fail
  refine wp_at (fun w' => Below w.heap.size w w' ∧ w'.heap[w1.heap.size]? = some (.cells #[.int .u32 xo, .bool true] 61 (0, 0))) ⟨btrans L1.out (Nat.le_refl _) (by repeat (first | (with_reducible exact Below.refl _ _) | (with_reducible apply Below.drew) | (with_reducible refine below_drewN ?_ _) | (with_reducible refine below_alloc' ?_ ?_ _; (focus ((try simp) <;> omega))) | (with_reducible refine below_set' ?_ ?_ _; (focus ((try simp) <;> omega))))), by simp [↓heap_alloc_eq, ↓heap_set_eq, ↓heap_drew_eq, ↓heap_drewN_eq, setObj, size_drewN]⟩ ?_
  rintro W2 ⟨l2, hx2⟩
  have hb2 := bblk l2 HB.out
  have hm2 := HM.out.below l2
  have ho2 := ownsRow_only HO.out (Only.empty l2 (Nat.le_refl _)) (fun _ _ h => h)
  have b1 := blk_cell hb2 1
  have y0 := blk_cell hx2 0; have y1 := blk_cell hx2 1
  simp only [List.getElem?_toArray, List.getElem?_cons_zero, List.getElem?_cons_succ] at b1 y0 y1
  obtain ⟨w5, hrun, hm5, o5⟩ := MapIs.store (w := W2.drew) (by kernel_rfl) Try.underlying55 hm2 (by omega) (okTh_in HTH.out) (.agg #[.int .u32 xo, .bool true])
  have HM5 := Lib.hid hm5; have O5 := Lib.hid o5; have HB2 := Lib.hid hb2; have HM2 := Lib.hid hm2; have HO2 := Lib.hid ho2; have L2 := Lib.hid l2
  have hS0 : W2.drew.cell? ⟨b, 1, none⟩ = some (.map (some bm)) ∧ W2.drew.cell? ⟨w1.heap.size, 0, none⟩ = some (.int .u32 xo) ∧ W2.drew.cell? ⟨w1.heap.size, 1, none⟩ = some (.bool true) := ⟨b1, y0, y1⟩
  clear hb2 hm2 ho2 b1 y0 y1 hm5 o5 l2 hx2
  refine wp_region_F (fun w' => w'.cell? ⟨b, 1, none⟩ = some (.map (some bm)) ∧ w'.cell? ⟨w1.heap.size, 0, none⟩ = some (.int .u32 xo) ∧ w'.cell? ⟨w1.heap.size, 1, none⟩ = some (.bool true)) 6 (by kernel_rfl) ?_
  refine wpAnyF_take (i := 0) (v := ?_) rfl (by kernel_rfl) (by kernel_rfl) (by kernel_rfl) (by kernel_rfl) (fun _ _ _ h => h) (Or.inl ⟨by rfl, ?_⟩) (by assumption) ?_; rotate_left; (focus (intro w hSw; (skip); (first | (go_simp; done) | (go_simp; with_reducible rfl)))); try simp only [Act.put, List.setIfInBounds_toArray, List.set_cons_zero, List.set_cons_succ]
  refine wpAnyF_take (i := 1) (v := ?_) rfl (by kernel_rfl) (by kernel_rfl) (by kernel_rfl) (by kernel_rfl) (fun _ _ _ h => h) (Or.inl ⟨by rfl, ?_⟩) (by assumption) ?_; rotate_left; (focus (intro w hSw; (skip); (first | (go_simp; done) | (go_simp; with_reducible rfl)))); try simp only [Act.put, List.setIfInBounds_toArray, List.set_cons_zero, List.set_cons_succ]
  refine wpAnyF_take (i := 2) (v := ?_) rfl (by kernel_rfl) (by kernel_rfl) (by kernel_rfl) (by kernel_rfl) (fun _ _ _ h => h) (Or.inl ⟨by rfl, ?_⟩) (by assumption) ?_; rotate_left; (focus (intro w hSw; (skip); (first | (go_simp; done) | (go_simp; with_reducible rfl)))); try simp only [Act.put, List.setIfInBounds_toArray, List.set_cons_zero, List.set_cons_succ]
  refine wpAnyF_take (i := 3) (v := ?_) rfl (by kernel_rfl) (by kernel_rfl) (by kernel_rfl) (by kernel_rfl) (fun _ _ _ h => h) (Or.inl ⟨by rfl, ?_⟩) (by assumption) ?_; rotate_left; (focus (intro w hSw; (obtain ⟨q0, q1, q2⟩ := hSw); (first | (go_simp; done) | (go_simp; with_reducible rfl)))); try simp only [Act.put, List.setIfInBounds_toArray, List.set_cons_zero, List.set_cons_succ]
  refine wpAnyF_take (i := 4) (v := ?_) rfl (by kernel_rfl) (by kernel_rfl) (by kernel_rfl) (by kernel_rfl) (fun _ _ _ h => h) (Or.inl ⟨by rfl, ?_⟩) (by assumption) ?_; rotate_left; (focus (intro w hSw; (skip); (first | (go_simp; done) | (go_simp; with_reducible rfl)))); try simp only [Act.put, List.setIfInBounds_toArray, List.set_cons_zero, List.set_cons_succ]
  refine wpAnyF_take (i := 5) (v := ?_) rfl (by kernel_rfl) (by kernel_rfl) (by kernel_rfl) (by kernel_rfl) (fun _ _ _ h => h) (Or.inl ⟨by rfl, ?_⟩) (by assumption) ?_; rotate_left; (focus (intro w hSw; (obtain ⟨q0, q1, q2⟩ := hSw); (first | (go_simp; done) | (go_simp; with_reducible rfl)))); try simp only [Act.put, List.setIfInBounds_toArray, List.set_cons_zero, List.set_cons_succ]
  refine wpAnyF_ready (rs := [6]) (by kernel_rfl) (by simp) ?_
  refine AllF.cons rfl (fun K hK => ?_) AllF.nil
  go_simp
  refine hK.out _ _ (fun h => absurd rfl h) ?_; clear hK K; (try simp only [Act.put, List.setIfInBounds_toArray, List.set_cons_zero, List.set_cons_succ]); refine wpAnyF_done (by kernel_rfl) ?_ _
  clear hS0 hrun
  go_wp2_with fail
  go_ret
  have oF : Only F w w5 := (Only.of_below (B := w.heap.size) (S := F) L2.out.drew (fun q hq h => absurd hq (Nat.not_lt.2 h))).trans (O5.out.mono fun q _ e => e ▸ f2)
  refine ⟨rfl, ⟨ov, bm, O5.out.blk (w := W2.drew) HB2.out (fun e => by subst e; exact HM2.out.not_cells HB2.out), ?_, ?_, .inl f1, .inl f2, fun q hq => .inl (f3 q hq), f4.grow oF.size, HWF.out⟩, oF⟩
  · have hr := ownsRow_only (w := W2.drew) HO2.out O5.out (fun q hq e => by obtain ⟨cs, hg⟩ := row_obj HO2.out hq; subst e; exact HM2.out.not_cells hg)
    rw [ths_bedded, show (bedded ws th).length = ws.length by simp [bedded]]
    exact hr
  · rw [← mapW_bedded HF.out]
    exact (show xo = x.of from HXO.out) ▸ HM5.out
theorem sleep_any {F : Nat → Prop} (w : World) (b n : Nat) (ws : Ws) (h : ListsAt w b F n ws) (hn : n ≤ 1000) (th : Int) :
    Calls Try.prog 26 #[ptr b, .int .i64 th] w (OpPost w b F n (sleepE ws th) (sleepS ws th)) := by
  by_cases hE : sleepE ws th = 0
  · have hS : sleepS ws th = bedded ws th := by unfold sleepS; rw [if_pos hE]
    rw [hE, hS]
    exact sleep_ok w b n ws h hn th hE
  · have hS : sleepS ws th = ws := by unfold sleepS; rw [if_neg hE]
    rw [hS]
    refine (sleep_bad w b n ws h th hE).mono ?_
    rintro e w' ⟨rfl, l⟩
    exact ⟨rfl, h.op l⟩
/-! ### out, Cancel -/
set_option maxHeartbeats 1600000 in
theorem out_any {F : Nat → Prop} (w : World) (b n : Nat) (ws : Ws) (h : ListsAt w b F n ws) (th : Int) (ht : okTh th) :
    Calls Try.prog 38 #[ptr b, .int .i64 th] w fun e w' => e = .returned (.tuple #[]) ∧ ListsAt w' b (Grow F w w') n (without ws th) ∧ Only F w w' := by
  have hlen := h.wf.len
  have HWF := Lib.hid (h.wf.without th)
  obtain ⟨ov, bm, hb, ho, hmp, f1, f2, f3, f4, hwf⟩ := h
  have hblt := blk_lt hb
  obtain ⟨W, hW⟩ : ∃ W, w.alloc (.cells #[.int .i64 th] 3) = W := ⟨_, rfl⟩
  have lW : Below w.heap.size w W := by rw [← hW]; repeat (first | (with_reducible exact Below.refl _ _) | (with_reducible apply Below.drew) | (with_reducible refine below_drewN ?_ _) | (with_reducible refine below_alloc' ?_ ?_ _; (focus ((try simp) <;> omega))) | (with_reducible refine below_set' ?_ ?_ _; (focus ((try simp) <;> omega))))
  have hx := blk_new w (.cells #[.int .i64 th] 3)
  rw [hW] at hx
  have hb1 := bblk lW hb
  have hm1 := hmp.below lW
  have ho1 := ownsRow_only ho (Only.empty lW (Nat.le_refl _)) (fun _ _ h => h)
  have b1 := blk_cell hb1 1; have x0 := blk_cell hx 0
  simp only [List.getElem?_toArray, List.getElem?_cons_zero, List.getElem?_cons_succ] at b1 x0
  obtain ⟨w2, hrun, hm2, o2⟩ := MapIs.drop (w := W.drew) (by kernel_rfl) Try.underlying55 hm1 (okTh_in ht) 0
  have hb2 := o2.blk (w := W.drew) hb1 (fun e => by subst e; exact hm1.not_cells hb1)
  have hx2 := o2.blk (w := W.drew) hx (fun e => by subst e; exact hm1.not_cells hx)
  have ho2 := ownsRow_only (w := W.drew) ho1 o2 (fun q hq e => by obtain ⟨cs, hg⟩ := row_obj ho1 hq; subst e; exact hm1.not_cells hg)
  have hS0 : W.drew.cell? ⟨b, 1, none⟩ = some (.map (some bm)) ∧ W.drew.cell? ⟨w.heap.size, 0, none⟩ = some (.int .i64 th) := ⟨b1, x0⟩
  have b20 := blk_cell hb2 0
  have y0 := blk_cell hx2 0
  simp only [List.getElem?_toArray, List.getElem?_cons_zero, List.getElem?_cons_succ] at b20 y0
  have hfr := blk_free hb2 0
  have hS2 : w2.cell? ⟨b, 1, none⟩ = some (.map (some bm)) ∧ w2.cell? ⟨w.heap.size, 0, none⟩ = some (.int .i64 th) := ⟨blk_cell hb2 1, blk_cell hx2 0⟩
  have HB2 := Lib.hid hb2; have HM2 := Lib.hid hm2; have HO2 := Lib.hid ho2; have O2 := Lib.hid o2; have LW := Lib.hid lW; have HX2 := Lib.hid hx2; have HW := Lib.hid hW
  clear hb hmp hb1 hm1 ho1 b1 x0 hb2 hm2 ho2 o2 lW hx hx2 hwf ht hW
  go_enter Try.func38, Try.ntmps38
  go_wp2_with fail
  rw [HW.out]
  go_region_held3 (fun w' => w'.cell? ⟨b, 1, none⟩ = some (.map (some bm)) ∧ w'.cell? ⟨w.heap.size, 0, none⟩ = some (.int .i64 th)) (first | (with_reducible exact hS0) | (with_reducible exact hS2)) (fail)
  clear hS0 hS2 hrun
  have hD := delF_row w2 ov ws.length (ths ws) HO2.out (by omega) w.heap.size th y0 (fun e => by have := ownsRow_lt ho e; omega)
  have HD := Lib.hid hD
  clear hD
  go_wp2_with fail
  refine HD.out.mono ?_
  rintro e w3 ⟨va, vc, rfl, hr3, o3, hvb⟩
  have hb3 := o3.blk HB2.out (row_ne HO2.out HB2.out (by decide))
  have hm3 := HM2.out.only o3 (fun e => by obtain ⟨cs, hg⟩ := row_obj HO2.out e; exact HM2.out.not_cells hg)
  have c0 := blk_cell hb3 0; have cf := blk_free hb3 0
  simp only [List.getElem?_toArray, List.getElem?_cons_zero, List.getElem?_cons_succ] at c0
  have HB3 := Lib.hid hb3; have HM3 := Lib.hid hm3; have HR3 := Lib.hid hr3; have O3 := Lib.hid o3; have HVB := Lib.hid hvb
  clear hb3 hm3 hr3 o3 hvb b20 y0 hfr HD
  go_wp2_with fail
  go_end0
  have ho4 : Only (fun q => q = b) w3 (w3.setCell ⟨b, 0, none⟩ (.slice va (keepT (ths ws) th).length vc)) := (Only.refl (fun q => q = b) w3).setCell (p := ⟨b, 0, none⟩) (.inr rfl) _
  have hb4 := blk_set HB3.out 0 (.slice va (keepT (ths ws) th).length vc)
  have hr4 := ownsRow_only HR3.out ho4 (fun q hq e => by rw [HVB.out] at hq; exact row_ne HO2.out HB2.out (by decide) (e ▸ hq))
  have hbm : bm ≠ b := fun e => by subst e; exact HM3.out.not_cells HB3.out
  have hm4 := HM3.out.set (a := ⟨b, 0, none⟩) hbm (.slice va (keepT (ths ws) th).length vc)
  have oF : Only F w (w3.setCell ⟨b, 0, none⟩ (.slice va (keepT (ths ws) th).length vc)) := ((((Only.of_below (B := w.heap.size) (S := F) LW.out.drew (fun q hq h => absurd hq (Nat.not_lt.2 h))).trans (O2.out.mono fun q _ e => e ▸ f2)).trans (O3.out.mono fun q _ h => f3 q h))).trans (ho4.mono fun q _ e => e ▸ f1)
  have hlw : (without ws th).length = (keepT (ths ws) th).length := by
    have := congrArg List.length (ths_without ws th)
    simpa [ths, keepT] using this
  refine ⟨rfl, ⟨.slice va (keepT (ths ws) th).length vc, bm, by simpa using hb4, ?_, ?_, .inl f1, .inl f2, ?_, f4.grow oF.size, HWF.out⟩, oF⟩
  · rw [hlw, ths_without]
    exact hr4
  · rw [← mapW_without]
    exact hm4
  · intro q hq
    rw [HVB.out] at hq
    exact .inl (f3 q hq)
theorem canc_any {F : Nat → Prop} (w : World) (b n : Nat) (ws : Ws) (h : ListsAt w b F n ws) (th : Int) :
    Calls Try.prog 21 #[ptr b, .int .i64 th] w (OpPost w b F n (cancE ws th) (cancS ws th)) := by
  have hget := get_any w b n ws h th
  have H := Lib.hid h
  by_cases ht : okTh th
  · have hge : getEr th = 0 := by unfold getEr; rw [if_pos ht]
    rw [hge] at hget
    cases hi : (findW ws th).isSome
    · have hE : cancE ws th = 5 := by unfold cancE; rw [if_neg (by simpa using ht), hi]; rfl
      have hS : cancS ws th = ws := by unfold cancS; rw [hE]; rfl
      rw [hE, hS]
      rw [hi] at hget
      have HGET := Lib.hid hget
      clear hget hi hE hS hge h
      go_enter Try.func21, Try.ntmps21
      go_wp2_with fail
      refine HGET.out.mono ?_
      rintro e w1 ⟨rfl, l1⟩
      have L1 := Lib.hid l1
      clear l1
      go_wp2_with fail
      go_ret
      exact ⟨rfl, H.out.op (btrans L1.out (Nat.le_refl _) (by repeat (first | (with_reducible exact Below.refl _ _) | (with_reducible apply Below.drew) | (with_reducible refine below_drewN ?_ _) | (with_reducible refine below_alloc' ?_ ?_ _; (focus ((try simp) <;> omega))) | (with_reducible refine below_set' ?_ ?_ _; (focus ((try simp) <;> omega))))))⟩
    · have hE : cancE ws th = 0 := by unfold cancE; rw [if_neg (by simpa using ht), hi]; rfl
      have hS : cancS ws th = without ws th := by unfold cancS; rw [hE]; rfl
      rw [hE, hS]
      rw [hi] at hget
      have HGET := Lib.hid hget; have HTH := Lib.hid ht
      clear hget hi hE hS hge h ht
      go_enter Try.func21, Try.ntmps21
      go_wp2_with fail
      refine HGET.out.mono ?_
      rintro e w1 ⟨rfl, l1⟩
      have L1 := Lib.hid l1
      clear l1
      go_wp2_with fail
      obtain ⟨W2, hW2⟩ : ∃ W2, w1.alloc (.cells #[.int .u32 (gOf ws th), .bool (gSl ws th)] 61) = W2 := ⟨_, rfl⟩
      have L2 := Lib.hid (show Below w.heap.size w W2 from btrans L1.out (Nat.le_refl _) (by rw [← hW2]; repeat (first | (with_reducible exact Below.refl _ _) | (with_reducible apply Below.drew) | (with_reducible refine below_drewN ?_ _) | (with_reducible refine below_alloc' ?_ ?_ _; (focus ((try simp) <;> omega))) | (with_reducible refine below_set' ?_ ?_ _; (focus ((try simp) <;> omega))))))
      rw [hW2]
      refine (out_any W2 b n ws (H.out.below L2.out) th HTH.out).mono ?_
      rintro e w3 ⟨rfl, h3, o3⟩
      have H3 := Lib.hid h3; have O3 := Lib.hid o3
      clear h3 o3 hW2
      go_wp2_with fail
      go_ret
      refine ⟨rfl, ?_, (Only.of_below (B := w.heap.size) (S := F) L2.out (fun q hq h => absurd hq (Nat.not_lt.2 h))).trans O3.out⟩
      exact (H3.out.weaken L2.out.size (Nat.le_refl _)).mono (Nat.le_succ _)
  · have hge : getEr th = 2 := by unfold getEr; rw [if_neg ht]
    have hE : cancE ws th = 2 := by unfold cancE; rw [if_pos ht]
    have hS : cancS ws th = ws := by unfold cancS; rw [hE]; rfl
    rw [hE, hS]
    rw [hge] at hget
    have HGET := Lib.hid hget
    clear hget hE hS hge h ht
    go_enter Try.func21, Try.ntmps21
    go_wp2_with fail
    refine HGET.out.mono ?_
    rintro e w1 ⟨rfl, l1⟩
    have L1 := Lib.hid l1
    clear l1
    go_wp2_with fail
    go_ret
    exact ⟨rfl, H.out.op (btrans L1.out (Nat.le_refl _) (by repeat (first | (with_reducible exact Below.refl _ _) | (with_reducible apply Below.drew) | (with_reducible refine below_drewN ?_ _) | (with_reducible refine below_alloc' ?_ ?_ _; (focus ((try simp) <;> omega))) | (with_reducible refine below_set' ?_ ?_ _; (focus ((try simp) <;> omega))))))⟩
end Go.Proofs.Ytddcpehncbcliaa.Wai
