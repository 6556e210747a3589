/- The document's side: whether an event can be, behind those ahead. -/
import Derived.Test.YtfpiecnbnoinnaaHisRA
import Derived.Deep.CutBlock
namespace Go.Proofs.Ytfpiecnbnoinnaa.His
open Go.RowKit Go.Proofs.Ytfpiecnbnoinnaa.Wri
set_option linter.unusedSimpArgs false
set_option linter.unusedVariables false
set_option maxRecDepth 50000

theorem rdepth_p {w : World} {b : Nat} {fs : List Frm} (h : RAt w b fs) : Calls Try.prog 64 #[ptr b] w fun e w' => e = .returned (.int .i64 ((fs.length : Int) - 1)) ∧ w = w' := by
  have := rdepth_any w b _ h
  rwa [List.length_reverse] at this
def FitPost (w : World) (r : Bool) (e : Ending) (w' : World) : Prop := e = .returned (.bool r) ∧ Below w.heap.size w w'
set_option maxHeartbeats 12800000 in
theorem rfits_any (w : World) (p : Option Addr) (n c : Nat) (l : List Ev) (h : EvsIn w p n l) (hok : ∀ x ∈ l, 0 ≤ x.v ∧ x.v < 18446744073709551616) (hn : n ≤ 1000000) (i : Nat) (hi : i < n) (x : Ev) (hx : l[i]? = some x) :
    Calls Try.prog 44 #[.slice p n c, .int .i64 i] w (FitPost w (stepA (stA (l.take i) x.a) x).isSome) := by
  obtain ⟨g, off, rfl, hc⟩ := h.2.resolve_left (by omega)
  obtain ⟨x', hx', c0, c1, c2, c3⟩ := hc i hi
  rw [hx] at hx'
  injection hx' with hx'
  subst hx'
  have hv := hok x (List.mem_of_getElem? hx)
  obtain ⟨xk, xa, xt, xv⟩ := x
  simp only at c0 c1 c2 c3 hv ⊢
  obtain ⟨W, hW⟩ : ∃ W, w.alloc (.cells #[.int .u8 xk, .int .i64 xa, .int .i64 xt, .int .u64 xv] 52) = W := ⟨_, rfl⟩
  have lW : Below w.heap.size w W := by rw [← hW]; repeat (first | (with_reducible exact Below.refl _ _) | (with_reducible apply Below.drew) | (with_reducible refine below_drewN ?_ _) | (with_reducible refine below_alloc' ?_ ?_ _; (focus ((try simp) <;> omega))) | (with_reducible refine below_set' ?_ ?_ _; (focus ((try simp) <;> omega))))
  have d0 : W.cell? ⟨w.heap.size, 0, none⟩ = some (.int .u8 xk) := by rw [← hW]; simp
  have d1 : W.cell? ⟨w.heap.size, 1, none⟩ = some (.int .i64 xa) := by rw [← hW]; simp
  have d2 : W.cell? ⟨w.heap.size, 2, none⟩ = some (.int .i64 xt) := by rw [← hW]; simp
  have d3 : W.cell? ⟨w.heap.size, 3, none⟩ = some (.int .u64 xv) := by rw [← hW]; simp
  have HE := Lib.hid (h.below lW); have HOK := Lib.hid hok; have HV := Lib.hid hv; have LW := Lib.hid lW; have HWD := Lib.hid hW
  have hin : (i : Int) < n := by omega
  obtain ⟨b1, hb1⟩ : ∃ b, hasK (l.take i) xa 1 = b := ⟨_, rfl⟩
  obtain ⟨b7, hb7⟩ : ∃ b, hasK (l.take i) xa 7 = b := ⟨_, rfl⟩
  obtain ⟨b8, hb8⟩ : ∃ b, hasK (l.take i) xa 8 = b := ⟨_, rfl⟩
  obtain ⟨b9, hb9⟩ : ∃ b, hasK (l.take i) xa 9 = b := ⟨_, rfl⟩
  obtain ⟨fs, hfs⟩ : ∃ fs, ownL (l.take i) xa = fs := ⟨_, rfl⟩
  have hwf : WellS fs := hfs ▸ ownL_well _ _
  have hst : stA (l.take i) xa = if b1 = true then some ⟨fs, b7, b8 || b9⟩ else none := by
    unfold stA endedL
    rw [hb1, hb7, hb8, hb9, hfs]
  rw [hst]
  obtain ⟨r, hr⟩ : ∃ r, (stepA (if b1 = true then some ⟨fs, b7, b8 || b9⟩ else none) ⟨xk, xa, xt, xv⟩).isSome = r := ⟨_, rfl⟩
  rw [hr]
  have HR := Lib.hid hr
  have HS1 := Lib.hid (seen_any W (some ⟨g, off, none⟩) n c l HE.out hn i (by omega) xa 1)
  have HS7 := Lib.hid (seen_any W (some ⟨g, off, none⟩) n c l HE.out hn i (by omega) xa 7)
  have HS8 := Lib.hid (seen_any W (some ⟨g, off, none⟩) n c l HE.out hn i (by omega) xa 8)
  have HS9 := Lib.hid (seen_any W (some ⟨g, off, none⟩) n c l HE.out hn i (by omega) xa 9)
  have HO := Lib.hid (rown_any W (some ⟨g, off, none⟩) n c l HE.out HOK.out hn i (by omega) xa)
  rw [hb1] at HS1; rw [hb7] at HS7; rw [hb8] at HS8; rw [hb9] at HS9; rw [hfs] at HO
  have HWF := Lib.hid hwf
  clear h hc hx hok hv lW hW hb1 hb7 hb8 hb9 hfs hst hr hwf
  by_cases ha0 : xa < 0
  · have e1 : decide (xa < 0) = true := by simpa using ha0
    go_enter Try.func44, Try.ntmps44
    go_wp2_with fail
    rw [HWD.out]
    have HT := Lib.hid (show r = false from by rw [← HR.out]; simp [stepA, show ¬ (0 ≤ xa) by omega]); go_wp2_with fail; go_ret; (try rw [HT.out]); exact ⟨by first | rfl | (rw [HT.out]), LW.out⟩
  have e1 : decide (xa < 0) = false := by simpa using ha0
  by_cases ha1 : 64 ≤ xa
  · have e2 : decide (64 ≤ xa) = true := by simpa using ha1
    go_enter Try.func44, Try.ntmps44
    go_wp2_with fail
    rw [HWD.out]
    have HT := Lib.hid (show r = false from by rw [← HR.out]; simp [stepA, show ¬ (xa < 64) by omega]); go_wp2_with fail; go_ret; (try rw [HT.out]); exact ⟨by first | rfl | (rw [HT.out]), LW.out⟩
  have e2 : decide (64 ≤ xa) = false := by simpa using ha1
  have ha0' : 0 ≤ xa := by omega
  have ha1' : xa < 64 := by omega
  clear ha0 ha1
  go_enter Try.func44, Try.ntmps44
  go_upto_region 4 with (fail)
  rw [HWD.out]
  obtain ⟨br, hbr⟩ : ∃ b, bareE ⟨xk, xa, xt, xv⟩ = b := ⟨_, rfl⟩
  have HBR := Lib.hid hbr
  clear hbr
  go_cut [6] (fun v wc => v = .bool br ∧ W = wc)
  case first =>
    cases t1 : (xt == 0) <;> cases t2 : (xv == 0)
    all_goals
      go_wp2_with fail
      go_meet
      case rel => exact ⟨by rw [← HBR.out]; simp only [bareE, t1, t2]; rfl, rfl⟩
  case rest =>
    obtain ⟨rfl, rfl⟩ := hcut
    go_wp2_with fail
    refine HS1.out.mono ?_
    rintro e w0 ⟨rfl, rfl⟩
    go_wp2_with fail
    refine HS7.out.mono ?_
    rintro e w0 ⟨rfl, rfl⟩
    go_upto_region 7 with (fail)
    go_cut [9] (fun v wc => v = .bool (b8 || b9) ∧ W = wc)
    case first =>
      cases b8
      · go_wp2_with fail
        refine HS8.out.mono ?_
        rintro e w0 ⟨rfl, rfl⟩
        go_wp2_with fail
        refine HS9.out.mono ?_
        rintro e w0 ⟨rfl, rfl⟩
        go_wp2_with fail
        go_meet
        case rel => exact ⟨by simp, rfl⟩
      · go_wp2_with fail
        refine HS8.out.mono ?_
        rintro e w0 ⟨rfl, rfl⟩
        go_wp2_with fail
        go_meet
        case rel => exact ⟨by simp, rfl⟩
    case rest =>
      obtain ⟨rfl, rfl⟩ := hcut
      obtain ⟨en, hen⟩ : ∃ en, (b8 || b9) = en := ⟨_, rfl⟩
      rw [hen] at HR ⊢
      clear hen HS8 HS9 HS1 HS7
      by_cases h1 : xk = 1
      · subst h1
        cases b1 <;> cases br
        · have HT := Lib.hid (show r = false from by rw [← HR.out]; simp [stepA, ha0', ha1', HBR.out]); go_wp2_with fail; go_ret; (try rw [HT.out]); exact ⟨by first | rfl | (rw [HT.out]), LW.out⟩
        · have HT := Lib.hid (show r = true from by rw [← HR.out]; simp [stepA, ha0', ha1', HBR.out]); go_wp2_with fail; go_ret; (try rw [HT.out]); exact ⟨by first | rfl | (rw [HT.out]), LW.out⟩
        · have HT := Lib.hid (show r = false from by rw [← HR.out]; simp [stepA, ha0', ha1', HBR.out]); go_wp2_with fail; go_ret; (try rw [HT.out]); exact ⟨by first | rfl | (rw [HT.out]), LW.out⟩
        · have HT := Lib.hid (show r = false from by rw [← HR.out]; simp [stepA, ha0', ha1', HBR.out]); go_wp2_with fail; go_ret; (try rw [HT.out]); exact ⟨by first | rfl | (rw [HT.out]), LW.out⟩
      have k1 : (xk == 1) = false := by simpa using h1
      cases b1
      · have HT := Lib.hid (show r = false from by rw [← HR.out]; simp [stepA, ha0', ha1', h1]); go_wp2_with fail; go_ret; (try rw [HT.out]); exact ⟨by first | rfl | (rw [HT.out]), LW.out⟩
      cases en
      case true => have HT := Lib.hid (show r = false from by rw [← HR.out]; simp [stepA, ha0', ha1', h1]); go_wp2_with fail; go_ret; (try rw [HT.out]); exact ⟨by first | rfl | (rw [HT.out]), LW.out⟩
      by_cases hk8 : xk = 8
      · subst hk8
        go_wp2_with fail; refine HO.out.mono ?_; rintro e w2 ⟨q, rfl, hrt, hqs, l2⟩; have HRT := Lib.hid hrt; have L2 := Lib.hid l2; have LF := Lib.hid (btrans LW.out (Nat.le_refl _) l2); replace d0 := bkeep l2 d0; replace d1 := bkeep l2 d1; replace d2 := bkeep l2 d2; replace d3 := bkeep l2 d3; clear hrt l2
        cases br
        · have HT := Lib.hid (show r = false from by rw [← HR.out]; simp [stepA, ha0', ha1', HBR.out]); go_wp2_with fail; go_ret; (try rw [HT.out]); exact ⟨by first | rfl | (rw [HT.out]), LF.out⟩
        · cases b7
          · have HT := Lib.hid (show r = false from by rw [← HR.out]; simp [stepA, ha0', ha1', HBR.out]); go_wp2_with fail; go_ret; (try rw [HT.out]); exact ⟨by first | rfl | (rw [HT.out]), LF.out⟩
          · have HT := Lib.hid (show r = true from by rw [← HR.out]; simp [stepA, ha0', ha1', HBR.out]); go_wp2_with fail; go_ret; (try rw [HT.out]); exact ⟨by first | rfl | (rw [HT.out]), LF.out⟩
      have k8 : (xk == 8) = false := by simpa using hk8
      by_cases hk9 : xk = 9
      · subst hk9
        go_wp2_with fail; refine HO.out.mono ?_; rintro e w2 ⟨q, rfl, hrt, hqs, l2⟩; have HRT := Lib.hid hrt; have L2 := Lib.hid l2; have LF := Lib.hid (btrans LW.out (Nat.le_refl _) l2); replace d0 := bkeep l2 d0; replace d1 := bkeep l2 d1; replace d2 := bkeep l2 d2; replace d3 := bkeep l2 d3; clear hrt l2
        cases br
        · have HT := Lib.hid (show r = false from by rw [← HR.out]; simp [stepA, ha0', ha1', HBR.out]); go_wp2_with fail; go_ret; (try rw [HT.out]); exact ⟨by first | rfl | (rw [HT.out]), LF.out⟩
        · have HT := Lib.hid (show r = true from by rw [← HR.out]; simp [stepA, ha0', ha1', HBR.out]); go_wp2_with fail; go_ret; (try rw [HT.out]); exact ⟨by first | rfl | (rw [HT.out]), LF.out⟩
      have k9 : (xk == 9) = false := by simpa using hk9
      by_cases hk2 : xk = 2
      · subst hk2
        go_wp2_with fail; refine HO.out.mono ?_; rintro e w2 ⟨q, rfl, hrt, hqs, l2⟩; have HRT := Lib.hid hrt; have L2 := Lib.hid l2; have LF := Lib.hid (btrans LW.out (Nat.le_refl _) l2); replace d0 := bkeep l2 d0; replace d1 := bkeep l2 d1; replace d2 := bkeep l2 d2; replace d3 := bkeep l2 d3; clear hrt l2
        cases b7
        case true => have HT := Lib.hid (show r = false from by rw [← HR.out]; simp [stepA, ha0', ha1']); go_wp2_with fail; go_ret; (try rw [HT.out]); exact ⟨by first | rfl | (rw [HT.out]), LF.out⟩
        by_cases ht0 : 0 ≤ xt
        case neg =>
          have u1 : decide (0 ≤ xt) = false := by simpa using ht0
          have HT := Lib.hid (show r = false from by rw [← HR.out]; simp [stepA, ha0', ha1', okT, ht0]); go_wp2_with fail; go_ret; (try rw [HT.out]); exact ⟨by first | rfl | (rw [HT.out]), LF.out⟩
        have u1 : decide (0 ≤ xt) = true := by simpa using ht0
        by_cases ht1 : xt < 12
        case neg =>
          have u2 : decide (xt < 12) = false := by simpa using ht1
          have HT := Lib.hid (show r = false from by rw [← HR.out]; simp [stepA, ha0', ha1', okT, ht1]); go_wp2_with fail; go_ret; (try rw [HT.out]); exact ⟨by first | rfl | (rw [HT.out]), LF.out⟩
        have u2 : decide (xt < 12) = true := by simpa using ht1
        have hrr := rRight_any w2 xv HV.out
        cases hv2 : rightVal xv with
        | false =>
          rw [hv2] at hrr
          have HRR := Lib.hid hrr; have HV2 := Lib.hid hv2
          clear hrr hv2
          go_wp2_with fail
          refine HRR.out.mono ?_; rintro e w3 ⟨rfl, rfl⟩
          have HT := Lib.hid (show r = false from by rw [← HR.out]; simp [stepA, ha0', ha1', okT, HV2.out]); go_wp2_with fail; go_ret; (try rw [HT.out]); exact ⟨by first | rfl | (rw [HT.out]), LF.out⟩
        | true =>
          rw [hv2] at hrr
          have HRR := Lib.hid hrr; have HV2 := Lib.hid hv2
          clear hrr hv2
          go_wp2_with fail
          refine HRR.out.mono ?_; rintro e w3 ⟨rfl, rfl⟩
          have HT := Lib.hid (show r = true from by rw [← HR.out]; simp [stepA, ha0', ha1', okT, ht0, ht1, HV2.out]); go_wp2_with fail; go_ret; (try rw [HT.out]); exact ⟨by first | rfl | (rw [HT.out]), LF.out⟩
      have k2 : (xk == 2) = false := by simpa using hk2
      by_cases hk3 : xk = 3
      · subst hk3
        go_wp2_with fail; refine HO.out.mono ?_; rintro e w2 ⟨q, rfl, hrt, hqs, l2⟩; have HRT := Lib.hid hrt; have L2 := Lib.hid l2; have LF := Lib.hid (btrans LW.out (Nat.le_refl _) l2); replace d0 := bkeep l2 d0; replace d1 := bkeep l2 d1; replace d2 := bkeep l2 d2; replace d3 := bkeep l2 d3; clear hrt l2
        cases b7
        case true => have HT := Lib.hid (show r = false from by rw [← HR.out]; simp [stepA, ha0', ha1']); go_wp2_with fail; go_ret; (try rw [HT.out]); exact ⟨by first | rfl | (rw [HT.out]), LF.out⟩
        obtain ⟨m, hm⟩ : ∃ m, actN fs ⟨3, xa, xt, xv⟩ = m := ⟨_, rfl⟩
        have HAC := Lib.hid (ract_n w2 q fs ⟨3, xa, xt, xv⟩ m HRT.out HWF.out HV.out hm)
        have HM := Lib.hid hm
        clear hm
        cases hm0 : (m == 0)
        · go_wp2_with fail; refine (HAC.out).mono ?_; rintro e w3 ⟨rfl, _, o3⟩; have LA := Lib.hid (LF.out.trans (o3.lo (fun k e => by have := LW.out.size; omega) LF.out.size)); clear o3
          have HT := Lib.hid (show r = false from by rw [← HR.out]; simp [stepA, ha0', ha1', show ¬ actN fs ⟨3, xa, xt, xv⟩ = 0 by rw [HM.out]; simpa using hm0]); go_wp2_with fail; go_ret; (try rw [HT.out]); exact ⟨by first | rfl | (rw [HT.out]), LA.out⟩
        · go_wp2_with fail; refine (HAC.out).mono ?_; rintro e w3 ⟨rfl, _, o3⟩; have LA := Lib.hid (LF.out.trans (o3.lo (fun k e => by have := LW.out.size; omega) LF.out.size)); clear o3
          have HT := Lib.hid (show r = true from by rw [← HR.out]; simp [stepA, ha0', ha1', show actN fs ⟨3, xa, xt, xv⟩ = 0 by rw [HM.out]; simpa using hm0]); go_wp2_with fail; go_ret; (try rw [HT.out]); exact ⟨by first | rfl | (rw [HT.out]), LA.out⟩
      have k3 : (xk == 3) = false := by simpa using hk3
      by_cases hk4 : xk = 4
      · subst hk4
        go_wp2_with fail; refine HO.out.mono ?_; rintro e w2 ⟨q, rfl, hrt, hqs, l2⟩; have HRT := Lib.hid hrt; have L2 := Lib.hid l2; have LF := Lib.hid (btrans LW.out (Nat.le_refl _) l2); replace d0 := bkeep l2 d0; replace d1 := bkeep l2 d1; replace d2 := bkeep l2 d2; replace d3 := bkeep l2 d3; clear hrt l2
        cases b7
        case true => have HT := Lib.hid (show r = false from by rw [← HR.out]; simp [stepA, ha0', ha1']); go_wp2_with fail; go_ret; (try rw [HT.out]); exact ⟨by first | rfl | (rw [HT.out]), LF.out⟩
        cases br
        case false => have HT := Lib.hid (show r = false from by rw [← HR.out]; simp [stepA, ha0', ha1', HBR.out]); go_wp2_with fail; go_ret; (try rw [HT.out]); exact ⟨by first | rfl | (rw [HT.out]), LF.out⟩
        obtain ⟨m, hm⟩ : ∃ m, actN fs ⟨4, xa, xt, xv⟩ = m := ⟨_, rfl⟩
        have HAC := Lib.hid (ract_n w2 q fs ⟨4, xa, xt, xv⟩ m HRT.out HWF.out HV.out hm)
        have HM := Lib.hid hm
        clear hm
        cases hm0 : (m == 0)
        · go_wp2_with fail; refine (HAC.out).mono ?_; rintro e w3 ⟨rfl, _, o3⟩; have LA := Lib.hid (LF.out.trans (o3.lo (fun k e => by have := LW.out.size; omega) LF.out.size)); clear o3
          have HT := Lib.hid (show r = false from by rw [← HR.out]; simp [stepA, ha0', ha1', HBR.out, show ¬ actN fs ⟨4, xa, xt, xv⟩ = 0 by rw [HM.out]; simpa using hm0]); go_wp2_with fail; go_ret; (try rw [HT.out]); exact ⟨by first | rfl | (rw [HT.out]), LA.out⟩
        · go_wp2_with fail; refine (HAC.out).mono ?_; rintro e w3 ⟨rfl, _, o3⟩; have LA := Lib.hid (LF.out.trans (o3.lo (fun k e => by have := LW.out.size; omega) LF.out.size)); clear o3
          have HT := Lib.hid (show r = true from by rw [← HR.out]; simp [stepA, ha0', ha1', HBR.out, show actN fs ⟨4, xa, xt, xv⟩ = 0 by rw [HM.out]; simpa using hm0]); go_wp2_with fail; go_ret; (try rw [HT.out]); exact ⟨by first | rfl | (rw [HT.out]), LA.out⟩
      have k4 : (xk == 4) = false := by simpa using hk4
      by_cases hk5 : xk = 5
      · subst hk5
        go_wp2_with fail; refine HO.out.mono ?_; rintro e w2 ⟨q, rfl, hrt, hqs, l2⟩; have HRT := Lib.hid hrt; have L2 := Lib.hid l2; have LF := Lib.hid (btrans LW.out (Nat.le_refl _) l2); replace d0 := bkeep l2 d0; replace d1 := bkeep l2 d1; replace d2 := bkeep l2 d2; replace d3 := bkeep l2 d3; clear hrt l2
        cases b7
        case true => have HT := Lib.hid (show r = false from by rw [← HR.out]; simp [stepA, ha0', ha1']); go_wp2_with fail; go_ret; (try rw [HT.out]); exact ⟨by first | rfl | (rw [HT.out]), LF.out⟩
        cases br
        case false => have HT := Lib.hid (show r = false from by rw [← HR.out]; simp [stepA, ha0', ha1', HBR.out]); go_wp2_with fail; go_ret; (try rw [HT.out]); exact ⟨by first | rfl | (rw [HT.out]), LF.out⟩
        obtain ⟨m, hm⟩ : ∃ m, actN fs ⟨5, xa, xt, xv⟩ = m := ⟨_, rfl⟩
        have HAC := Lib.hid (ract_n w2 q fs ⟨5, xa, xt, xv⟩ m HRT.out HWF.out HV.out hm)
        have HM := Lib.hid hm
        clear hm
        cases hm0 : (m == 0)
        · go_wp2_with fail; refine (HAC.out).mono ?_; rintro e w3 ⟨rfl, _, o3⟩; have LA := Lib.hid (LF.out.trans (o3.lo (fun k e => by have := LW.out.size; omega) LF.out.size)); clear o3
          have HT := Lib.hid (show r = false from by rw [← HR.out]; simp [stepA, ha0', ha1', HBR.out, show ¬ actN fs ⟨5, xa, xt, xv⟩ = 0 by rw [HM.out]; simpa using hm0]); go_wp2_with fail; go_ret; (try rw [HT.out]); exact ⟨by first | rfl | (rw [HT.out]), LA.out⟩
        · go_wp2_with fail; refine (HAC.out).mono ?_; rintro e w3 ⟨rfl, _, o3⟩; have LA := Lib.hid (LF.out.trans (o3.lo (fun k e => by have := LW.out.size; omega) LF.out.size)); clear o3
          have HT := Lib.hid (show r = true from by rw [← HR.out]; simp [stepA, ha0', ha1', HBR.out, show actN fs ⟨5, xa, xt, xv⟩ = 0 by rw [HM.out]; simpa using hm0]); go_wp2_with fail; go_ret; (try rw [HT.out]); exact ⟨by first | rfl | (rw [HT.out]), LA.out⟩
      have k5 : (xk == 5) = false := by simpa using hk5
      by_cases hk6 : xk = 6
      · subst hk6
        go_wp2_with fail; refine HO.out.mono ?_; rintro e w2 ⟨q, rfl, hrt, hqs, l2⟩; have HRT := Lib.hid hrt; have L2 := Lib.hid l2; have LF := Lib.hid (btrans LW.out (Nat.le_refl _) l2); replace d0 := bkeep l2 d0; replace d1 := bkeep l2 d1; replace d2 := bkeep l2 d2; replace d3 := bkeep l2 d3; clear hrt l2
        cases b7
        case true => have HT := Lib.hid (show r = false from by rw [← HR.out]; simp [stepA, ha0', ha1']); go_wp2_with fail; go_ret; (try rw [HT.out]); exact ⟨by first | rfl | (rw [HT.out]), LF.out⟩
        cases br
        case false => have HT := Lib.hid (show r = false from by rw [← HR.out]; simp [stepA, ha0', ha1', HBR.out]); go_wp2_with fail; go_ret; (try rw [HT.out]); exact ⟨by first | rfl | (rw [HT.out]), LF.out⟩
        obtain ⟨m, hm⟩ : ∃ m, actN fs ⟨6, xa, xt, xv⟩ = m := ⟨_, rfl⟩
        have HAC := Lib.hid (ract_n w2 q fs ⟨6, xa, xt, xv⟩ m HRT.out HWF.out HV.out hm)
        have HM := Lib.hid hm
        clear hm
        cases hm0 : (m == 0)
        · go_wp2_with fail; refine (HAC.out).mono ?_; rintro e w3 ⟨rfl, _, o3⟩; have LA := Lib.hid (LF.out.trans (o3.lo (fun k e => by have := LW.out.size; omega) LF.out.size)); clear o3
          have HT := Lib.hid (show r = false from by rw [← HR.out]; simp [stepA, ha0', ha1', HBR.out, show ¬ actN fs ⟨6, xa, xt, xv⟩ = 0 by rw [HM.out]; simpa using hm0]); go_wp2_with fail; go_ret; (try rw [HT.out]); exact ⟨by first | rfl | (rw [HT.out]), LA.out⟩
        · go_wp2_with fail; refine (HAC.out).mono ?_; rintro e w3 ⟨rfl, _, o3⟩; have LA := Lib.hid (LF.out.trans (o3.lo (fun k e => by have := LW.out.size; omega) LF.out.size)); clear o3
          have HT := Lib.hid (show r = true from by rw [← HR.out]; simp [stepA, ha0', ha1', HBR.out, show actN fs ⟨6, xa, xt, xv⟩ = 0 by rw [HM.out]; simpa using hm0]); go_wp2_with fail; go_ret; (try rw [HT.out]); exact ⟨by first | rfl | (rw [HT.out]), LA.out⟩
      have k6 : (xk == 6) = false := by simpa using hk6
      by_cases hk7 : xk = 7
      · subst hk7
        go_wp2_with fail; refine HO.out.mono ?_; rintro e w2 ⟨q, rfl, hrt, hqs, l2⟩; have HRT := Lib.hid hrt; have L2 := Lib.hid l2; have LF := Lib.hid (btrans LW.out (Nat.le_refl _) l2); replace d0 := bkeep l2 d0; replace d1 := bkeep l2 d1; replace d2 := bkeep l2 d2; replace d3 := bkeep l2 d3; clear hrt l2
        cases b7
        case true => have HT := Lib.hid (show r = false from by rw [← HR.out]; simp [stepA, ha0', ha1']); go_wp2_with fail; go_ret; (try rw [HT.out]); exact ⟨by first | rfl | (rw [HT.out]), LF.out⟩
        cases br
        case false => have HT := Lib.hid (show r = false from by rw [← HR.out]; simp [stepA, ha0', ha1', HBR.out]); go_wp2_with fail; go_ret; (try rw [HT.out]); exact ⟨by first | rfl | (rw [HT.out]), LF.out⟩
        have hdp := rdepth_p HRT.out
        obtain ⟨m, hm⟩ : ∃ m : Int, (fs.length : Int) - 1 = m := ⟨_, rfl⟩
        rw [hm] at hdp
        have HDP := Lib.hid hdp; have HM := Lib.hid hm
        clear hdp hm
        cases hm0 : (m == 0)
        · have hm1 : ¬ m = 0 := by simpa using hm0
          have hl1 : ¬ fs.length = 1 := by
            have h := HM.out
            omega
          go_wp2_with fail
          refine HDP.out.mono ?_; rintro e w3 ⟨rfl, rfl⟩
          have HT := Lib.hid (show r = false from by rw [← HR.out]; simp [stepA, ha0', ha1', HBR.out, hl1]); go_wp2_with fail; go_ret; (try rw [HT.out]); exact ⟨by first | rfl | (rw [HT.out]), LF.out⟩
        · have hm1 : m = 0 := by simpa using hm0
          have hl1 : fs.length = 1 := by
            have h := HM.out
            omega
          go_wp2_with fail
          refine HDP.out.mono ?_; rintro e w3 ⟨rfl, rfl⟩
          have HT := Lib.hid (show r = true from by rw [← HR.out]; simp [stepA, ha0', ha1', HBR.out, hl1]); go_wp2_with fail; go_ret; (try rw [HT.out]); exact ⟨by first | rfl | (rw [HT.out]), LF.out⟩
      have k7 : (xk == 7) = false := by simpa using hk7
      go_wp2_with fail; refine HO.out.mono ?_; rintro e w2 ⟨q, rfl, hrt, hqs, l2⟩; have HRT := Lib.hid hrt; have L2 := Lib.hid l2; have LF := Lib.hid (btrans LW.out (Nat.le_refl _) l2); replace d0 := bkeep l2 d0; replace d1 := bkeep l2 d1; replace d2 := bkeep l2 d2; replace d3 := bkeep l2 d3; clear hrt l2
      have HT := Lib.hid (show r = false from by rw [← HR.out]; simp [stepA, ha0', ha1', h1, hk8, hk9, hk2, hk3, hk4, hk5, hk6, hk7]); go_wp2_with fail; go_ret; (try rw [HT.out]); exact ⟨by first | rfl | (rw [HT.out]), LF.out⟩
end Go.Proofs.Ytfpiecnbnoinnaa.His
