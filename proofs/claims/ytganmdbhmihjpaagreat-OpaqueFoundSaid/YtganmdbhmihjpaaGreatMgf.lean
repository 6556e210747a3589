/- Texts of this seat, one behind the other: HisRB, OpaRC, HisW, OpaA, OpaB, OpaC, TguB, TguC. -/
import Derived.Test.YtganmdbhmihjpaaGreatMge
import Derived.Deep.CutBlock
import Derived.Lib.SliceRun
import Derived.Maps.AppendAt
import Derived.Deep.RegionLaw
import Derived.Test.YtganmdbhmihjpaaGreatChecked
/- The document's side: whether an event can be, behind those ahead. -/
namespace Go.Proofs.YtganmdbhmihjpaaGreat.His
open Go.RowKit Go.Proofs.YtganmdbhmihjpaaGreat.Wri
set_option linter.unusedSimpArgs false
set_option linter.unusedVariables false
set_option maxRecDepth 50000

theorem rdepth_p {w : World} {b : Nat} {fs : List Frm} (h : RAt w b fs) : Calls Tryz.prog 82 #[ptr b] w fun e w' => e = .returned (.int .i64 ((fs.length : Int) - 1)) ∧ w = w' := by
  have := rdepth_any w b _ h
  rwa [List.length_reverse] at this
def FitPost (w : World) (r : Bool) (e : Ending) (w' : World) : Prop := e = .returned (.bool r) ∧ Below w.heap.size w w'
set_option maxHeartbeats 12800000 in
theorem rfits_any (w : World) (p : Option Addr) (n c : Nat) (l : List Ev) (h : EvsIn w p n l) (hok : ∀ x ∈ l, 0 ≤ x.v ∧ x.v < 18446744073709551616) (hn : n ≤ 1000000) (i : Nat) (hi : i < n) (x : Ev) (hx : l[i]? = some x) :
    Calls Tryz.prog 63 #[.slice p n c, .int .i64 i] w (FitPost w (stepA (stA (l.take i) x.a) x).isSome) := by
  obtain ⟨g, off, rfl, hc⟩ := h.2.resolve_left (by omega)
  obtain ⟨x', hx', c0, c1, c2, c3⟩ := hc i hi
  rw [hx] at hx'
  injection hx' with hx'
  subst hx'
  have hv := hok x (List.mem_of_getElem? hx)
  obtain ⟨xk, xa, xt, xv⟩ := x
  simp only at c0 c1 c2 c3 hv ⊢
  obtain ⟨W, hW⟩ : ∃ W, w.alloc (.cells #[.int .u8 xk, .int .i64 xa, .int .i64 xt, .int .u64 xv] 60) = W := ⟨_, rfl⟩
  have lW : Below w.heap.size w W := by rw [← hW]; repeat (first | (with_reducible exact Below.refl _ _) | (with_reducible apply Below.drew) | (with_reducible refine below_drewN ?_ _) | (with_reducible refine below_alloc' ?_ ?_ _; (focus ((try simp) <;> omega))) | (with_reducible refine below_set' ?_ ?_ _; (focus ((try simp) <;> omega))))
  have d0 : W.cell? ⟨w.heap.size, 0, none⟩ = some (.int .u8 xk) := by rw [← hW]; simp
  have d1 : W.cell? ⟨w.heap.size, 1, none⟩ = some (.int .i64 xa) := by rw [← hW]; simp
  have d2 : W.cell? ⟨w.heap.size, 2, none⟩ = some (.int .i64 xt) := by rw [← hW]; simp
  have d3 : W.cell? ⟨w.heap.size, 3, none⟩ = some (.int .u64 xv) := by rw [← hW]; simp
  have HE := Lib.hid (h.below lW); have HOK := Lib.hid hok; have HV := Lib.hid hv; have LW := Lib.hid lW; have HWD := Lib.hid hW
  have hin : (i : Int) < n := by omega
  obtain ⟨b1, hb1⟩ : ∃ b, hasK (l.take i) xa 1 = b := ⟨_, rfl⟩
  obtain ⟨b7, hb7⟩ : ∃ b, hasK (l.take i) xa 7 = b := ⟨_, rfl⟩
  obtain ⟨b8, hb8⟩ : ∃ b, hasK (l.take i) xa 8 = b := ⟨_, rfl⟩
  obtain ⟨b9, hb9⟩ : ∃ b, hasK (l.take i) xa 9 = b := ⟨_, rfl⟩
  obtain ⟨fs, hfs⟩ : ∃ fs, ownL (l.take i) xa = fs := ⟨_, rfl⟩
  have hwf : WellS fs := hfs ▸ ownL_well _ _
  have hst : stA (l.take i) xa = if b1 = true then some ⟨fs, b7, b8 || b9⟩ else none := by
    unfold stA endedL
    rw [hb1, hb7, hb8, hb9, hfs]
  rw [hst]
  obtain ⟨r, hr⟩ : ∃ r, (stepA (if b1 = true then some ⟨fs, b7, b8 || b9⟩ else none) ⟨xk, xa, xt, xv⟩).isSome = r := ⟨_, rfl⟩
  rw [hr]
  have HR := Lib.hid hr
  have HS1 := Lib.hid (seen_any W (some ⟨g, off, none⟩) n c l HE.out hn i (by omega) xa 1)
  have HS7 := Lib.hid (seen_any W (some ⟨g, off, none⟩) n c l HE.out hn i (by omega) xa 7)
  have HS8 := Lib.hid (seen_any W (some ⟨g, off, none⟩) n c l HE.out hn i (by omega) xa 8)
  have HS9 := Lib.hid (seen_any W (some ⟨g, off, none⟩) n c l HE.out hn i (by omega) xa 9)
  have HO := Lib.hid (rown_any W (some ⟨g, off, none⟩) n c l HE.out HOK.out hn i (by omega) xa)
  rw [hb1] at HS1; rw [hb7] at HS7; rw [hb8] at HS8; rw [hb9] at HS9; rw [hfs] at HO
  have HWF := Lib.hid hwf
  clear h hc hx hok hv lW hW hb1 hb7 hb8 hb9 hfs hst hr hwf
  by_cases ha0 : xa < 0
  · have e1 : decide (xa < 0) = true := by simpa using ha0
    go_enter Tryz.func63, Tryz.ntmps63
    go_wp2_with fail
    rw [HWD.out]
    have HT := Lib.hid (show r = false from by rw [← HR.out]; simp [stepA, show ¬ (0 ≤ xa) by omega]); go_wp2_with fail; go_ret; (try rw [HT.out]); exact ⟨by first | rfl | (rw [HT.out]), LW.out⟩
  have e1 : decide (xa < 0) = false := by simpa using ha0
  by_cases ha1 : 64 ≤ xa
  · have e2 : decide (64 ≤ xa) = true := by simpa using ha1
    go_enter Tryz.func63, Tryz.ntmps63
    go_wp2_with fail
    rw [HWD.out]
    have HT := Lib.hid (show r = false from by rw [← HR.out]; simp [stepA, show ¬ (xa < 64) by omega]); go_wp2_with fail; go_ret; (try rw [HT.out]); exact ⟨by first | rfl | (rw [HT.out]), LW.out⟩
  have e2 : decide (64 ≤ xa) = false := by simpa using ha1
  have ha0' : 0 ≤ xa := by omega
  have ha1' : xa < 64 := by omega
  clear ha0 ha1
  go_enter Tryz.func63, Tryz.ntmps63
  go_upto_region 4 with (fail)
  rw [HWD.out]
  obtain ⟨br, hbr⟩ : ∃ b, bareE ⟨xk, xa, xt, xv⟩ = b := ⟨_, rfl⟩
  have HBR := Lib.hid hbr
  clear hbr
  go_cut [6] (fun v wc => v = .bool br ∧ W = wc)
  case first =>
    cases t1 : (xt == 0) <;> cases t2 : (xv == 0)
    all_goals
      go_wp2_with fail
      go_meet
      case rel => exact ⟨by rw [← HBR.out]; simp only [bareE, t1, t2]; rfl, rfl⟩
  case rest =>
    obtain ⟨rfl, rfl⟩ := hcut
    go_wp2_with fail
    refine HS1.out.mono ?_
    rintro e w0 ⟨rfl, rfl⟩
    go_wp2_with fail
    refine HS7.out.mono ?_
    rintro e w0 ⟨rfl, rfl⟩
    go_upto_region 7 with (fail)
    go_cut [9] (fun v wc => v = .bool (b8 || b9) ∧ W = wc)
    case first =>
      cases b8
      · go_wp2_with fail
        refine HS8.out.mono ?_
        rintro e w0 ⟨rfl, rfl⟩
        go_wp2_with fail
        refine HS9.out.mono ?_
        rintro e w0 ⟨rfl, rfl⟩
        go_wp2_with fail
        go_meet
        case rel => exact ⟨by simp, rfl⟩
      · go_wp2_with fail
        refine HS8.out.mono ?_
        rintro e w0 ⟨rfl, rfl⟩
        go_wp2_with fail
        go_meet
        case rel => exact ⟨by simp, rfl⟩
    case rest =>
      obtain ⟨rfl, rfl⟩ := hcut
      obtain ⟨en, hen⟩ : ∃ en, (b8 || b9) = en := ⟨_, rfl⟩
      rw [hen] at HR ⊢
      clear hen HS8 HS9 HS1 HS7
      by_cases h1 : xk = 1
      · subst h1
        cases b1 <;> cases br
        · have HT := Lib.hid (show r = false from by rw [← HR.out]; simp [stepA, ha0', ha1', HBR.out]); go_wp2_with fail; go_ret; (try rw [HT.out]); exact ⟨by first | rfl | (rw [HT.out]), LW.out⟩
        · have HT := Lib.hid (show r = true from by rw [← HR.out]; simp [stepA, ha0', ha1', HBR.out]); go_wp2_with fail; go_ret; (try rw [HT.out]); exact ⟨by first | rfl | (rw [HT.out]), LW.out⟩
        · have HT := Lib.hid (show r = false from by rw [← HR.out]; simp [stepA, ha0', ha1', HBR.out]); go_wp2_with fail; go_ret; (try rw [HT.out]); exact ⟨by first | rfl | (rw [HT.out]), LW.out⟩
        · have HT := Lib.hid (show r = false from by rw [← HR.out]; simp [stepA, ha0', ha1', HBR.out]); go_wp2_with fail; go_ret; (try rw [HT.out]); exact ⟨by first | rfl | (rw [HT.out]), LW.out⟩
      have k1 : (xk == 1) = false := by simpa using h1
      cases b1
      · have HT := Lib.hid (show r = false from by rw [← HR.out]; simp [stepA, ha0', ha1', h1]); go_wp2_with fail; go_ret; (try rw [HT.out]); exact ⟨by first | rfl | (rw [HT.out]), LW.out⟩
      cases en
      case true => have HT := Lib.hid (show r = false from by rw [← HR.out]; simp [stepA, ha0', ha1', h1]); go_wp2_with fail; go_ret; (try rw [HT.out]); exact ⟨by first | rfl | (rw [HT.out]), LW.out⟩
      by_cases hk8 : xk = 8
      · subst hk8
        go_wp2_with fail; refine HO.out.mono ?_; rintro e w2 ⟨q, rfl, hrt, hqs, l2⟩; have HRT := Lib.hid hrt; have L2 := Lib.hid l2; have LF := Lib.hid (btrans LW.out (Nat.le_refl _) l2); replace d0 := bkeep l2 d0; replace d1 := bkeep l2 d1; replace d2 := bkeep l2 d2; replace d3 := bkeep l2 d3; clear hrt l2
        cases br
        · have HT := Lib.hid (show r = false from by rw [← HR.out]; simp [stepA, ha0', ha1', HBR.out]); go_wp2_with fail; go_ret; (try rw [HT.out]); exact ⟨by first | rfl | (rw [HT.out]), LF.out⟩
        · cases b7
          · have HT := Lib.hid (show r = false from by rw [← HR.out]; simp [stepA, ha0', ha1', HBR.out]); go_wp2_with fail; go_ret; (try rw [HT.out]); exact ⟨by first | rfl | (rw [HT.out]), LF.out⟩
          · have HT := Lib.hid (show r = true from by rw [← HR.out]; simp [stepA, ha0', ha1', HBR.out]); go_wp2_with fail; go_ret; (try rw [HT.out]); exact ⟨by first | rfl | (rw [HT.out]), LF.out⟩
      have k8 : (xk == 8) = false := by simpa using hk8
      by_cases hk9 : xk = 9
      · subst hk9
        go_wp2_with fail; refine HO.out.mono ?_; rintro e w2 ⟨q, rfl, hrt, hqs, l2⟩; have HRT := Lib.hid hrt; have L2 := Lib.hid l2; have LF := Lib.hid (btrans LW.out (Nat.le_refl _) l2); replace d0 := bkeep l2 d0; replace d1 := bkeep l2 d1; replace d2 := bkeep l2 d2; replace d3 := bkeep l2 d3; clear hrt l2
        cases br
        · have HT := Lib.hid (show r = false from by rw [← HR.out]; simp [stepA, ha0', ha1', HBR.out]); go_wp2_with fail; go_ret; (try rw [HT.out]); exact ⟨by first | rfl | (rw [HT.out]), LF.out⟩
        · have HT := Lib.hid (show r = true from by rw [← HR.out]; simp [stepA, ha0', ha1', HBR.out]); go_wp2_with fail; go_ret; (try rw [HT.out]); exact ⟨by first | rfl | (rw [HT.out]), LF.out⟩
      have k9 : (xk == 9) = false := by simpa using hk9
      by_cases hk2 : xk = 2
      · subst hk2
        go_wp2_with fail; refine HO.out.mono ?_; rintro e w2 ⟨q, rfl, hrt, hqs, l2⟩; have HRT := Lib.hid hrt; have L2 := Lib.hid l2; have LF := Lib.hid (btrans LW.out (Nat.le_refl _) l2); replace d0 := bkeep l2 d0; replace d1 := bkeep l2 d1; replace d2 := bkeep l2 d2; replace d3 := bkeep l2 d3; clear hrt l2
        cases b7
        case true => have HT := Lib.hid (show r = false from by rw [← HR.out]; simp [stepA, ha0', ha1']); go_wp2_with fail; go_ret; (try rw [HT.out]); exact ⟨by first | rfl | (rw [HT.out]), LF.out⟩
        by_cases ht0 : 0 ≤ xt
        case neg =>
          have u1 : decide (0 ≤ xt) = false := by simpa using ht0
          have HT := Lib.hid (show r = false from by rw [← HR.out]; simp [stepA, ha0', ha1', okT, ht0]); go_wp2_with fail; go_ret; (try rw [HT.out]); exact ⟨by first | rfl | (rw [HT.out]), LF.out⟩
        have u1 : decide (0 ≤ xt) = true := by simpa using ht0
        by_cases ht1 : xt < 12
        case neg =>
          have u2 : decide (xt < 12) = false := by simpa using ht1
          have HT := Lib.hid (show r = false from by rw [← HR.out]; simp [stepA, ha0', ha1', okT, ht1]); go_wp2_with fail; go_ret; (try rw [HT.out]); exact ⟨by first | rfl | (rw [HT.out]), LF.out⟩
        have u2 : decide (xt < 12) = true := by simpa using ht1
        have hrr : Calls Tryz.prog _ _ w2 fun e w' => e = .returned (.bool (rightVal xv)) ∧ w2 = w' := rRight_any w2 xv HV.out
        cases hv2 : rightVal xv with
        | false =>
          rw [hv2] at hrr
          have HRR := Lib.hid hrr; have HV2 := Lib.hid hv2
          clear hrr hv2
          go_wp2_with fail
          refine HRR.out.mono ?_; rintro e w3 ⟨rfl, rfl⟩
          have HT := Lib.hid (show r = false from by rw [← HR.out]; simp [stepA, ha0', ha1', okT, HV2.out]); go_wp2_with fail; go_ret; (try rw [HT.out]); exact ⟨by first | rfl | (rw [HT.out]), LF.out⟩
        | true =>
          rw [hv2] at hrr
          have HRR := Lib.hid hrr; have HV2 := Lib.hid hv2
          clear hrr hv2
          go_wp2_with fail
          refine HRR.out.mono ?_; rintro e w3 ⟨rfl, rfl⟩
          have HT := Lib.hid (show r = true from by rw [← HR.out]; simp [stepA, ha0', ha1', okT, ht0, ht1, HV2.out]); go_wp2_with fail; go_ret; (try rw [HT.out]); exact ⟨by first | rfl | (rw [HT.out]), LF.out⟩
      have k2 : (xk == 2) = false := by simpa using hk2
      by_cases hk3 : xk = 3
      · subst hk3
        go_wp2_with fail; refine HO.out.mono ?_; rintro e w2 ⟨q, rfl, hrt, hqs, l2⟩; have HRT := Lib.hid hrt; have L2 := Lib.hid l2; have LF := Lib.hid (btrans LW.out (Nat.le_refl _) l2); replace d0 := bkeep l2 d0; replace d1 := bkeep l2 d1; replace d2 := bkeep l2 d2; replace d3 := bkeep l2 d3; clear hrt l2
        cases b7
        case true => have HT := Lib.hid (show r = false from by rw [← HR.out]; simp [stepA, ha0', ha1']); go_wp2_with fail; go_ret; (try rw [HT.out]); exact ⟨by first | rfl | (rw [HT.out]), LF.out⟩
        obtain ⟨m, hm⟩ : ∃ m, actN fs ⟨3, xa, xt, xv⟩ = m := ⟨_, rfl⟩
        have HAC := Lib.hid (ract_n w2 q fs ⟨3, xa, xt, xv⟩ m HRT.out HWF.out HV.out hm)
        have HM := Lib.hid hm
        clear hm
        cases hm0 : (m == 0)
        · go_wp2_with fail; refine (HAC.out).mono ?_; rintro e w3 ⟨rfl, _, o3⟩; have LA := Lib.hid (LF.out.trans (o3.lo (fun k e => by have := LW.out.size; omega) LF.out.size)); clear o3
          have HT := Lib.hid (show r = false from by rw [← HR.out]; simp [stepA, ha0', ha1', show ¬ actN fs ⟨3, xa, xt, xv⟩ = 0 by rw [HM.out]; simpa using hm0]); go_wp2_with fail; go_ret; (try rw [HT.out]); exact ⟨by first | rfl | (rw [HT.out]), LA.out⟩
        · go_wp2_with fail; refine (HAC.out).mono ?_; rintro e w3 ⟨rfl, _, o3⟩; have LA := Lib.hid (LF.out.trans (o3.lo (fun k e => by have := LW.out.size; omega) LF.out.size)); clear o3
          have HT := Lib.hid (show r = true from by rw [← HR.out]; simp [stepA, ha0', ha1', show actN fs ⟨3, xa, xt, xv⟩ = 0 by rw [HM.out]; simpa using hm0]); go_wp2_with fail; go_ret; (try rw [HT.out]); exact ⟨by first | rfl | (rw [HT.out]), LA.out⟩
      have k3 : (xk == 3) = false := by simpa using hk3
      by_cases hk4 : xk = 4
      · subst hk4
        go_wp2_with fail; refine HO.out.mono ?_; rintro e w2 ⟨q, rfl, hrt, hqs, l2⟩; have HRT := Lib.hid hrt; have L2 := Lib.hid l2; have LF := Lib.hid (btrans LW.out (Nat.le_refl _) l2); replace d0 := bkeep l2 d0; replace d1 := bkeep l2 d1; replace d2 := bkeep l2 d2; replace d3 := bkeep l2 d3; clear hrt l2
        cases b7
        case true => have HT := Lib.hid (show r = false from by rw [← HR.out]; simp [stepA, ha0', ha1']); go_wp2_with fail; go_ret; (try rw [HT.out]); exact ⟨by first | rfl | (rw [HT.out]), LF.out⟩
        cases br
        case false => have HT := Lib.hid (show r = false from by rw [← HR.out]; simp [stepA, ha0', ha1', HBR.out]); go_wp2_with fail; go_ret; (try rw [HT.out]); exact ⟨by first | rfl | (rw [HT.out]), LF.out⟩
        obtain ⟨m, hm⟩ : ∃ m, actN fs ⟨4, xa, xt, xv⟩ = m := ⟨_, rfl⟩
        have HAC := Lib.hid (ract_n w2 q fs ⟨4, xa, xt, xv⟩ m HRT.out HWF.out HV.out hm)
        have HM := Lib.hid hm
        clear hm
        cases hm0 : (m == 0)
        · go_wp2_with fail; refine (HAC.out).mono ?_; rintro e w3 ⟨rfl, _, o3⟩; have LA := Lib.hid (LF.out.trans (o3.lo (fun k e => by have := LW.out.size; omega) LF.out.size)); clear o3
          have HT := Lib.hid (show r = false from by rw [← HR.out]; simp [stepA, ha0', ha1', HBR.out, show ¬ actN fs ⟨4, xa, xt, xv⟩ = 0 by rw [HM.out]; simpa using hm0]); go_wp2_with fail; go_ret; (try rw [HT.out]); exact ⟨by first | rfl | (rw [HT.out]), LA.out⟩
        · go_wp2_with fail; refine (HAC.out).mono ?_; rintro e w3 ⟨rfl, _, o3⟩; have LA := Lib.hid (LF.out.trans (o3.lo (fun k e => by have := LW.out.size; omega) LF.out.size)); clear o3
          have HT := Lib.hid (show r = true from by rw [← HR.out]; simp [stepA, ha0', ha1', HBR.out, show actN fs ⟨4, xa, xt, xv⟩ = 0 by rw [HM.out]; simpa using hm0]); go_wp2_with fail; go_ret; (try rw [HT.out]); exact ⟨by first | rfl | (rw [HT.out]), LA.out⟩
      have k4 : (xk == 4) = false := by simpa using hk4
      by_cases hk5 : xk = 5
      · subst hk5
        go_wp2_with fail; refine HO.out.mono ?_; rintro e w2 ⟨q, rfl, hrt, hqs, l2⟩; have HRT := Lib.hid hrt; have L2 := Lib.hid l2; have LF := Lib.hid (btrans LW.out (Nat.le_refl _) l2); replace d0 := bkeep l2 d0; replace d1 := bkeep l2 d1; replace d2 := bkeep l2 d2; replace d3 := bkeep l2 d3; clear hrt l2
        cases b7
        case true => have HT := Lib.hid (show r = false from by rw [← HR.out]; simp [stepA, ha0', ha1']); go_wp2_with fail; go_ret; (try rw [HT.out]); exact ⟨by first | rfl | (rw [HT.out]), LF.out⟩
        cases br
        case false => have HT := Lib.hid (show r = false from by rw [← HR.out]; simp [stepA, ha0', ha1', HBR.out]); go_wp2_with fail; go_ret; (try rw [HT.out]); exact ⟨by first | rfl | (rw [HT.out]), LF.out⟩
        obtain ⟨m, hm⟩ : ∃ m, actN fs ⟨5, xa, xt, xv⟩ = m := ⟨_, rfl⟩
        have HAC := Lib.hid (ract_n w2 q fs ⟨5, xa, xt, xv⟩ m HRT.out HWF.out HV.out hm)
        have HM := Lib.hid hm
        clear hm
        cases hm0 : (m == 0)
        · go_wp2_with fail; refine (HAC.out).mono ?_; rintro e w3 ⟨rfl, _, o3⟩; have LA := Lib.hid (LF.out.trans (o3.lo (fun k e => by have := LW.out.size; omega) LF.out.size)); clear o3
          have HT := Lib.hid (show r = false from by rw [← HR.out]; simp [stepA, ha0', ha1', HBR.out, show ¬ actN fs ⟨5, xa, xt, xv⟩ = 0 by rw [HM.out]; simpa using hm0]); go_wp2_with fail; go_ret; (try rw [HT.out]); exact ⟨by first | rfl | (rw [HT.out]), LA.out⟩
        · go_wp2_with fail; refine (HAC.out).mono ?_; rintro e w3 ⟨rfl, _, o3⟩; have LA := Lib.hid (LF.out.trans (o3.lo (fun k e => by have := LW.out.size; omega) LF.out.size)); clear o3
          have HT := Lib.hid (show r = true from by rw [← HR.out]; simp [stepA, ha0', ha1', HBR.out, show actN fs ⟨5, xa, xt, xv⟩ = 0 by rw [HM.out]; simpa using hm0]); go_wp2_with fail; go_ret; (try rw [HT.out]); exact ⟨by first | rfl | (rw [HT.out]), LA.out⟩
      have k5 : (xk == 5) = false := by simpa using hk5
      by_cases hk6 : xk = 6
      · subst hk6
        go_wp2_with fail; refine HO.out.mono ?_; rintro e w2 ⟨q, rfl, hrt, hqs, l2⟩; have HRT := Lib.hid hrt; have L2 := Lib.hid l2; have LF := Lib.hid (btrans LW.out (Nat.le_refl _) l2); replace d0 := bkeep l2 d0; replace d1 := bkeep l2 d1; replace d2 := bkeep l2 d2; replace d3 := bkeep l2 d3; clear hrt l2
        cases b7
        case true => have HT := Lib.hid (show r = false from by rw [← HR.out]; simp [stepA, ha0', ha1']); go_wp2_with fail; go_ret; (try rw [HT.out]); exact ⟨by first | rfl | (rw [HT.out]), LF.out⟩
        cases br
        case false => have HT := Lib.hid (show r = false from by rw [← HR.out]; simp [stepA, ha0', ha1', HBR.out]); go_wp2_with fail; go_ret; (try rw [HT.out]); exact ⟨by first | rfl | (rw [HT.out]), LF.out⟩
        obtain ⟨m, hm⟩ : ∃ m, actN fs ⟨6, xa, xt, xv⟩ = m := ⟨_, rfl⟩
        have HAC := Lib.hid (ract_n w2 q fs ⟨6, xa, xt, xv⟩ m HRT.out HWF.out HV.out hm)
        have HM := Lib.hid hm
        clear hm
        cases hm0 : (m == 0)
        · go_wp2_with fail; refine (HAC.out).mono ?_; rintro e w3 ⟨rfl, _, o3⟩; have LA := Lib.hid (LF.out.trans (o3.lo (fun k e => by have := LW.out.size; omega) LF.out.size)); clear o3
          have HT := Lib.hid (show r = false from by rw [← HR.out]; simp [stepA, ha0', ha1', HBR.out, show ¬ actN fs ⟨6, xa, xt, xv⟩ = 0 by rw [HM.out]; simpa using hm0]); go_wp2_with fail; go_ret; (try rw [HT.out]); exact ⟨by first | rfl | (rw [HT.out]), LA.out⟩
        · go_wp2_with fail; refine (HAC.out).mono ?_; rintro e w3 ⟨rfl, _, o3⟩; have LA := Lib.hid (LF.out.trans (o3.lo (fun k e => by have := LW.out.size; omega) LF.out.size)); clear o3
          have HT := Lib.hid (show r = true from by rw [← HR.out]; simp [stepA, ha0', ha1', HBR.out, show actN fs ⟨6, xa, xt, xv⟩ = 0 by rw [HM.out]; simpa using hm0]); go_wp2_with fail; go_ret; (try rw [HT.out]); exact ⟨by first | rfl | (rw [HT.out]), LA.out⟩
      have k6 : (xk == 6) = false := by simpa using hk6
      by_cases hk7 : xk = 7
      · subst hk7
        go_wp2_with fail; refine HO.out.mono ?_; rintro e w2 ⟨q, rfl, hrt, hqs, l2⟩; have HRT := Lib.hid hrt; have L2 := Lib.hid l2; have LF := Lib.hid (btrans LW.out (Nat.le_refl _) l2); replace d0 := bkeep l2 d0; replace d1 := bkeep l2 d1; replace d2 := bkeep l2 d2; replace d3 := bkeep l2 d3; clear hrt l2
        cases b7
        case true => have HT := Lib.hid (show r = false from by rw [← HR.out]; simp [stepA, ha0', ha1']); go_wp2_with fail; go_ret; (try rw [HT.out]); exact ⟨by first | rfl | (rw [HT.out]), LF.out⟩
        cases br
        case false => have HT := Lib.hid (show r = false from by rw [← HR.out]; simp [stepA, ha0', ha1', HBR.out]); go_wp2_with fail; go_ret; (try rw [HT.out]); exact ⟨by first | rfl | (rw [HT.out]), LF.out⟩
        have hdp := rdepth_p HRT.out
        obtain ⟨m, hm⟩ : ∃ m : Int, (fs.length : Int) - 1 = m := ⟨_, rfl⟩
        rw [hm] at hdp
        have HDP := Lib.hid hdp; have HM := Lib.hid hm
        clear hdp hm
        cases hm0 : (m == 0)
        · have hm1 : ¬ m = 0 := by simpa using hm0
          have hl1 : ¬ fs.length = 1 := by
            have h := HM.out
            omega
          go_wp2_with fail
          refine HDP.out.mono ?_; rintro e w3 ⟨rfl, rfl⟩
          have HT := Lib.hid (show r = false from by rw [← HR.out]; simp [stepA, ha0', ha1', HBR.out, hl1]); go_wp2_with fail; go_ret; (try rw [HT.out]); exact ⟨by first | rfl | (rw [HT.out]), LF.out⟩
        · have hm1 : m = 0 := by simpa using hm0
          have hl1 : fs.length = 1 := by
            have h := HM.out
            omega
          go_wp2_with fail
          refine HDP.out.mono ?_; rintro e w3 ⟨rfl, rfl⟩
          have HT := Lib.hid (show r = true from by rw [← HR.out]; simp [stepA, ha0', ha1', HBR.out, hl1]); go_wp2_with fail; go_ret; (try rw [HT.out]); exact ⟨by first | rfl | (rw [HT.out]), LF.out⟩
      have k7 : (xk == 7) = false := by simpa using hk7
      go_wp2_with fail; refine HO.out.mono ?_; rintro e w2 ⟨q, rfl, hrt, hqs, l2⟩; have HRT := Lib.hid hrt; have L2 := Lib.hid l2; have LF := Lib.hid (btrans LW.out (Nat.le_refl _) l2); replace d0 := bkeep l2 d0; replace d1 := bkeep l2 d1; replace d2 := bkeep l2 d2; replace d3 := bkeep l2 d3; clear hrt l2
      have HT := Lib.hid (show r = false from by rw [← HR.out]; simp [stepA, ha0', ha1', h1, hk8, hk9, hk2, hk3, hk4, hk5, hk6, hk7]); go_wp2_with fail; go_ret; (try rw [HT.out]); exact ⟨by first | rfl | (rw [HT.out]), LF.out⟩
end Go.Proofs.YtganmdbhmihjpaaGreat.His
/- Whether events can have been, which attempts there are, those in a state: both sides. -/
namespace Go.Proofs.YtganmdbhmihjpaaGreat.His
open Go.RowKit Go.Proofs.YtganmdbhmihjpaaGreat.Wri Go.ChangeShapes Go.WideShapes Go.ChangeAt
set_option linter.unusedSimpArgs false
set_option linter.unusedVariables false
set_option maxRecDepth 50000

set_option maxHeartbeats 1600000 in
theorem rright_any (w : World) (p : Option Addr) (n c : Nat) (l : List Ev) (h : EvsIn w p n l) (hok : EvsOk l) (hn : n ≤ 400) (r : Bool) (hr : goodL l = r) :
    Calls Tryz.prog 44 #[.slice p n c] w fun e w' => e = .returned (.bool r) ∧ Below w.heap.size w w' := by
  have H := Lib.hid h; have HL := Lib.hid h.1; have HOK := Lib.hid hok; have HR := Lib.hid hr
  have d4 : decide ((400 : Int) < n) = false := by simp; omega
  clear h hok hr
  go_enter Tryz.func44, Tryz.ntmps44
  go_wp2_with fail
  go_loopw [3] (fun i wr => ∃ k : Nat, i = .int .i64 k ∧ k ≤ n ∧ Good (l.take k) ∧ Below w.heap.size w wr) (fun i _ => n - (intOf i).toNat)
  case atStart => exact ⟨0, rfl, Nat.zero_le _, fun i x h => by simp at h, Below.refl _ _⟩
  case round =>
    obtain ⟨k, rfl, hk, hG, hB⟩ := hrel
    have HG := Lib.hid hG; have HB := Lib.hid hB
    clear hG hB
    by_cases hlt : k < n
    · have hx : l[k]? = some (l[k]'(by rw [HL.out]; exact hlt)) := List.getElem?_eq_getElem _
      obtain ⟨x, hxe⟩ : ∃ x, l[k]'(by rw [HL.out]; exact hlt) = x := ⟨_, rfl⟩
      rw [hxe] at hx
      have hf := rfits_any wr p n c l (H.out.below HB.out) (fun x hx => (HOK.out x hx).2) (by omega) k hlt x hx
      have hw1 : IntKind.i64.wrap ((k : Int) + 1) = (k : Int) + 1 := by rw [IntKind.wrap_i64]; omega
      cases hs : stepA (stA (l.take k) x.a) x with
      | none =>
        rw [hs] at hf
        have HF := Lib.hid hf
        have HT := Lib.hid (show r = false by rw [← HR.out]; exact good_no hx hs)
        clear hf hs hx hxe
        go_wp2_with fail
        refine HF.out.mono ?_
        rintro e w1 ⟨rfl, l1⟩
        have HB1 := Lib.hid (btrans HB.out (Nat.le_refl _) l1)
        clear l1
        go_wp2_with fail
        go_ret
        exact ⟨by rw [HT.out]; rfl, HB1.out⟩
      | some a =>
        rw [hs] at hf
        have HF := Lib.hid hf
        have HG2 := Lib.hid (updA_st hx HG.out hs).2
        clear hf hs hx hxe
        go_wp2_with fail
        refine HF.out.mono ?_
        rintro e w1 ⟨rfl, l1⟩
        have HB1 := Lib.hid (btrans HB.out (Nat.le_refl _) l1)
        clear l1
        go_wp2_with fail
        exact ⟨⟨k + 1, by go_num, by omega, HG2.out, HB1.out⟩, by simp [intOf]; omega⟩
    · obtain rfl : k = n := by omega
      have hg := HG.out
      rw [List.take_of_length_le (by rw [HL.out]; exact Nat.le_refl _)] at hg
      have HT := Lib.hid (show r = true by rw [← HR.out]; exact (goodL_iff l).2 hg)
      clear hg
      go_wp2_with fail
      go_ret
      exact ⟨by rw [HT.out]; rfl, HB.out⟩
end Go.Proofs.YtganmdbhmihjpaaGreat.His
/- slices.DeleteFunc over ints, for whatever function it is told. -/
namespace Go.Proofs.YtganmdbhmihjpaaGreat.His
open Go.RowKit
set_option linter.unusedSimpArgs false
set_option linter.unusedVariables false
set_option maxRecDepth 50000

theorem take_snoc (ts : List Int) (k : Nat) (h : k < ts.length) : ts.take (k + 1) = ts.take k ++ [ts.getD k 0] := by
  rw [List.take_add_one, List.getElem?_eq_getElem h, List.getD_eq_getElem?_getD, List.getElem?_eq_getElem h]; rfl
/-- a function of ints: what it tells as long as nothing but g changes -/
structure Says (w : World) (g : Nat) (f : FuncId) (cap : Array Value) (del : Int → Bool) : Prop where
  fn : ∀ args W, (callFunc f args).run Tryz.prog W = .ok (.enter f args) W
  call : ∀ t W, Only (fun k => k = g) w W → Calls Tryz.prog f (#[.int .i64 t] ++ cap) W fun e W' => e = .returned (.bool (del t)) ∧ Below W.heap.size W W'
theorem Says.on {w W : World} {g : Nat} {f : FuncId} {cap : Array Value} {del : Int → Bool} (h : Says w g f cap del) (o : Only (fun k => k = g) w W) : Says W g f cap del :=
  ⟨h.fn, fun t W' o' => h.call t W' (o.trans o')⟩
theorem only_lo {g : Nat} {w W : World} (l : Below w.heap.size w W) : Only (fun k => k = g) w W := Only.of_below l fun k hk h => absurd hk (Nat.not_lt.2 h)
def IdxPost (w : World) (ts : List Int) (del : Int → Bool) (e : Ending) (w' : World) : Prop :=
  Below w.heap.size w w' ∧ (((∀ t ∈ ts, del t = false) ∧ e = .returned (.int .i64 (-1))) ∨ ∃ k : Nat, k < ts.length ∧ del (ts.getD k 0) = true ∧ (∀ t ∈ ts.take k, del t = false) ∧ e = .returned (.int .i64 k))
/-! ### DeleteFunc -/
def keepT (ts : List Int) (del : Int → Bool) : List Int := ts.filter fun t => !del t
theorem keepT_none {ts : List Int} {del : Int → Bool} (h : ∀ t ∈ ts, del t = false) : keepT ts del = ts := List.filter_eq_self.2 fun t ht => by rw [h t ht]; rfl
/-- the row in the midst of it: what was kept of the first j, behind it what stood there -/
def midT (ts : List Int) (del : Int → Bool) (j : Nat) : List Int := keepT (ts.take j) del ++ ts.drop (keepT (ts.take j) del).length
theorem keepT_len (ts : List Int) (del : Int → Bool) (j : Nat) : (keepT (ts.take j) del).length ≤ j := by
  have h1 := List.length_filter_le (fun t => !del t) (ts.take j)
  have h2 : (ts.take j).length ≤ j := by rw [List.length_take]; omega
  unfold keepT
  omega
theorem midT_len (ts : List Int) (del : Int → Bool) (j : Nat) (h : j ≤ ts.length) : (midT ts del j).length = ts.length := by
  have := keepT_len ts del j
  unfold midT
  rw [List.length_append, List.length_drop]
  omega
theorem midT_get (ts : List Int) (del : Int → Bool) (j : Nat) (h : j < ts.length) : (midT ts del j)[j]? = some (ts.getD j 0) := by
  have h1 := keepT_len ts del j
  unfold midT
  rw [List.getElem?_append_right (by omega), List.getElem?_drop, show (keepT (ts.take j) del).length + (j - (keepT (ts.take j) del).length) = j by omega, List.getElem?_eq_getElem h, List.getD_eq_getElem?_getD, List.getElem?_eq_getElem h]
  rfl
theorem midT_skip (ts : List Int) (del : Int → Bool) (j : Nat) (h : j < ts.length) (he : del (ts.getD j 0) = true) : keepT (ts.take (j + 1)) del = keepT (ts.take j) del ∧ midT ts del (j + 1) = midT ts del j := by
  have e : keepT (ts.take (j + 1)) del = keepT (ts.take j) del := by
    unfold keepT
    rw [take_snoc ts j h, List.filter_append, List.filter_cons_of_neg (by rw [he]; decide)]
    simp
  exact ⟨e, by unfold midT; rw [e]⟩
theorem midT_keep (ts : List Int) (del : Int → Bool) (j : Nat) (h : j < ts.length) (he : del (ts.getD j 0) = false) : keepT (ts.take (j + 1)) del = keepT (ts.take j) del ++ [ts.getD j 0] ∧ midT ts del (j + 1) = (midT ts del j).set (keepT (ts.take j) del).length (ts.getD j 0) := by
  have e : keepT (ts.take (j + 1)) del = keepT (ts.take j) del ++ [ts.getD j 0] := by
    unfold keepT
    rw [take_snoc ts j h, List.filter_append]
    congr 1
    rw [List.filter_cons_of_pos (by rw [he]; decide), List.filter_nil]
  refine ⟨e, ?_⟩
  have h1 := keepT_len ts del j
  unfold midT
  rw [e, List.set_append_right _ _ (Nat.le_refl _), Nat.sub_self, List.length_append, List.length_singleton, List.append_assoc]
  congr 1
  rw [List.drop_eq_getElem_cons (show (keepT (ts.take j) del).length < ts.length by omega)]
  rfl
theorem zeroI (w : World) : (zeroValue 3).run Tryz.prog w = .ok (.int .i64 0) w := by kernel_rfl
abbrev RowI (w : World) (g n cap : Nat) (ts : List Int) : Prop := w.ownsRow 0 3 1 (.slice (some ⟨g, 0, none⟩) n cap) n (ts.map fun t => .int .i64 t)
theorem RowI.cell {w : World} {g n cap : Nat} {ts : List Int} (h : RowI w g n cap ts) {i : Nat} {t : Int} (hi : ts[i]? = some t) : w.cell? ⟨g, i, none⟩ = some (.int .i64 t) :=
  row_cell1 (v := .nilFunc) h (by rw [List.getElem?_map, hi]; rfl)
theorem RowI.free {w : World} {g n cap : Nat} {ts : List Int} (h : RowI w g n cap ts) (i : Nat) : w.frozen? ⟨g, i, none⟩ = false := by
  obtain ⟨cs, hg⟩ := row_obj h (k := g) rfl
  exact blk_free hg i
theorem RowI.below {w w' : World} {g n cap : Nat} {ts : List Int} (h : RowI w g n cap ts) (l : Below w.heap.size w w') : RowI w' g n cap ts := ownsRow_only h (Only.empty l (Nat.le_refl _)) (fun _ _ h => h)
theorem RowI.intsIn {w : World} {g n cap : Nat} {ts : List Int} (h : RowI w g n cap ts) : IntsIn w (some ⟨g, 0, none⟩) n ts := by
  have hl : ts.length = n := by have := h.1; simpa using this
  refine ⟨hl, .inr ⟨g, 0, rfl, fun i hi => ?_⟩⟩
  rw [Nat.zero_add]
  exact h.cell (by rw [List.getElem?_eq_getElem (by omega), List.getD_eq_getElem?_getD, List.getElem?_eq_getElem (by omega)]; rfl)
theorem RowI.set {w : World} {g n cap : Nat} {ts : List Int} (h : RowI w g n cap ts) {i : Nat} (hi : i < n) (t : Int) : RowI (w.setCell ⟨g, i, none⟩ (.int .i64 t)) g n cap (ts.set i t) := by
  have := row_set h (k := i) (by omega) (u := .int .i64 t)
  unfold RowI
  rw [List.map_set]
  exact this
def DelPost (w : World) (g n cap : Nat) (ts : List Int) (del : Int → Bool) (e : Ending) (w' : World) : Prop :=
  e = .returned (.slice (some ⟨g, 0, none⟩) (keepT ts del).length cap) ∧ RowI w' g (keepT ts del).length cap (keepT ts del) ∧ Only (fun k => k = g) w w'
end Go.Proofs.YtganmdbhmihjpaaGreat.His
/- play where the told function keeps a row of its own: none of the log's frames lies in it. -/
namespace Go.Proofs.YtganmdbhmihjpaaGreat.His
open Go.RowKit Go.Proofs.YtganmdbhmihjpaaGreat.Wri
set_option linter.unusedSimpArgs false
set_option linter.unusedVariables false
set_option maxRecDepth 50000

structure AttV (V : Nat → Prop) (w : World) (p q : Nat) (a : Att) : Prop where
  blk : w.heap[p]? = some (.cells #[ptr q, .bool a.tried, .bool a.ended] 109 (0, 0))
  log : LAv V w q a.fs
  well : WellS a.fs
theorem _root_.Go.Proofs.YtganmdbhmihjpaaGreat.Wri.LAv.below {V : Nat → Prop} {w w' : World} {b : Nat} {fs : List Frm} (h : LAv V w b fs) (l : Below w.heap.size w w') : LAv V w' b fs := by
  obtain ⟨xs, hx, hl, hn⟩ := h
  exact ⟨xs, hx, hl.below l, hn⟩
theorem AttV.at {V : Nat → Prop} {w : World} {p q : Nat} {a : Att} (h : AttV V w p q a) : AttAt w p q a := ⟨h.blk, h.log.at, h.well⟩
theorem AttV.below {V : Nat → Prop} {w w' : World} {p q : Nat} {a : Att} (h : AttV V w p q a) (l : Below w.heap.size w w') : AttV V w' p q a := ⟨bblk l h.blk, h.log.below l, h.well⟩
theorem AttV.ne {V V' : Nat → Prop} {w : World} {p q p' q' : Nat} {a a' : Att} (h : AttV V w p q a) (k : AttV V' w p' q' a') : p ≠ q' := h.at.ne k.at
def ActPostV (V : Nat → Prop) (w : World) (p q : Nat) (a : Att) (x : Ev) (e : Ending) (w' : World) : Prop :=
  e = .returned (.int .i64 (actN a.fs x)) ∧ AttV V w' p q ⟨actS a.fs x, a.tried, a.ended⟩ ∧ Only (fun k => k = q) w w'
theorem ActPostV.of {V : Nat → Prop} {w W w1 : World} {p q : Nat} {a : Att} {x : Ev} {n : Int} {fs : List Frm} (h : AttV V W p q a) (lW : Below w.heap.size w W) (hn : actN a.fs x = n) (hf : actS a.fs x = fs) (o : Only (fun k => k = q) W w1) (m : LAv V w1 q fs) : ActPostV V w p q a x (.returned (.int .i64 n)) w1 := by
  subst hn hf
  refine ⟨rfl, ⟨o.blk h.blk (h.ne h), m, WellS.act h.well x⟩, (Only.of_below lW (fun k hk e => ?_)).trans o⟩
  omega
set_option maxHeartbeats 1600000 in
theorem hact_v (w : World) (p q : Nat) (a : Att) (x : Ev) {V : Nat → Prop} (h : AttV V w p q a) (hVl : ∀ k, V k → k < w.heap.size) (hv : 0 ≤ x.v ∧ x.v < 18446744073709551616) :
    Calls Tryz.prog 77 #[ptr p, evV x] w (ActPostV V w p q a x) := by
  have hplt := blk_lt h.blk
  obtain ⟨xk, xa, xt, xv⟩ := x
  simp only at hv
  obtain ⟨W, hWdef⟩ : ∃ W, w.alloc (.cells #[.int .u8 xk, .int .i64 xa, .int .i64 xt, .int .u64 xv] 60) = W := ⟨_, rfl⟩; have lW : Below w.heap.size w W := by rw [← hWdef]; repeat (first | (with_reducible exact Below.refl _ _) | (with_reducible apply Below.drew) | (with_reducible refine below_drewN ?_ _) | (with_reducible refine below_alloc' ?_ ?_ _; (focus ((try simp) <;> omega))) | (with_reducible refine below_set' ?_ ?_ _; (focus ((try simp) <;> omega))))
  have hW := h.below lW
  have HVL := Lib.hid (show ∀ k, V k → k < W.heap.size from fun k hk => Nat.lt_of_lt_of_le (hVl k hk) lW.size)
  have HVLd := Lib.hid (show ∀ k, V k → k < W.drew.heap.size from fun k hk => by
    show k < W.heap.size
    exact HVL.out k hk)
  clear hVl
  have p0 := blk_cell hW.blk 0
  simp only [List.getElem?_toArray, List.getElem?_cons_zero] at p0
  have c0 : W.cell? ⟨w.heap.size, 0, none⟩ = some (.int .u8 xk) := by rw [← hWdef]; simp
  have c2 : W.cell? ⟨w.heap.size, 2, none⟩ = some (.int .i64 xt) := by rw [← hWdef]; simp
  have c3 : W.cell? ⟨w.heap.size, 3, none⟩ = some (.int .u64 xv) := by rw [← hWdef]; simp
  have HW := Lib.hid hW; have LW := Lib.hid lW; have HV := Lib.hid hv; have HWD := Lib.hid hWdef
  have HWd := Lib.hid (h.below lW.drew)
  have LWd := Lib.hid (show Below w.heap.size w W.drew from lW.drew)
  have hpq : p ≠ q := h.ne h
  have hqlt : q < w.heap.size := by obtain ⟨cs, hc⟩ := LAt.blk h.log.at; exact blk_lt hc
  have p0w := blk_cell h.blk 0
  simp only [List.getElem?_toArray, List.getElem?_cons_zero] at p0w
  have hpn : ¬ p = w.heap.size := by omega
  clear h hW lW hv hWdef
  by_cases h3 : xk = 3
  · subst h3
    have KO := Lib.hid (show ∀ w', Only (fun j => j = q) W.drew w' → w'.cell? ⟨p, 0, none⟩ = some (ptr q) ∧ w'.cell? ⟨w.heap.size, 2, none⟩ = some (.int .i64 xt) ∧ w'.cell? ⟨w.heap.size, 3, none⟩ = some (.int .u64 xv) from fun w' h => ⟨h.cell (w := W.drew) p0 (by show ¬ p = q; omega), h.cell (w := W.drew) c2 (by show ¬ w.heap.size = q; omega), h.cell (w := W.drew) c3 (by show ¬ w.heap.size = q; omega)⟩)
    have hS0 := KO.out W.drew (Only.refl _ _)
    go_enter Tryz.func77, Tryz.ntmps77
    go_wp2_with fail
    rw [HWD.out]
    go_wp2_with fail
    go_region_held3 (fun w' => w'.cell? ⟨p, 0, none⟩ = some (ptr q) ∧ w'.cell? ⟨w.heap.size, 2, none⟩ = some (.int .i64 xt) ∧ w'.cell? ⟨w.heap.size, 3, none⟩ = some (.int .u64 xv)) (first | (with_reducible exact hS0) | (with_reducible exact QB)) ((go_at_call 89; (with_reducible refine Calls.mono (lput_v (V := V) HWd.out.log HVLd.out HWd.out.well xt xv HV.out) ?_); rintro e w4 ⟨rfl, o4, m4⟩; have QB := KO.out w4 o4))
    have HF := Lib.hid (ActPostV.of (x := ⟨3, xa, xt, xv⟩) HWd.out LWd.out rfl rfl o4 m4)
    clear QB o4 m4 hS0 p0 c2 c3
    have HN := Lib.hid (show actN a.fs ⟨3, xa, xt, xv⟩ = putN a.fs xt xv from rfl)
    go_wp2_with fail
    go_ret
    exact HF.out
  have q3 : (xk == 3) = false := by simpa using h3
  by_cases h4 : xk = 4
  · subst h4
    go_enter Tryz.func77, Tryz.ntmps77; go_wp2_with fail; rw [HWD.out]; (try go_wp2_with fail); refine (lpush_v (V := V) HW.out.log HVL.out).mono ?_; rintro e w4 ⟨rfl, o4, m4⟩; have HF := Lib.hid (ActPostV.of (x := ⟨4, xa, xt, xv⟩) HW.out LW.out rfl rfl o4 m4); clear o4 m4; go_wp2_with fail; go_ret; exact HF.out
  have q4 : (xk == 4) = false := by simpa using h4
  by_cases h5 : xk = 5
  · subst h5
    go_enter Tryz.func77, Tryz.ntmps77; go_wp2_with fail; rw [HWD.out]; (try go_wp2_with fail); refine (ldrop_v (V := V) HW.out.log HVL.out).mono ?_; rintro e w4 ⟨rfl, o4, m4⟩; have HF := Lib.hid (ActPostV.of (x := ⟨5, xa, xt, xv⟩) HW.out LW.out rfl rfl o4 m4); clear o4 m4; go_wp2_with fail; go_ret; exact HF.out
  have q5 : (xk == 5) = false := by simpa using h5
  by_cases h6 : xk = 6
  · subst h6
    go_enter Tryz.func77, Tryz.ntmps77; go_wp2_with fail; rw [HWD.out]; (try go_wp2_with fail); refine (lmerge_v (V := V) HW.out.log HVL.out HW.out.well).mono ?_; rintro e w4 ⟨rfl, o4, m4⟩; have HF := Lib.hid (ActPostV.of (x := ⟨6, xa, xt, xv⟩) HW.out LW.out rfl rfl o4 m4); clear o4 m4; go_wp2_with fail; go_ret; exact HF.out
  have q6 : (xk == 6) = false := by simpa using h6
  have HF := Lib.hid (ActPostV.of (x := ⟨xk, xa, xt, xv⟩) (n := 0) (fs := a.fs) HW.out LW.out (by simp [actN, h3, h4, h5, h6]) (by simp [actS, h3, h4, h5, h6]) (Only.refl _ _) HW.out.log)
  clear h3 h4 h5 h6
  go_enter Tryz.func77, Tryz.ntmps77
  go_wp2_with fail
  go_ret
  rw [HWD.out]
  exact HF.out

/-- what the told function changes leaves the log -/
theorem StackAt.keepV {V S : Nat → Prop} {w w' : World} (ho : Only (fun k => S k ∨ V k) w w') (hs : Strange w S) (hv : ∀ k, V k → ∃ cs, w.heap[k]? = some (.cells cs 94 (0, 0))) : ∀ {p : Value} {xs : Frs}, StackAt w p xs → (∀ x ∈ xs, ∀ k, x.1.ownBlock = some k → ¬ V k) → StackAt w' p xs
  | _, [], h, _ => h
  | _, x :: r, ⟨b, q, e, hb, hf, hl, hr⟩, hn => ⟨b, q, e, ho.blk hb (fun h => h.elim (hs.not hb (.inl rfl)) (fun hv' => by
      obtain ⟨cs, hc⟩ := hv b hv'
      rw [hb] at hc
      injection hc with hc
      injection hc with _ hc _
      revert hc
      decide)), ownsRow_only hf ho (fun k hk h => h.elim (fun h => by
        obtain ⟨cs, hc⟩ := row_obj hf hk
        exact hs.not hc (.inr (.inl rfl)) h) (hn x (by simp) k hk)), hl, StackAt.keepV ho hs hv hr fun y hy => hn y (by simp [hy])⟩
theorem AttV.keep {V V' S : Nat → Prop} {w w' : World} {p q : Nat} {a : Att} (h : AttV V w p q a) (ho : Only (fun k => S k ∨ V k) w w') (hs : Strange w S) (hp : ¬ S p) (hq : ¬ S q) (hv : ∀ k, V k → ∃ cs, w.heap[k]? = some (.cells cs 94 (0, 0))) (hV : ∀ k, V' k → V k ∨ w.heap.size ≤ k) : AttV V' w' p q a := by
  obtain ⟨hb, ⟨xs, hx, ⟨o, hl, hst, h1, h5⟩, hn⟩, hw⟩ := h
  have hnt : ∀ {k : Nat} {cs : Array Value} {t : TypeId}, w.heap[k]? = some (.cells cs t (0, 0)) → t ≠ 94 → ¬ V k := fun {k cs t} hk ht hvk => by
    obtain ⟨cs2, hc⟩ := hv k hvk
    rw [hk] at hc
    injection hc with hc
    injection hc with _ hc _
    exact ht hc
  refine ⟨ho.blk hb (fun h => h.elim hp (hnt hb (by decide))), ⟨xs, hx, ⟨o, ho.blk hl (fun h => h.elim hq (hnt hl (by decide))), StackAt.keepV ho hs hv hst hn, h1, h5⟩, fun x hm k hk hvk => ?_⟩, hw⟩
  rcases hV k hvk with h2 | h2
  · exact hn x hm k hk h2
  · have hfr := (StackAt.mem hst x hm).1
    have := ownsRow_lt hfr hk
    omega
end Go.Proofs.YtganmdbhmihjpaaGreat.His
/- The real side: play, for a function that keeps a row of pairs. -/
namespace Go.Proofs.YtganmdbhmihjpaaGreat.His
open Go.RowKit Go.Proofs.YtganmdbhmihjpaaGreat.Wri
set_option linter.unusedSimpArgs false
set_option linter.unusedVariables false
set_option maxRecDepth 50000

/-- what a told function does that keeps a row of its own (V: its block) -/
structure ToldV (w : World) (f : FuncId) (cap : Array Value) (S : Nat → Prop) (I : List Ev → (Nat → Prop) → World → Prop) (L : List Ev) : Prop where
  ini : I [] (fun _ => False) w
  fn : ∀ args W, (callFunc f args).run Tryz.prog W = .ok (.enter f args) W
  lo : ∀ k, S k → k < w.heap.size
  odd : ∀ p V W, I p V W → Strange W S
  vty : ∀ p V W, I p V W → ∀ k, V k → ∃ cs, W.heap[k]? = some (.cells cs 94 (0, 0))
  vnew : ∀ p V W, I p V W → ∀ k, V k → w.heap.size ≤ k
  below : ∀ p V W W', I p V W → Below W.heap.size W W' → I p V W'
  turn : ∀ p V W W' q, I p V W → Only (fun k => k = q) W W' → (∃ cs, W.heap[q]? = some (.cells cs 123 (0, 0))) → w.heap.size ≤ q → I p V W'
  skip : ∀ p V x W, I p V W → x.k ≠ 2 → I (p ++ [x]) V W
  call : ∀ p V x W, I p V W → x.k = 2 → (∃ r, p ++ x :: r = L) → w.heap.size ≤ W.heap.size → Calls Tryz.prog f (#[evV x, .int .u64 ((getL (ownS p) x.t).getD 0), .bool (getL (ownS p) x.t).isSome] ++ cap) W fun e W' => e = .returned (.tuple #[]) ∧ ∃ V', I (p ++ [x]) V' W' ∧ Only (fun k => S k ∨ V k) W W' ∧ ∀ k, V' k → V k ∨ W.heap.size ≤ k
def PlayV (w : World) (S : Nat → Prop) (I : List Ev → (Nat → Prop) → World → Prop) (l : List Ev) (t : Int) (e : Ending) (w' : World) : Prop :=
  ∃ q, e = .returned (ptr q) ∧ LAt w' q (ownL l t) ∧ (∃ V, I (cutL l t) V w') ∧ Only S w w'
set_option maxHeartbeats 3200000 in
theorem playV_any (w : World) (a : Option Addr) (n c : Nat) (l : List Ev) (h : EvsIn w a n l) (hok : ∀ x ∈ l, 0 ≤ x.v ∧ x.v < 18446744073709551616) (hn : n ≤ 1000000) (t : Int) (f : FuncId) (cap : Array Value) (S : Nat → Prop) (I : List Ev → (Nat → Prop) → World → Prop) (hT : ToldV w f cap S I (cutL l t)) :
    Calls Tryz.prog 57 #[.slice a n c, .int .i64 t, .func (.func f) #[] cap] w (PlayV w S I l t) := by
  have H := Lib.hid h; have HT := Lib.hid hT; have HOK := Lib.hid (show ∀ x ∈ cutL l t, 0 ≤ x.v ∧ x.v < 18446744073709551616 from fun x hx => hok x (List.mem_filter.1 hx).1)
  have hLn : (cutL l t).length ≤ n := by
    have := cutL_len l t n
    rw [← h.1] at this ⊢
    rwa [List.take_length] at this
  unfold PlayV
  rw [← ownS_cut]
  obtain ⟨L, hL⟩ : ∃ L, cutL l t = L := ⟨_, rfl⟩
  have HC := Lib.hid (fun w1 (l1 : Below w.heap.size w w1) => cut_any w1 a n c l (h.below l1) hn t)
  rw [hL] at HT HOK HC hLn ⊢
  clear h hT hok hL
  go_enter Tryz.func57, Tryz.ntmps57
  go_wp2_with fail
  refine (new_any _).mono ?_
  rintro e w1 ⟨q, rfl, hq, hl1, l1⟩
  have HL1 := Lib.hid hl1; have L1 := Lib.hid l1
  have hs1 := l1.size
  clear hl1 l1
  go_wp2_with fail
  obtain ⟨W2, hW2⟩ : ∃ W2, w1.alloc (.cells #[ptr q, .bool false, .bool false] 109) = W2 := ⟨_, rfl⟩
  have l12 : Below w1.heap.size w1 W2 := by rw [← hW2]; repeat (first | (with_reducible exact Below.refl _ _) | (with_reducible apply Below.drew) | (with_reducible refine below_drewN ?_ _) | (with_reducible refine below_alloc' ?_ ?_ _; (focus ((try simp) <;> omega))) | (with_reducible refine below_set' ?_ ?_ _; (focus ((try simp) <;> omega))))
  have hb2 : W2.heap[w1.heap.size]? = some (.cells #[ptr q, .bool false, .bool false] 109 (0, 0)) := by rw [← hW2]; simp [↓heap_alloc_eq, ↓heap_set_eq, ↓heap_drew_eq, ↓heap_drewN_eq, setObj, size_drewN]
  have hat2 : AttV (fun _ => False) W2 w1.heap.size q ⟨[[]], false, false⟩ := ⟨hb2, LAv.below ⟨_, rfl, HL1.out, fun _ _ _ _ h => h⟩ l12, WellS.one⟩
  have l2 : Below w.heap.size w W2 := btrans L1.out (Nat.le_refl _) l12
  have HC2 := Lib.hid (HC.out _ l2)
  rw [hW2]
  clear hb2 hW2
  obtain ⟨p, hp⟩ : ∃ p, w1.heap.size = p := ⟨_, rfl⟩
  have hpw : w.heap.size ≤ p := by omega
  rw [hp] at hat2 ⊢
  have HAT2 := Lib.hid hat2; have L2 := Lib.hid l2
  clear hat2 l2 l12 hp
  refine HC2.out.mono ?_
  rintro e w3 ⟨v, rfl, hv, l3⟩
  obtain ⟨va, vc, rfl, hvi⟩ := EvsAt.open hv
  obtain ⟨m, hm⟩ : ∃ m, L.length = m := ⟨_, rfl⟩
  have HM := Lib.hid hm
  have hvb := ownsRow_base hv (base' := w.heap.size) (fun k hk => Nat.le_trans L2.out.size (hv.lt k hk).1)
  unfold EvsAt at hvb
  rw [hm] at hvb hLn ⊢
  have HV3 := Lib.hid (show EvsAt w.heap.size w3 (.slice va m vc) L by unfold EvsAt; rw [HM.out]; exact hvb)
  have HAT3 := Lib.hid (HAT2.out.below l3)
  have L3 := Lib.hid (btrans L2.out (Nat.le_refl _) l3)
  clear hv hvi hvb l3 hm HC HC2 HL1 L1
  go_wp2_with fail
  go_loopw [19] (fun i wr => ∃ (k : Nat) (V : Nat → Prop), i = .int .i64 k ∧ k ≤ m ∧ AttV V wr p q ⟨ownS (L.take k), false, false⟩ ∧ EvsAt w.heap.size wr (.slice va m vc) L ∧ I (L.take k) V wr ∧ Only S w wr ∧ w.heap.size ≤ wr.heap.size) (fun i _ => m - (intOf i).toNat)
  case atStart => exact ⟨0, fun _ => False, rfl, Nat.zero_le _, HAT3.out, HV3.out, by rw [List.take_zero]; exact HT.out.below _ _ _ _ HT.out.ini L3.out, Only.of_below L3.out (fun k hk h => absurd hk (Nat.not_lt.2 h)), L3.out.size⟩
  case round =>
    obtain ⟨k, V, rfl, hk, hat, hV, hI, hO, hsz⟩ := hrel
    by_cases hlt : k < m
    · obtain ⟨g, off, rfl, hc⟩ := (EvsAt.in' hV).2.resolve_left (by omega)
      obtain ⟨x, hx, c0, c1, c2, c3⟩ := hc k hlt
      have hw1 : IntKind.i64.wrap ((k : Int) + 1) = (k : Int) + 1 := by rw [IntKind.wrap_i64]; omega
      obtain ⟨xk, xa, xt, xv⟩ := x
      simp only at c0 c1 c2 c3
      obtain ⟨W, hW⟩ : ∃ W, wr.alloc (.cells #[.int .u8 xk, .int .i64 xa, .int .i64 xt, .int .u64 xv] 60) = W := ⟨_, rfl⟩
      have lX : Below wr.heap.size wr W := by rw [← hW]; repeat (first | (with_reducible exact Below.refl _ _) | (with_reducible apply Below.drew) | (with_reducible refine below_drewN ?_ _) | (with_reducible refine below_alloc' ?_ ?_ _; (focus ((try simp) <;> omega))) | (with_reducible refine below_set' ?_ ?_ _; (focus ((try simp) <;> omega))))
      have hbX : W.heap[wr.heap.size]? = some (.cells #[.int .u8 xk, .int .i64 xa, .int .i64 xt, .int .u64 xv] 60 (0, 0)) := by rw [← hW]; simp [↓heap_alloc_eq, ↓heap_set_eq, ↓heap_drew_eq, ↓heap_drewN_eq, setObj, size_drewN]
      have HX := Lib.hid hx; have HWD := Lib.hid hW; have HBX := Lib.hid hbX
      have HAT := Lib.hid (hat.below lX)
      have HV := Lib.hid (show EvsAt w.heap.size W _ L from ownsRow_only hV (Only.empty lX (Nat.le_refl _)) (fun _ _ h => h))
      have HI := Lib.hid (HT.out.below _ _ _ _ hI lX)
      have HO := Lib.hid (hO.trans (Only.of_below lX (fun k hk h => absurd hk (Nat.not_lt.2 h))))
      have hsz2 := lX.size
      have b0 := blk_cell HAT.out.blk 0
      have x0 := blk_cell hbX 0; have x1 := blk_cell hbX 1; have x2 := blk_cell hbX 2; have x3 := blk_cell hbX 3
      simp only [List.getElem?_toArray, List.getElem?_cons_zero, List.getElem?_cons_succ] at b0 x0 x1 x2 x3
      clear hc hx hW lX hbX hat hV hI hO
      have STEP := Lib.hid (fun (W' : World) (V' : Nat → Prop) (A' : AttV V' W' p q ⟨ownS (L.take k), false, false⟩) (R' : EvsAt w.heap.size W' (.slice (some ⟨g, off, none⟩) m vc) L) (I' : I (L.take k ++ [⟨xk, xa, xt, xv⟩]) V' W') (O' : Only S w W') =>
        (hact_v W' p q _ ⟨xk, xa, xt, xv⟩ A' (fun j hj => by obtain ⟨cs, hc⟩ := HT.out.vty _ _ _ I' j hj; exact blk_lt hc) (HOK.out _ (List.mem_of_getElem? HX.out))).mono (R' := fun e w5 => (∃ z, e = .returned (.int .i64 z)) ∧ AttV V' w5 p q ⟨ownS (L.take (k + 1)), false, false⟩ ∧ EvsAt w.heap.size w5 (.slice (some ⟨g, off, none⟩) m vc) L ∧ I (L.take (k + 1)) V' w5 ∧ Only S w w5 ∧ w.heap.size ≤ w5.heap.size) (fun e w5 hp => by
          obtain ⟨rfl, h1, h2⟩ := hp
          obtain ⟨cs, hc⟩ := LAt.blk A'.log.at
          refine ⟨⟨_, rfl⟩, ?_, ?_, ?_, ?_, ?_⟩
          · rw [take_at HX.out, ownS_snoc]; exact h1
          · exact ownsRow_only R' h2 (fun j hj e => by subst e; exact row_ne R' hc (by decide) hj)
          · rw [take_at HX.out]; exact HT.out.turn _ _ _ _ q I' h2 ⟨cs, hc⟩ hq
          · exact O'.after h2 (fun j hj e => by omega)
          · exact Nat.le_trans O'.size h2.size))
      by_cases hk2 : xk = 2
      · subst hk2
        have HATd := Lib.hid (HAT.out.below (Below.refl W.heap.size W).drew)
        have HVd := Lib.hid (show EvsAt w.heap.size W.drew (.slice (some ⟨g, off, none⟩) m vc) L from ownsRow_only HV.out (Only.empty (Below.refl W.heap.size W).drew (Nat.le_refl _)) (fun _ _ h => h))
        have HId := Lib.hid (HT.out.below _ _ _ _ HI.out (Below.refl W.heap.size W).drew)
        have HOd := Lib.hid (show Only S w W.drew from HO.out.drew)
        have hszd : w.heap.size ≤ W.drew.heap.size := by show w.heap.size ≤ W.heap.size; omega
        have KO := Lib.hid (show ∀ w', Below W.drew.heap.size W.drew w' → (w'.cell? ⟨p, 0, none⟩ = some (ptr q) ∧ w'.cell? ⟨wr.heap.size, 2, none⟩ = some (.int .i64 xt)) from fun w' l => ⟨bkeep l b0, bkeep l x2⟩)
        have QA := KO.out W.drew (Below.refl _ _)
        have HXd := Lib.hid (show W.drew.heap[wr.heap.size]? = some (.cells #[.int .u8 2, .int .i64 xa, .int .i64 xt, .int .u64 xv] 60 (0, 0)) from HBX.out)
        go_wp2_with fail
        rw [HWD.out]
        go_region_held3 (fun w' => w'.cell? ⟨p, 0, none⟩ = some (ptr q) ∧ w'.cell? ⟨wr.heap.size, 2, none⟩ = some (.int .i64 xt)) (first | (with_reducible exact QA) | (with_reducible exact QB)) ((go_at_call 79; (with_reducible refine Calls.mono (lget_p HATd.out.log.at xt) ?_); rintro e w4 ⟨rfl, l4⟩; have QB := KO.out w4 l4))
        have hb4 := bblk l4 HXd.out
        have y0 := blk_cell hb4 0; have y1 := blk_cell hb4 1; have y2 := blk_cell hb4 2; have y3 := blk_cell hb4 3
        simp only [List.getElem?_toArray, List.getElem?_cons_zero, List.getElem?_cons_succ] at y0 y1 y2 y3
        have hA4 := HATd.out.below l4
        have hV4 : EvsAt w.heap.size w4 (.slice (some ⟨g, off, none⟩) m vc) L := ownsRow_only HVd.out (Only.empty l4 (Nat.le_refl _)) (fun _ _ h => h)
        have hI4 := HT.out.below _ _ _ _ HId.out l4
        have hO4 : Only S w w4 := HOd.out.trans (Only.of_below l4 (fun k hk h => absurd hk (Nat.not_lt.2 h)))
        have hs4 := Nat.le_trans hszd l4.size
        have hcl := HT.out.call _ _ ⟨2, xa, xt, xv⟩ _ hI4 rfl (take_eq HX.out) hs4
        have hod := HT.out.odd _ _ _ hI4
        have HVT := Lib.hid (HT.out.vty _ _ _ hI4); have HVN := Lib.hid (HT.out.vnew _ _ _ hI4)
        have HCL := Lib.hid hcl; have HOD := Lib.hid hod
        have HA4 := Lib.hid hA4; have HV4 := Lib.hid hV4; have HI4 := Lib.hid hI4; have HO4 := Lib.hid hO4; have HB4 := Lib.hid hb4
        clear hcl hod hA4 hV4 hI4 hO4 hb4 QA QB l4 HATd HVd HId HOd KO HXd
        generalize (getL (ownS (L.take k)) xt).getD 0 = g1 at *
        generalize (getL (ownS (L.take k)) xt).isSome = g2 at *
        have hcf := HT.out.fn
        go_wp2_with fail
        refine HCL.out.mono ?_
        rintro e w5 ⟨rfl, V5, i5, o5, hv5⟩
        have lo := HT.out.lo
        have H5 := Lib.hid (show AttV V5 w5 p q ⟨ownS (L.take k), false, false⟩ ∧ EvsAt w.heap.size w5 (.slice (some ⟨g, off, none⟩) m vc) L ∧ I (L.take k ++ [⟨2, xa, xt, xv⟩]) V5 w5 ∧ Only S w w5 from ⟨HA4.out.keep o5 HOD.out (fun h => by have := lo _ h; omega) (fun h => by have := lo _ h; omega) HVT.out hv5, ownsRow_only HV4.out o5 (fun j hj h => by
          rcases h with h | h
          · have h6 := (HV4.out.lt j hj).1
            have := lo _ h
            omega
          · obtain ⟨cs, hc⟩ := HVT.out j h
            exact row_ne HV4.out hc (by decide) hj), i5, HO4.out.after o5 (fun j hj h => by
          rcases h with h | h
          · exact h
          · have := HVN.out j h
            omega)⟩)
        have z0 := (bblk (Below.refl w4.heap.size w4) HB4.out)
        have hb5 := o5.blk HB4.out (fun h => by
          rcases h with h | h
          · have := lo _ h
            omega
          · obtain ⟨cs, hc⟩ := HVT.out _ h
            rw [HB4.out] at hc
            injection hc with hc
            injection hc with _ hc _
            revert hc
            decide)
        have y0 := blk_cell hb5 0; have y1 := blk_cell hb5 1; have y2 := blk_cell hb5 2; have y3 := blk_cell hb5 3
        simp only [List.getElem?_toArray, List.getElem?_cons_zero, List.getElem?_cons_succ] at y0 y1 y2 y3
        clear i5 o5 lo z0 hb5 hv5
        go_wp2_with fail
        refine (STEP.out w5 V5 H5.out.1 H5.out.2.1 H5.out.2.2.1 H5.out.2.2.2).mono ?_
        rintro e w6 ⟨⟨z, rfl⟩, h1, h2, h3, h4, h5⟩
        have H6 := Lib.hid (And.intro h1 (And.intro h2 (And.intro h3 (And.intro h4 h5))))
        clear h1 h2 h3 h4 h5
        go_wp2_with fail
        exact ⟨⟨k + 1, V5, by go_num, by omega, H6.out⟩, by simp [intOf]; omega⟩
      · have q2 : (xk == 2) = false := by simpa using hk2
        have HI2 := Lib.hid (HT.out.skip _ _ ⟨xk, xa, xt, xv⟩ _ HI.out hk2)
        clear hk2
        go_wp2_with fail
        rw [HWD.out]
        refine (STEP.out W V HAT.out HV.out HI2.out HO.out).mono ?_
        rintro e w5 ⟨⟨z, rfl⟩, h1, h2, h3, h4, h5⟩
        have H5 := Lib.hid (And.intro h1 (And.intro h2 (And.intro h3 (And.intro h4 h5))))
        clear h1 h2 h3 h4 h5
        go_wp2_with fail
        exact ⟨⟨k + 1, V, by go_num, by omega, H5.out⟩, by simp [intOf]; omega⟩
    · obtain rfl : k = m := by omega
      rw [List.take_of_length_le (by rw [HM.out]; exact Nat.le_refl _)] at hat hI
      have b0 := blk_cell hat.blk 0
      simp only [List.getElem?_toArray, List.getElem?_cons_zero] at b0
      have HF := Lib.hid (show LAt wr q (ownS L) ∧ (∃ V, I L V wr) ∧ Only S w wr from ⟨hat.log.at, ⟨V, hI⟩, hO⟩)
      clear hat hI hO hV
      go_wp2_with fail
      go_ret
      exact ⟨q, rfl, HF.out.1, HF.out.2.1, HF.out.2.2⟩
end Go.Proofs.YtganmdbhmihjpaaGreat.His
/- The real side: Reads, whatever is read. -/
namespace Go.Proofs.YtganmdbhmihjpaaGreat.His
open Go.RowKit Go.Proofs.YtganmdbhmihjpaaGreat.Wri
set_option linter.unusedSimpArgs false
set_option linter.unusedVariables false
set_option maxRecDepth 50000

theorem readsG_snoc (x : Ev) : ∀ (p : List Ev) (fs : List Frm), readsG fs (p ++ [x]) = readsG fs p ++ (if (x.k == 2 && (getL (p.foldl actS fs) x.t).isNone) = true then [(x.t, x.v)] else []) := by
  intro p
  induction p with
  | nil =>
    intro fs
    show _ ++ [] = [] ++ _
    rw [List.append_nil, List.nil_append]
    rfl
  | cons y p ih =>
    intro fs
    rw [List.cons_append, readsG, ih, readsG, List.foldl_cons, List.append_assoc]
theorem readsG_len : ∀ (p : List Ev) (fs : List Frm), (readsG fs p).length ≤ p.length := by
  intro p
  induction p with
  | nil => intro fs; simp [readsG]
  | cons y p ih =>
    intro fs
    have := ih (actS fs y)
    unfold readsG
    rw [List.length_append, List.length_cons]
    split <;> simp <;> omega
/-- the box that the told function keeps -/
def PBox (b : Nat) (p : List Ev) (V : Nat → Prop) (W : World) : Prop := ∃ v, W.heap[b]? = some (.cells #[v] 71 (0, 0)) ∧ PairsAt (b + 1) W v (readsG [[]] p) ∧ V = fun k => v.ownBlock = some k
theorem PBox.odd {b : Nat} {p : List Ev} {V : Nat → Prop} {W : World} (h : PBox b p V W) : Strange W (fun k => k = b) := fun k hk => by
  subst hk
  obtain ⟨v, hb, _⟩ := h
  exact .inr ⟨_, _, _, hb, by decide, by decide, by decide⟩
theorem PBox.below {b : Nat} {p : List Ev} {V : Nat → Prop} {W W' : World} (h : PBox b p V W) (l : Below W.heap.size W W') : PBox b p V W' := by
  obtain ⟨v, hb, hv, hV⟩ := h
  exact ⟨v, bblk l hb, pairs_grow hv l, hV⟩
theorem PBox.turn {b : Nat} {p : List Ev} {V : Nat → Prop} {W W' : World} {q : Nat} (h : PBox b p V W) (o : Only (fun k => k = q) W W') (hq : ∃ cs, W.heap[q]? = some (.cells cs 123 (0, 0))) : PBox b p V W' := by
  obtain ⟨v, hb, hv, hV⟩ := h
  refine ⟨v, box_turn hb (by decide) o hq, ?_, hV⟩
  obtain ⟨cs, hc⟩ := hq
  exact ownsRow_only hv o (fun j hj e => by subst e; exact row_ne hv hc (by decide) hj)
def PPost (b : Nat) (p : List Ev) (V : Nat → Prop) (x : Ev) (W : World) (e : Ending) (W' : World) : Prop :=
  e = .returned (.tuple #[]) ∧ ∃ V', PBox b (p ++ [x]) V' W' ∧ Only (fun k => k = b ∨ V k) W W' ∧ ∀ k, V' k → V k ∨ W.heap.size ≤ k
set_option maxHeartbeats 1600000 in
theorem readsV_any (b : Nat) (p : List Ev) (V : Nat → Prop) (x : Ev) (W : World) (h : PBox b p V W) (hk : x.k = 2) (hl : p.length ≤ 1000000) :
    Calls Tryz.prog 58 #[evV x, .int .u64 ((getL (ownS p) x.t).getD 0), .bool (getL (ownS p) x.t).isSome, ptr b] W (PPost b p V x W) := by
  obtain ⟨i0, hi, hz0, hz1, hz2⟩ := info_parts infoP
  have hlen := readsG_len p [[]]
  have hS2 : readsG [[]] (p ++ [x]) = readsG [[]] p ++ (if (getL (ownS p) x.t).isNone = true then [(x.t, x.v)] else []) := by
    rw [readsG_snoc x p [[]]]
    simp only [hk, beq_self_eq_true, Bool.true_and]
    rfl
  obtain ⟨v, hb, hv, rfl⟩ := h
  obtain ⟨xk, xa, xt, xv⟩ := x
  simp only at hS2 hk ⊢
  subst hk
  have hblt := blk_lt hb
  unfold PPost
  cases hg : getL (ownS p) xt with
  | some u =>
    have hS3 : readsG [[]] (p ++ [⟨2, xa, xt, xv⟩]) = readsG [[]] p := by rw [hS2, hg]; simp
    have HF := Lib.hid (show PBox b (p ++ [⟨2, xa, xt, xv⟩]) (fun k => v.ownBlock = some k) (W.alloc (.cells #[.int .u8 2, .int .i64 xa, .int .i64 xt, .int .u64 xv] 60)) from (by
      refine PBox.below (W := W) ⟨v, hb, ?_, rfl⟩ (by repeat (first | (with_reducible exact Below.refl _ _) | (with_reducible apply Below.drew) | (with_reducible refine below_drewN ?_ _) | (with_reducible refine below_alloc' ?_ ?_ _; (focus ((try simp) <;> omega))) | (with_reducible refine below_set' ?_ ?_ _; (focus ((try simp) <;> omega)))))
      rw [hS3]; exact hv))
    clear hS2 hS3 hb hv hg
    simp only [Option.getD_some, Option.isSome_some]
    go_enter Tryz.func58, Tryz.ntmps58
    go_wp2_with fail
    exact bodyPost_end (results_none rfl _ _ _) rfl ⟨rfl, _, HF.out, (Only.refl _ _).alloc _, fun k hk => .inl hk⟩
  | none =>
    have hS3 : readsG [[]] (p ++ [⟨2, xa, xt, xv⟩]) = readsG [[]] p ++ [(xt, xv)] := by rw [hS2, hg]; simp
    have l2 : Below W.heap.size W (W.alloc (.cells #[.int .u8 2, .int .i64 xa, .int .i64 xt, .int .u64 xv] 60)) := by repeat (first | (with_reducible exact Below.refl _ _) | (with_reducible apply Below.drew) | (with_reducible refine below_drewN ?_ _) | (with_reducible refine below_alloc' ?_ ?_ _; (focus ((try simp) <;> omega))) | (with_reducible refine below_set' ?_ ?_ _; (focus ((try simp) <;> omega))))
    have hpb : ¬ b = W.heap.size := by omega
    have hpb1 : ¬ b = W.heap.size + 1 := by omega
    have b0w := blk_cell hb 0
    simp only [List.getElem?_toArray, List.getElem?_cons_zero] at b0w
    have HS := Lib.hid hS3; have HB := Lib.hid hb
    have hv2 := pairs_grow hv l2
    have lA : Below ((W.alloc (.cells #[.int .u8 2, .int .i64 xa, .int .i64 xt, .int .u64 xv] 60))).heap.size (W.alloc (.cells #[.int .u8 2, .int .i64 xa, .int .i64 xt, .int .u64 xv] 60)) (((W.alloc (.cells #[.int .u8 2, .int .i64 xa, .int .i64 xt, .int .u64 xv] 60))).alloc (.cells #[.int .i64 xt, .int .u64 xv] 94)) := by repeat (first | (with_reducible exact Below.refl _ _) | (with_reducible apply Below.drew) | (with_reducible refine below_drewN ?_ _) | (with_reducible refine below_alloc' ?_ ?_ _; (focus ((try simp) <;> omega))) | (with_reducible refine below_set' ?_ ?_ _; (focus ((try simp) <;> omega))))
    have HVA := Lib.hid (pairs_grow hv2 lA)
    have LA := Lib.hid (btrans l2 (Nat.le_refl _) lA)
    have HVl := Lib.hid (show ∀ k, v.ownBlock = some k → b + 1 ≤ k ∧ k < W.heap.size from fun k hk => hv.lt k hk)
    clear hS2 hS3 hb hv hg l2 hv2 lA
    simp only [Option.getD_none, Option.isSome_none]
    go_enter Tryz.func58, Tryz.ntmps58
    go_wp2_with (at_builtin; refine wpList_append_own_at _ rfl _ _ 71 rfl (b + 1) 94 i0 (.agg #[.int .i64 0, .int .u64 0]) 2 16 Tryz.underlying71 hi hz0 hz1 hz2 rfl (by decide) _ _ (pairVals (readsG [[]] p)) rfl HVA.out ⟨W.heap.size + 1, 0, none⟩ 1 1 [.int .i64 xt, .int .u64 xv] rfl rfl ?c1 ?c2 ?c3 ?c4 ?c5 ?_)
    case c1 =>
      intro j v' hv
      rw [Addr.add_lit]
      have := blk_cell (blk_new (W.alloc (.cells #[.int .u8 2, .int .i64 xa, .int .i64 xt, .int .u64 xv] 60)) (.cells #[.int .i64 xt, .int .u64 xv] 94)) j
      rw [show ((W.alloc (.cells #[.int .u8 2, .int .i64 xa, .int .i64 xt, .int .u64 xv] 60))).heap.size = W.heap.size + 1 by simp] at this
      rw [Nat.zero_add, this]
      simpa using hv
    case c2 => simp [Value.oneCell']
    case c3 => unfold maxLen; omega
    case c4 => omega
    case c5 => simp; omega
    intro v' w2 hown hgr _ hat
    obtain ⟨va, vc, rfl⟩ := ownsRow_slice hown
    have o2 : Only (fun k => v.ownBlock = some k) W w2 := (Only.of_below (S := fun k => v.ownBlock = some k) LA.out (fun k hk h => absurd hk (Nat.not_lt.2 h))).trans (Only.of_grown hgr (fun k hk => hk))
    have hb3 := o2.blk HB.out (fun h => by have := HVl.out _ h; omega)
    have b3 := blk_cell hb3 0; have f3 := blk_free hb3 0
    simp only [List.getElem?_toArray, List.getElem?_cons_zero] at b3
    have HB3 := Lib.hid hb3; have HOWN := Lib.hid hown; have O2 := Lib.hid o2; have HAT := Lib.hid hat
    clear hown hgr o2 hb3 hat
    go_wp2_with fail
    refine bodyPost_end (results_none rfl _ _ _) rfl ⟨rfl, _, ⟨_, blk_set HB3.out 0 _, ?_, rfl⟩, ?_, ?_⟩
    · rw [HS.out]
      unfold PairsAt
      rw [pairVals_append, List.length_append]
      exact ownsRow_only HOWN.out ((Only.refl (fun k => k = b) w2).setCell (p := ⟨b, 0, none⟩) (.inr rfl) _) (fun k hk e => by subst e; have := (HOWN.out.lt _ hk).1; omega)
    · exact (O2.out.mono (T := fun k => k = b ∨ v.ownBlock = some k) (fun k _ h => .inr h)).setCell (p := ⟨b, 0, none⟩) (.inr (.inl rfl)) _
    · intro k hk
      rcases HAT.out with h | h
      · exact .inl (by rw [← h]; exact hk)
      · rw [h] at hk
        injection hk with hk
        refine .inr ?_
        rw [← hk]
        omega
theorem readsH_any (w : World) (a : Option Addr) (n c : Nat) (l : List Ev) (h : EvsIn w a n l) (hok : ∀ x ∈ l, 0 ≤ x.v ∧ x.v < 18446744073709551616) (hn : n ≤ 1000000) (t : Int) :
    Calls Tryz.prog 37 #[.slice a n c, .int .i64 t] w (PairsPost w (readsL l t)) := by
  have l1 : Below w.heap.size w (w.alloc (.cells #[.slice none 0 0] 71)) := by repeat (first | (with_reducible exact Below.refl _ _) | (with_reducible apply Below.drew) | (with_reducible refine below_drewN ?_ _) | (with_reducible refine below_alloc' ?_ ?_ _; (focus ((try simp) <;> omega))) | (with_reducible refine below_set' ?_ ?_ _; (focus ((try simp) <;> omega))))
  have hbb : (w.alloc (.cells #[.slice none 0 0] 71)).heap[w.heap.size]? = some (.cells #[.slice none 0 0] 71 (0, 0)) := by simp [↓heap_alloc_eq, ↓heap_set_eq, ↓heap_drew_eq, ↓heap_drewN_eq, setObj, size_drewN]
  have hlt := blk_lt hbb
  have hcl : (cutL l t).length ≤ 1000000 := by
    have := cutL_len l t n
    rw [← h.1, List.take_length] at this
    rw [h.1] at this
    omega
  have hfV : (fun k => (Value.slice none 0 0).ownBlock = some k) = fun _ => False := by
    funext k
    simp [Value.ownBlock]
  have HP := Lib.hid (playV_any _ a n c l (h.below l1) hok hn t 58 #[ptr w.heap.size] (fun k => k = w.heap.size) (fun p V W => PBox w.heap.size p V W)
    { ini := ⟨_, hbb, World.ownsRow_nil _ _ _ _, hfV.symm⟩
      fn := fun args W => by kernel_rfl
      lo := fun k hk => by subst hk; exact hlt
      odd := fun p V W hI => hI.odd
      vty := fun p V W hI k hk => by
        obtain ⟨v, _, hv, rfl⟩ := hI
        exact row_obj hv hk
      vnew := fun p V W hI k hk => by
        obtain ⟨v, _, hv, rfl⟩ := hI
        have := (World.ownsRow.lt hv k hk).1
        rw [World.size_alloc]
        omega
      below := fun p V W W' hI l => hI.below l
      turn := fun p V W W' q hI o hq _ => hI.turn o hq
      skip := fun p V x W hI hk => by
        obtain ⟨v, h1, h2, h3⟩ := hI
        refine ⟨v, h1, ?_, h3⟩
        rw [readsG_snoc, show (x.k == 2) = false by simpa using hk]
        simpa using h2
      call := fun p V x W hI hk hL _ => readsV_any w.heap.size p V x W hI hk (by
        obtain ⟨r, hL⟩ := hL
        have := congrArg List.length hL
        rw [List.length_append] at this
        omega) })
  have L1 := Lib.hid l1
  have hmf : ∀ (fn : Fn) (first cap : Array Value) (w : World), (Instr.makeFunc fn first cap).run Tryz.prog w = .ok (.func fn first cap) w := fun _ _ _ _ => rfl
  clear h hok l1 hbb hlt hfV
  unfold PairsPost readsL
  go_enter Tryz.func37, Tryz.ntmps37
  go_wp2_with fail
  refine HP.out.mono ?_
  rintro e w1 ⟨q, rfl, _, ⟨V, v, hb, hv, _⟩, o1⟩
  have b0 := blk_cell hb 0
  simp only [List.getElem?_toArray, List.getElem?_cons_zero] at b0
  have HF := Lib.hid (show Below w.heap.size w w1 from L1.out.trans (o1.lo (fun k e => by omega) L1.out.size))
  have HV := Lib.hid (show PairsAt w.heap.size w1 v (readsG [[]] (cutL l t)) from ownsRow_base hv (fun k hk => by have := (World.ownsRow.lt hv k hk).1; omega))
  clear hb o1 hv
  go_wp2_with fail
  go_ret
  exact ⟨v, rfl, HV.out, HF.out⟩
end Go.Proofs.YtganmdbhmihjpaaGreat.His
/- Go's own: insertion sort of a few ints. -/
namespace Go.Proofs.YtganmdbhmihjpaaGreat.Tgu
open Go.RowKit
set_option linter.unusedSimpArgs false
set_option linter.unusedVariables false
set_option maxRecDepth 50000

def Sorted' (c : List Int) (m : Nat) : Prop := ∀ p q, p < q → q < m → c.getD p 0 ≤ c.getD q 0
def SortedBut (c : List Int) (m j : Nat) : Prop := ∀ p q, p < q → q < m → q ≠ j → c.getD p 0 ≤ c.getD q 0
theorem getD_set (c : List Int) (i p : Nat) (v : Int) (hi : i < c.length) : (c.set i v).getD p 0 = if p = i then v else c.getD p 0 := by
  rw [List.getD_eq_getElem?_getD, List.getElem?_set, List.getD_eq_getElem?_getD]
  by_cases h : p = i
  · subst h
    simp [hi]
  · have : ¬ i = p := fun e => h e.symm
    simp [h, this]
def swapL (c : List Int) (j : Nat) : List Int := (c.set j (c.getD (j - 1) 0)).set (j - 1) (c.getD j 0)
theorem swapL_get (c : List Int) (j p : Nat) (h0 : 0 < j) (hl : j < c.length) : (swapL c j).getD p 0 = if p = j - 1 then c.getD j 0 else if p = j then c.getD (j - 1) 0 else c.getD p 0 := by
  unfold swapL
  rw [getD_set _ _ _ _ (by rw [List.length_set]; omega), getD_set _ _ _ _ hl]
theorem swapL_len (c : List Int) (j : Nat) : (swapL c j).length = c.length := by simp [swapL]
theorem but_swap {c : List Int} {m j : Nat} (h0 : 0 < j) (hl : j < c.length) (h : SortedBut c m j) (hlt : c.getD j 0 < c.getD (j - 1) 0) : SortedBut (swapL c j) m (j - 1) := by
  intro p q hpq hqm hq
  rw [swapL_get c j p h0 hl, swapL_get c j q h0 hl]
  by_cases hqj : q = j
  · subst hqj
    rw [if_neg hq, if_pos rfl]
    by_cases hp : p = q - 1
    · rw [if_pos hp]; omega
    · rw [if_neg hp, if_neg (by omega)]
      exact h p (q - 1) (by omega) (by omega) (by omega)
  · rw [if_neg hq, if_neg hqj]
    by_cases hp : p = j - 1
    · rw [if_pos hp]
      exact h j q (by omega) hqm hqj
    · rw [if_neg hp]
      by_cases hpj : p = j
      · rw [if_pos hpj]
        exact h (j - 1) q (by omega) hqm hqj
      · rw [if_neg hpj]
        exact h p q hpq hqm hqj
theorem but_zero {c : List Int} {m : Nat} (h : SortedBut c m 0) : Sorted' c m := fun p q hpq hq => h p q hpq hq (by omega)
theorem but_end {c : List Int} {m j : Nat} (h0 : 0 < j) (h : SortedBut c m j) (hge : ¬ c.getD j 0 < c.getD (j - 1) 0) : Sorted' c m := by
  intro p q hpq hq
  by_cases hqj : q = j
  · subst hqj
    by_cases hp : p = q - 1
    · rw [hp]; omega
    · have := h p (q - 1) (by omega) (by omega) (by omega)
      omega
  · exact h p q hpq hq hqj
theorem sorted_next {c : List Int} {i : Nat} (h : Sorted' c i) : SortedBut c (i + 1) i := fun p q hpq hq hne => h p q hpq (by omega)
theorem getD_mem {c : List Int} {i : Nat} (h : i < c.length) : c.getD i 0 ∈ c := by
  rw [List.getD_eq_getElem?_getD, List.getElem?_eq_getElem h]
  exact List.getElem_mem _
theorem swapL_mem {c ts : List Int} {j : Nat} (h0 : 0 < j) (hl : j < c.length) (h : ∀ x ∈ c, x ∈ ts) : ∀ x ∈ swapL c j, x ∈ ts := by
  intro x hx
  unfold swapL at hx
  rcases List.mem_or_eq_of_mem_set hx with hx | rfl
  · rcases List.mem_or_eq_of_mem_set hx with hx | rfl
    · exact h x hx
    · exact h _ (getD_mem (by omega))
  · exact h _ (getD_mem hl)
abbrev RowI (w : World) (g n cap : Nat) (ts : List Int) : Prop := w.ownsRow 0 3 1 (.slice (some ⟨g, 0, none⟩) n cap) n (ts.map fun t => .int .i64 t)
theorem RowI.len {w : World} {g n cap : Nat} {ts : List Int} (h : RowI w g n cap ts) : ts.length = n := by have := h.1; simpa using this
theorem RowI.cell {w : World} {g n cap : Nat} {ts : List Int} (h : RowI w g n cap ts) {i : Nat} (hi : i < n) : w.cell? ⟨g, i, none⟩ = some (.int .i64 (ts.getD i 0)) := by
  have hl := h.len
  refine row_cell1 (v := .nilFunc) h ?_
  rw [List.getElem?_map, List.getElem?_eq_getElem (by omega), List.getD_eq_getElem?_getD, List.getElem?_eq_getElem (by omega)]
  rfl
theorem RowI.free {w : World} {g n cap : Nat} {ts : List Int} (h : RowI w g n cap ts) (i : Nat) : w.frozen? ⟨g, i, none⟩ = false := by
  obtain ⟨cs, hg⟩ := row_obj h (k := g) rfl
  exact blk_free hg i
theorem RowI.below {w w' : World} {g n cap : Nat} {ts : List Int} (h : RowI w g n cap ts) (l : Below w.heap.size w w') : RowI w' g n cap ts := ownsRow_only h (Only.empty l (Nat.le_refl _)) (fun _ _ h => h)
theorem RowI.set {w : World} {g n cap : Nat} {ts : List Int} (h : RowI w g n cap ts) {i : Nat} (hi : i < n) (t : Int) : RowI (w.setCell ⟨g, i, none⟩ (.int .i64 t)) g n cap (ts.set i t) := by
  have := row_set h (k := i) (by omega) (u := .int .i64 t)
  unfold RowI
  rw [List.map_set]
  exact this
theorem RowI.drew {w : World} {g n cap : Nat} {ts : List Int} (h : RowI w g n cap ts) : RowI w.drew g n cap ts := h.below (Below.refl w.heap.size w).drew
theorem less_any (w : World) (x y : Int) (r : Bool) (hr : decide (x < y) = r) : Calls Tryz.prog 115 #[.int .i64 x, .int .i64 y] w fun e w' => e = .returned (.bool r) ∧ w = w' := by
  have h1 : (x != x) = false := by simp
  go_enter Tryz.func115, Tryz.ntmps115
  go_wp2
  go_ret
  exact ⟨rfl, rfl⟩
def InsPost (w : World) (g n cap : Nat) (ts : List Int) (e : Ending) (w' : World) : Prop :=
  e = .returned (.tuple #[]) ∧ (∃ c, RowI w' g n cap c ∧ Sorted' c n ∧ ∀ x ∈ c, x ∈ ts) ∧ Only (fun k => k = g) w w'
set_option maxHeartbeats 6400000 in
theorem ins_any (w : World) (g n cap : Nat) (ts : List Int) (h : RowI w g n cap ts) (hn : n ≤ 1000) : Calls Tryz.prog 109 #[.slice (some ⟨g, 0, none⟩) n cap, .int .i64 0, .int .i64 n] w (InsPost w g n cap ts) := by
  have H := Lib.hid h
  clear h
  unfold InsPost
  go_enter Tryz.func109, Tryz.ntmps109
  go_wp2_with fail
  go_loopw [6] (fun i wr => ∃ (k : Nat) (c : List Int), i = .int .i64 k ∧ 1 ≤ k ∧ k ≤ n + 1 ∧ RowI wr g n cap c ∧ Sorted' c k ∧ (∀ x ∈ c, x ∈ ts) ∧ Only (fun k => k = g) w wr) (fun i _ => n + 1 - (intOf i).toNat)
  case atStart => exact ⟨1, ts, rfl, Nat.le_refl _, by omega, H.out, fun p q hpq hq => by omega, fun x hx => hx, Only.refl _ _⟩
  case round =>
    obtain ⟨k, c, rfl, hk1, hk, hR, hSd, hM, hO⟩ := hrel
    have HR := Lib.hid hR; have HSd := Lib.hid hSd; have HM := Lib.hid hM; have HO := Lib.hid hO
    clear hR hSd hM hO
    by_cases hlt : k < n
    · have hlt' : (k : Int) < n := by omega
      have hw1 : IntKind.i64.wrap ((k : Int) + 1) = (k : Int) + 1 := by rw [IntKind.wrap_i64]; omega
      go_wp2_with fail
      obtain ⟨wo, rfl⟩ : ∃ wo, wo = wr := ⟨wr, rfl⟩
      go_loopw [7] (fun j wq => ∃ (q : Nat) (d : List Int), j = .int .i64 q ∧ q ≤ k ∧ RowI wq g n cap d ∧ SortedBut d (k + 1) q ∧ (∀ x ∈ d, x ∈ ts) ∧ Only (fun k => k = g) w wq) (fun j _ => (intOf j).toNat)
      case atStart => exact ⟨k, c, rfl, Nat.le_refl _, HR.out, sorted_next HSd.out, HM.out, HO.out⟩
      case round =>
        obtain ⟨q, d, rfl, hq, hRd, hSB, hMd, hOd⟩ := hrel
        have HRd := Lib.hid hRd; have HSB := Lib.hid hSB; have HMd := Lib.hid hMd; have HOd := Lib.hid hOd
        clear hRd hSB hMd hOd
        by_cases hq0 : q = 0
        · subst hq0
          have HS2 := Lib.hid (but_zero HSB.out)
          go_wp2_with fail
          refine wp_region_tail 14 (by kernel_rfl) (by kernel_rfl) ?_; simp only [List.take_succ_cons, List.take_zero, List.drop_succ_cons, List.drop_zero]
          (repeat (first | (with_reducible refine wpStill_skip ?_ ?_; (focus (first | (simp [Region.wanted, yielded]; done) | (rfl) | (simp [Region.wanted, yielded, undef]; done))); simp only [Act.put, List.setIfInBounds_toArray, List.set_cons_succ, List.set_cons_zero]) | (with_reducible refine wpStill_step (fun KK hKK => ?_); go_simp; refine hKK _ ?_; clear hKK KK)))
          with_reducible refine wpStill_nil ?_
          go_wp2_with fail
          exact ⟨⟨k + 1, d, by go_num, by omega, by omega, HRd.out.drew, HS2.out, HMd.out, HOd.out.drew⟩, by simp [intOf]; omega⟩
        · obtain ⟨r, hr⟩ : ∃ r, q = r + 1 := ⟨q - 1, by omega⟩
          have hqn : q < n := by omega
          have hrn : r < n := by omega
          have e0 := HRd.out.cell hqn
          have e1 := HRd.out.cell hrn
          have f0 := HRd.out.free q; have f1 := HRd.out.free r
          have hwq : IntKind.i64.wrap ((q : Int) - 1) = (r : Int) := by rw [IntKind.wrap_i64]; omega
          have hd0 : decide ((0 : Int) < q) = true := by simp; omega
          have hd0n : decide (0 < q) = true := by simp; omega
          have hq0n : 0 < q := by omega
          have hq0i : (0 : Int) < q := by omega
          have hqn' : (q : Int) < n := by omega
          have hrn' : (r : Int) < n := by omega
          have hr1 : q - 1 = r := by omega
          have hdl : q < d.length := by rw [HRd.out.len]; exact hqn
          obtain ⟨x, hx⟩ : ∃ x, d.getD q 0 = x := ⟨_, rfl⟩
          obtain ⟨y, hy⟩ : ∃ y, d.getD r 0 = y := ⟨_, rfl⟩
          rw [hx] at e0; rw [hy] at e1
          have HXY := Lib.hid (And.intro hx hy)
          have HQR := Lib.hid hr1
          have hS0 : wr.drew.cell? ⟨g, q, none⟩ = some (.int .i64 x) ∧ wr.drew.cell? ⟨g, r, none⟩ = some (.int .i64 y) := ⟨e0, e1⟩
          clear hx hy hr1 hr
          cases hlx : decide (x < y)
          · have HEND := Lib.hid (show Sorted' d (k + 1) from but_end (by omega) HSB.out (by rw [HQR.out, HXY.out.1, HXY.out.2]; simpa using hlx))
            have HLX := Lib.hid hlx
            clear hlx
            go_wp2_with fail
            go_region_held3 (fun w' => w'.cell? ⟨g, q, none⟩ = some (.int .i64 x) ∧ w'.cell? ⟨g, r, none⟩ = some (.int .i64 y)) (with_reducible exact hS0) ((go_at_call 115; (with_reducible refine Calls.mono (less_any _ x y _ HLX.out) ?_); rintro e w0 ⟨rfl, rfl⟩))
            go_wp2_with fail
            exact ⟨⟨k + 1, d, by go_num, by omega, by omega, HRd.out.drew, HEND.out, HMd.out, HOd.out.drew⟩, by simp [intOf]; omega⟩
          · have HSW := Lib.hid (show SortedBut (swapL d q) (k + 1) r from by
              have := but_swap (by omega) hdl HSB.out (by rw [HQR.out, HXY.out.1, HXY.out.2]; simpa using hlx)
              rwa [HQR.out] at this)
            have HMS := Lib.hid (swapL_mem (by omega) hdl HMd.out)
            have HLX := Lib.hid hlx
            clear hlx
            go_wp2_with fail
            go_region_held3 (fun w' => w'.cell? ⟨g, q, none⟩ = some (.int .i64 x) ∧ w'.cell? ⟨g, r, none⟩ = some (.int .i64 y)) (with_reducible exact hS0) ((go_at_call 115; (with_reducible refine Calls.mono (less_any _ x y _ HLX.out) ?_); rintro e w0 ⟨rfl, rfl⟩))
            go_wp2_with fail
            clear hS0
            have hset := HRd.out.set hqn y
            have e2 : (wr.setCell ⟨g, q, none⟩ (.int .i64 y)).cell? ⟨g, r, none⟩ = some (.int .i64 y) := by
              have h2 := hset.cell hrn
              have hrq : ¬ r = q := by have := HQR.out; omega
              rw [getD_set _ _ _ _ hdl, if_neg hrq, HXY.out.2] at h2
              exact h2
            have f2 := hset.free r
            have HROW := Lib.hid (show RowI ((wr.setCell ⟨g, q, none⟩ (.int .i64 y)).setCell ⟨g, r, none⟩ (.int .i64 x)).drew.drew g n cap (swapL d q) from by
              have h3 := (hset.set hrn x).drew.drew
              unfold swapL
              rw [HQR.out, HXY.out.1, HXY.out.2]
              exact h3)
            have HOD := Lib.hid (show Only (fun k => k = g) w ((wr.setCell ⟨g, q, none⟩ (.int .i64 y)).setCell ⟨g, r, none⟩ (.int .i64 x)).drew.drew from ((HOd.out.setCell (p := ⟨g, q, none⟩) (.inr rfl) _).setCell (p := ⟨g, r, none⟩) (.inr rfl) _).drew.drew)
            clear hset
            have hrq2 : r + 1 = q := by
              have := HQR.out
              omega
            have HRQ2 := Lib.hid hrq2
            clear hrq2
            go_region_law (fail)
            all_goals go_wp2_with fail
            all_goals have hrq3 := HRQ2.out
            all_goals exact ⟨⟨r, swapL d q, rfl, by omega, HROW.out, HSW.out, HMS.out, HOD.out⟩, by simp [intOf]; omega⟩
    · have HS2 := Lib.hid (show Sorted' c n from fun p q hpq hq => HSd.out p q hpq (by omega))
      go_wp2_with fail
      exact bodyPost_end (results_none rfl _ _ _) rfl ⟨rfl, ⟨c, HR.out, HS2.out, HM.out⟩, HO.out⟩
/-! ### the length of a number, pdqsort, Sort -/
theorem bLen64_any (w : World) (n : Nat) (hn : n ≤ 8) : Calls Tryz.prog 119 #[.int .u64 n] w fun e w' => (∃ z : Int, e = .returned (.int .i64 z)) ∧ w = w' := by
  have : n = 0 ∨ n = 1 ∨ n = 2 ∨ n = 3 ∨ n = 4 ∨ n = 5 ∨ n = 6 ∨ n = 7 ∨ n = 8 := by omega
  rcases this with rfl | rfl | rfl | rfl | rfl | rfl | rfl | rfl | rfl
  all_goals
    go_enter Tryz.func119, Tryz.ntmps119
    go_wp2
    go_ret
    exact ⟨⟨_, rfl⟩, rfl⟩
theorem bLen_any (w : World) (n : Nat) (hn : n ≤ 8) : Calls Tryz.prog 102 #[.int .u64 n] w fun e w' => (∃ z : Int, e = .returned (.int .i64 z)) ∧ w = w' := by
  have HL := Lib.hid (bLen64_any w n hn)
  go_enter Tryz.func102, Tryz.ntmps102
  go_wp2_with fail
  refine HL.out.mono ?_
  rintro e w1 ⟨⟨z, rfl⟩, rfl⟩
  go_wp2_with fail
  go_ret
  exact ⟨⟨z, rfl⟩, rfl⟩
set_option maxHeartbeats 1600000 in
theorem pdq_any (w : World) (g n cap : Nat) (ts : List Int) (h : RowI w g n cap ts) (hn : n ≤ 8) (z : Int) : Calls Tryz.prog 101 #[.slice (some ⟨g, 0, none⟩) n cap, .int .i64 0, .int .i64 n, .int .i64 z] w (InsPost w g n cap ts) := by
  have HI := Lib.hid (ins_any w g n cap ts h (by omega))
  have hn12 : (n : Int) ≤ 12 := by omega
  have hn12n : n ≤ 12 := by omega
  clear h
  unfold InsPost at HI ⊢
  go_enter Tryz.func101, Tryz.ntmps101
  go_wp2_with fail
  go_loopw [1, 2] (fun a b wr => a = .int .i64 0 ∧ b = .int .i64 n ∧ wr = w) (fun _ _ _ => 0)
  case atStart => exact ⟨rfl, rfl, rfl⟩
  case round =>
    obtain ⟨rfl, rfl, rfl⟩ := hrel
    go_wp2_with fail
    refine HI.out.mono ?_
    rintro e w1 ⟨rfl, h1⟩
    have H1 := Lib.hid h1
    clear h1
    go_wp2_with fail
    exact bodyPost_ret (results_none rfl _ _ _) rfl ⟨rfl, H1.out⟩
def SortPost (w : World) (v : Value) (n : Nat) (ts : List Int) (e : Ending) (w' : World) : Prop :=
  e = .returned (.tuple #[]) ∧ (∃ c, w'.ownsRow 0 3 1 v n (c.map fun t => .int .i64 t) ∧ Sorted' c n ∧ ∀ x ∈ c, x ∈ ts) ∧ Only (fun k => v.ownBlock = some k) w w'
theorem sortPost_nil (w : World) : SortPost w (.slice none 0 0) 0 [] (.returned (.tuple #[])) w :=
  ⟨rfl, ⟨[], World.ownsRow_nil _ _ _ _, fun p q hpq hq => by omega, fun x hx => hx⟩, Only.refl _ _⟩
set_option maxHeartbeats 1600000 in
theorem ins_nil (w : World) : Calls Tryz.prog 109 #[.slice none 0 0, .int .i64 0, .int .i64 0] w fun e w' => e = .returned (.tuple #[]) ∧ w = w' := by
  go_enter Tryz.func109, Tryz.ntmps109
  go_wp2_with fail
  go_loopw [6] (fun i wr => i = .int .i64 1 ∧ wr = w) (fun _ _ => 0)
  case atStart => exact ⟨rfl, rfl⟩
  case round =>
    obtain ⟨rfl, rfl⟩ := hrel
    go_wp2_with fail
    exact bodyPost_end (results_none rfl _ _ _) rfl ⟨rfl, rfl⟩
set_option maxHeartbeats 1600000 in
theorem pdq_nil (w : World) (z : Int) : Calls Tryz.prog 101 #[.slice none 0 0, .int .i64 0, .int .i64 0, .int .i64 z] w fun e w' => e = .returned (.tuple #[]) ∧ w = w' := by
  have HI := Lib.hid (ins_nil w)
  go_enter Tryz.func101, Tryz.ntmps101
  go_wp2_with fail
  go_loopw [1, 2] (fun a b wr => a = .int .i64 0 ∧ b = .int .i64 0 ∧ wr = w) (fun _ _ _ => 0)
  case atStart => exact ⟨rfl, rfl, rfl⟩
  case round =>
    obtain ⟨rfl, rfl, rfl⟩ := hrel
    go_wp2_with fail
    refine HI.out.mono ?_
    rintro e w1 ⟨rfl, rfl⟩
    go_wp2_with fail
    exact bodyPost_ret (results_none rfl _ _ _) rfl ⟨rfl, rfl⟩
theorem sort_any (w : World) (v : Value) (n : Nat) (ts : List Int) (h : w.ownsRow 0 3 1 v n (ts.map fun t => .int .i64 t)) (hn : n ≤ 8) : Calls Tryz.prog 86 #[v] w (SortPost w v n ts) := by
  rcases h.2 with ⟨rfl, rfl⟩ | ⟨g, cap, cur, rfl, _⟩
  · obtain rfl : ts = [] := by have := h.1; simpa using this
    have HF := Lib.hid (sortPost_nil w)
    have HL := Lib.hid (bLen_any w 0 (by decide))
    have HP := Lib.hid (pdq_nil w)
    clear h
    go_enter Tryz.func86, Tryz.ntmps86
    go_wp2_with fail
    refine HL.out.mono ?_
    rintro e w1 ⟨⟨z, rfl⟩, rfl⟩
    go_wp2_with fail
    refine (HP.out z).mono ?_
    rintro e w1 ⟨rfl, rfl⟩
    go_wp2_with fail
    exact bodyPost_end (results_none rfl _ _ _) rfl HF.out
  · have HL := Lib.hid (bLen_any w n hn)
    have HP := Lib.hid (fun z => pdq_any w g n cap ts h hn z)
    have hw1 : IntKind.u64.wrap (n : Int) = n := by rw [IntKind.wrap_u64]; omega
    clear h
    go_enter Tryz.func86, Tryz.ntmps86
    go_wp2_with fail
    refine HL.out.mono ?_
    rintro e w1 ⟨⟨z, rfl⟩, rfl⟩
    go_wp2_with fail
    refine (HP.out z).mono ?_
    rintro e w1 ⟨rfl, ⟨c, h1, h2, h3⟩, h4⟩
    have HF := Lib.hid (show SortPost w (.slice (some ⟨g, 0, none⟩) n cap) n ts (.returned (.tuple #[])) w1 from ⟨rfl, ⟨c, h1, h2, h3⟩, h4.mono fun k _ e => by subst e; rfl⟩)
    clear h1 h2 h3 h4
    go_wp2_with fail
    exact bodyPost_end (results_none rfl _ _ _) rfl HF.out
end Go.Proofs.YtganmdbhmihjpaaGreat.Tgu
/- Go's own: Compact of a few ints that rise. -/
namespace Go.Proofs.YtganmdbhmihjpaaGreat.Tgu
open Go.RowKit
set_option linter.unusedSimpArgs false
set_option linter.unusedVariables false
set_option maxRecDepth 50000

def Strict (c : List Int) (m : Nat) : Prop := ∀ p q, p < q → q < m → c.getD p 0 < c.getD q 0
theorem zeroI (w : World) : (zeroValue 3).run Tryz.prog w = .ok (.int .i64 0) w := by kernel_rfl
theorem strict_one (c : List Int) : Strict c 1 := fun p q hpq hq => by omega
theorem strict_snoc {c : List Int} {k : Nat} (h0 : 0 < k) (h : Strict c k) (hlt : c.getD (k - 1) 0 < c.getD k 0) : Strict c (k + 1) := by
  intro p q hpq hq
  by_cases hqk : q = k
  · subst hqk
    by_cases hp : p = q - 1
    · rw [hp]; exact hlt
    · have := h p (q - 1) (by omega) (by omega)
      omega
  · exact h p q hpq (by omega)
theorem strict_set {c : List Int} {k : Nat} {v : Int} (hk : k < c.length) (h0 : 0 < k) (h : Strict c k) (hlt : c.getD (k - 1) 0 < v) : Strict (c.set k v) (k + 1) := by
  refine strict_snoc h0 (fun p q hpq hq => ?_) ?_
  · rw [getD_set _ _ _ _ hk, getD_set _ _ _ _ hk, if_neg (by omega), if_neg (by omega)]
    exact h p q hpq hq
  · rw [getD_set _ _ _ _ hk, getD_set _ _ _ _ hk, if_neg (by omega), if_pos rfl]
    exact hlt
theorem strict_take {c : List Int} {k : Nat} (hk : k ≤ c.length) (h : Strict c k) : Strict (c.take k) (c.take k).length := by
  have hl : (c.take k).length = k := by rw [List.length_take]; omega
  intro p q hpq hq
  rw [hl] at hq
  have hg : ∀ i, i < k → (c.take k).getD i 0 = c.getD i 0 := fun i hi => by
    rw [List.getD_eq_getElem?_getD, List.getElem?_take, if_pos hi, List.getD_eq_getElem?_getD]
  rw [hg p (by omega), hg q hq]
  exact h p q hpq hq
def CmpPost (w : World) (g cap : Nat) (ts : List Int) (e : Ending) (w' : World) : Prop :=
  ∃ c, e = .returned (.slice (some ⟨g, 0, none⟩) c.length cap) ∧ RowI w' g c.length cap c ∧ Strict c c.length ∧ (∀ x ∈ c, x ∈ ts) ∧ Only (fun k => k = g) w w'
set_option maxHeartbeats 6400000 in
theorem cmp_any (w : World) (g n cap : Nat) (c ts : List Int) (h : RowI w g n cap c) (hs : Sorted' c n) (hm : ∀ x ∈ c, x ∈ ts) (hn : n ≤ 1000) : Calls Tryz.prog 71 #[.slice (some ⟨g, 0, none⟩) n cap] w (CmpPost w g cap ts) := by
  have hl := h.len
  have hcap : n ≤ cap := by
    rcases h.2 with ⟨h0, _⟩ | ⟨_, _, _, h0, _, _, hc, _⟩
    · cases h0
    · injection h0 with _ _ h2; omega
  have H := Lib.hid h; have HS := Lib.hid hs; have HM := Lib.hid hm
  have HL := Lib.hid hl
  clear h hs hm
  unfold CmpPost
  by_cases h2 : n < 2
  · have h2' : (n : Int) < 2 := by omega
    go_enter Tryz.func71, Tryz.ntmps71
    go_wp2_with fail
    go_ret
    exact ⟨c, by rw [HL.out]; rfl, by rw [HL.out]; exact H.out, fun p q hpq hq => by have := HL.out; omega, HM.out, Only.refl _ _⟩
  have h2' : ¬ (n : Int) < 2 := by omega
  go_enter Tryz.func71, Tryz.ntmps71
  go_wp2_with fail
  go_loopw [3] (fun i wr => ∃ k : Nat, i = .int .i64 k ∧ 1 ≤ k ∧ k ≤ n ∧ Strict c k ∧ RowI wr g n cap c ∧ Only (fun k => k = g) w wr) (fun i _ => n - (intOf i).toNat)
  case atStart => exact ⟨1, rfl, Nat.le_refl _, by omega, strict_one c, H.out, Only.refl _ _⟩
  case round =>
    obtain ⟨k, rfl, hk1, hk, hSt, hR, hO⟩ := hrel
    have HST := Lib.hid hSt; have HR := Lib.hid hR; have HO := Lib.hid hO
    clear hSt hR hO
    by_cases hlt : k < n
    · obtain ⟨r, hr⟩ : ∃ r, k = r + 1 := ⟨k - 1, by omega⟩
      have hrn : r < n := by omega
      have e0 := HR.out.cell hlt
      have e1 := HR.out.cell hrn
      have hwq : IntKind.i64.wrap ((k : Int) - 1) = (r : Int) := by rw [IntKind.wrap_i64]; omega
      have hw1 : IntKind.i64.wrap ((k : Int) + 1) = (k : Int) + 1 := by rw [IntKind.wrap_i64]; omega
      have hlt' : (k : Int) < n := by omega
      have hrn' : (r : Int) < n := by omega
      have hcs := HS.out r k (by omega) hlt
      obtain ⟨x, hx⟩ : ∃ x, c.getD k 0 = x := ⟨_, rfl⟩
      obtain ⟨y, hy⟩ : ∃ y, c.getD r 0 = y := ⟨_, rfl⟩
      rw [hx] at e0 hcs; rw [hy] at e1 hcs
      have HXY := Lib.hid (And.intro hx hy)
      have HRK := Lib.hid hr
      clear hx hy hr
      cases hxy : (x == y)
      · have HS2 := Lib.hid (show Strict c (k + 1) from strict_snoc (by omega) HST.out (by
          rw [show k - 1 = r by have := HRK.out; omega, HXY.out.1, HXY.out.2]
          have : ¬ x = y := by simpa using hxy
          omega))
        go_wp2_with fail
        go_quiet (fail)
        go_wp2_with fail
        exact ⟨⟨k + 1, by go_num, by omega, by omega, HS2.out, HR.out.below (below_drewN (Below.refl _ _) _), HO.out.drewN _⟩, by simp [intOf]; omega⟩
      · have hxe : x = y := by simpa using hxy
        subst hxe
        have hkc : (k : Int) ≤ cap := by omega
        have hkn : (k : Int) ≤ n := by omega
        go_wp2_with fail
        go_quiet (fail)
        go_wp2_with fail
        obtain ⟨K, hK⟩ : ∃ K, K = k := ⟨k, rfl⟩
        obtain ⟨wo, rfl⟩ : ∃ wo, wo = wr := ⟨wr, rfl⟩
        have HKR := Lib.hid (show c.getD (K - 1) 0 = c.getD K 0 from by
          rw [show K - 1 = r by have := HRK.out; omega, hK, HXY.out.1, HXY.out.2])
        rw [← hK] at HST hkc hkn hlt hk1 hlt' ⊢
        clear hK e0 e1 hwq hw1 hrn' hcs HRK HXY hk
        go_loopw [3, 5] (fun s3 s5 wr => ∃ (i q : Nat) (d : List Int), s3 = .int .i64 i ∧ s5 = .int .i64 q ∧ 1 ≤ q ∧ q ≤ n - K ∧ K ≤ i ∧ i + 1 ≤ K + q ∧ Strict d i ∧ d.getD (i - 1) 0 = c.getD (K + q - 1) 0 ∧ (∀ p, K + q - 1 ≤ p → d.getD p 0 = c.getD p 0) ∧ (∀ x ∈ d, x ∈ ts) ∧ RowI wr g n cap d ∧ Only (fun k => k = g) w wr) (fun _ q _ => n - (intOf q).toNat)
        case atStart => exact ⟨K, 1, c, rfl, rfl, Nat.le_refl _, by omega, Nat.le_refl _, Nat.le_refl _, HST.out, HKR.out, fun p _ => rfl, HM.out, HR.out.below (below_drewN (Below.refl _ _) _), HO.out.drewN _⟩
        case round =>
          obtain ⟨i, q, d, rfl, rfl, hq1, hq, hKi, hiq, hSd, hdl, hdp, hMd, hRd, hOd⟩ := hrel
          have HSd := Lib.hid hSd; have HDL := Lib.hid hdl; have HDP := Lib.hid hdp; have HMd := Lib.hid hMd; have HRd := Lib.hid hRd; have HOd := Lib.hid hOd
          clear hSd hdl hdp hMd hRd hOd
          by_cases hqn : q < n - K
          · obtain ⟨r2, hr2⟩ : ∃ r2, q = r2 + 1 := ⟨q - 1, by omega⟩
            have hm : K + q < n := by omega
            have hin : i < n := by omega
            have e0 := HRd.out.cell hm
            have e1 := HRd.out.cell (show K + r2 < n by omega)
            have ei := HRd.out.cell hin
            have fi := HRd.out.free i
            rw [HDP.out (K + q) (by omega)] at e0
            rw [HDP.out (K + r2) (by omega)] at e1
            have hcs := HS.out (K + r2) (K + q) (by omega) hm
            have hwq : IntKind.i64.wrap ((q : Int) - 1) = (r2 : Int) := by rw [IntKind.wrap_i64]; omega
            have hw1 : IntKind.i64.wrap ((q : Int) + 1) = (q : Int) + 1 := by rw [IntKind.wrap_i64]; omega
            have hwi : IntKind.i64.wrap ((i : Int) + 1) = (i : Int) + 1 := by rw [IntKind.wrap_i64]; omega
            have hqn' : (q : Int) < ((n - K : Nat) : Int) := by omega
            have hr2n' : (r2 : Int) < ((n - K : Nat) : Int) := by omega
            have hr2n : r2 < n - K := by omega
            have hin' : (i : Int) < n := by omega
            obtain ⟨x2, hx⟩ : ∃ x2, c.getD (K + q) 0 = x2 := ⟨_, rfl⟩
            obtain ⟨y2, hy⟩ : ∃ y2, c.getD (K + r2) 0 = y2 := ⟨_, rfl⟩
            obtain ⟨z2, hz⟩ : ∃ z2, d.getD i 0 = z2 := ⟨_, rfl⟩
            rw [hx] at e0 hcs; rw [hy] at e1 hcs; rw [hz] at ei
            have HXY := Lib.hid (And.intro hx hy)
            have HR2 := Lib.hid hr2
            have hKr : K + q - 1 = K + r2 := by omega
            have hdl2 := HDL.out
            rw [hKr, hy] at hdl2
            have HDL2 := Lib.hid hdl2
            clear hx hy hz hr2 hKr hdl2
            cases hxy : (x2 == y2)
            · have hne : (x2 != y2) = true := by simp only [bne, hxy]; rfl
              have hdlen : i < d.length := by rw [HRd.out.len]; exact hin
              have HSN := Lib.hid (show Strict (d.set i x2) (i + 1) from strict_set hdlen (by omega) HSd.out (by
                rw [HDL2.out]
                have : ¬ x2 = y2 := by simpa using hxy
                omega))
              have HDN := Lib.hid (show (d.set i x2).getD (i + 1 - 1) 0 = c.getD (K + (q + 1) - 1) 0 from by
                rw [show i + 1 - 1 = i by omega, getD_set _ _ _ _ hdlen, if_pos rfl, show K + (q + 1) - 1 = K + q by omega, HXY.out.1])
              have HPN := Lib.hid (show ∀ p, K + (q + 1) - 1 ≤ p → (d.set i x2).getD p 0 = c.getD p 0 from fun p hp => by
                rw [getD_set _ _ _ _ hdlen, if_neg (by omega)]
                exact HDP.out p (by omega))
              have HMN := Lib.hid (show ∀ x ∈ d.set i x2, x ∈ ts from fun x hx => by
                rcases List.mem_or_eq_of_mem_set hx with hx | rfl
                · exact HMd.out x hx
                · have := HM.out _ (getD_mem (c := c) (i := K + q) (by rw [HL.out]; exact hm))
                  rwa [HXY.out.1] at this)
              go_wp2_with fail
              go_quiet (fail)
              go_wp2_with fail
              exact ⟨⟨i + 1, q + 1, d.set i x2, by go_num, by go_num, by omega, by omega, by omega, by omega, HSN.out, HDN.out, HPN.out, HMN.out, (HRd.out.below (below_drewN (Below.refl _ _) _)).set hin x2, (HOd.out.drewN _).setCell (p := ⟨g, i, none⟩) (.inr rfl) _⟩, by simp [intOf]; omega⟩
            · have hne : (x2 != y2) = false := by simp only [bne, hxy]; rfl
              have HDN := Lib.hid (show d.getD (i - 1) 0 = c.getD (K + (q + 1) - 1) 0 from by
                rw [HDL2.out, show K + (q + 1) - 1 = K + q by omega, HXY.out.1]
                have : x2 = y2 := by simpa using hxy
                exact this.symm)
              have HPN := Lib.hid (show ∀ p, K + (q + 1) - 1 ≤ p → d.getD p 0 = c.getD p 0 from fun p hp => HDP.out p (by omega))
              go_wp2_with fail
              go_quiet (fail)
              go_wp2_with fail
              exact ⟨⟨i, q + 1, d, rfl, by go_num, by omega, by omega, by omega, by omega, HSd.out, HDN.out, HPN.out, HMd.out, HRd.out.below (below_drewN (Below.refl _ _) _), HOd.out.drewN _⟩, by simp [intOf]; omega⟩
          · obtain rfl : q = n - K := by omega
            have hin : i < n := by omega
            have hcl : ∀ ty, (Builtin.clear_ #[24] ty #[.slice (some ⟨g, 0 + i, none⟩) (n - i) (cap - i)]).run Tryz.prog wr = .ok (.tuple #[]) (wr.setCells g (0 + i) (List.replicate (n - i) (.int .i64 0))) :=
              fun ty => Lib.run_clear_slice wr _ _ ty _ Tryz.underlying24 zeroI rfl rfl g (0 + i) _ _ (by omega) (fun p hp => by
                rw [Nat.zero_add, HRd.out.cell (i := i + p) (by omega)]
                rfl) (fun p hp => HRd.out.free _)
            simp only [Nat.zero_add] at hcl
            have hini : (i : Int) ≤ n := by omega
            have hic : (i : Int) ≤ cap := by omega
            go_wp2_with fail
            go_ret
            have hdl := HRd.out.len
            have htl : (d.take i).length = i := by rw [List.length_take]; omega
            have hrow := row_setCells (List.replicate (n - i) (Value.int .i64 0)) i wr _ HRd.out (by rw [List.length_replicate]; omega)
            have hshr := row_shrink hrow (i := i) (by omega)
            rw [Nat.mul_one, setL_take _ _ _ (by rw [List.length_replicate, List.length_map]; omega), ← List.map_take] at hshr
            refine ⟨d.take i, by rw [htl]; rfl, by rw [htl]; exact hshr, ?_, fun x hx => HMd.out x (List.mem_of_mem_take hx), only_setCells (S := fun k => k = g) (.inr rfl) _ _ _ HOd.out⟩
            exact strict_take (by omega) HSd.out
    · obtain rfl : k = n := by omega
      go_wp2_with fail
      go_ret
      exact ⟨c, by rw [HL.out]; rfl, by rw [HL.out]; exact HR.out, by rw [HL.out]; exact HST.out, HM.out, HO.out⟩
theorem cmp_nil (w : World) : Calls Tryz.prog 71 #[.slice none 0 0] w fun e w' => e = .returned (.slice none 0 0) ∧ w = w' := by
  go_enter Tryz.func71, Tryz.ntmps71
  go_wp2_with fail
  go_ret
  exact ⟨rfl, rfl⟩
def CmpRow (w : World) (v : Value) (ts : List Int) (e : Ending) (w' : World) : Prop :=
  ∃ a cap c, e = .returned (.slice a c.length cap) ∧ w'.ownsRow 0 3 1 (.slice a c.length cap) c.length (c.map fun t => .int .i64 t) ∧ Strict c c.length ∧ (∀ x ∈ c, x ∈ ts) ∧ Only (fun k => v.ownBlock = some k) w w' ∧ (Value.slice a c.length cap).ownBlock = v.ownBlock
theorem cmp_row (w : World) (v : Value) (n : Nat) (c ts : List Int) (h : w.ownsRow 0 3 1 v n (c.map fun t => .int .i64 t)) (hs : Sorted' c n) (hm : ∀ x ∈ c, x ∈ ts) (hn : n ≤ 1000) : Calls Tryz.prog 71 #[v] w (CmpRow w v ts) := by
  rcases h.2 with ⟨rfl, rfl⟩ | ⟨g, cap, cur, rfl, _⟩
  · refine (cmp_nil w).mono ?_
    rintro e w' ⟨rfl, rfl⟩
    exact ⟨none, 0, [], rfl, World.ownsRow_nil _ _ _ _, (fun p q hpq hq => absurd hq (by simp)), (fun x hx => absurd hx (by simp)), Only.refl _ _, rfl⟩
  · refine (cmp_any w g n cap c ts h hs hm hn).mono ?_
    rintro e w' ⟨d, rfl, h1, h2, h3, h4⟩
    exact ⟨_, _, d, rfl, h1, h2, h3, h4.mono fun k _ e => by subst e; rfl, rfl⟩
end Go.Proofs.YtganmdbhmihjpaaGreat.Tgu
