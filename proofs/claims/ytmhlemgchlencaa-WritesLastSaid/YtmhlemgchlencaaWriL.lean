/- The statement: what was put is what Get tells. -/
import Derived.Test.YtmhlemgchlencaaWriW
namespace Go.Proofs.Ytmhlemgchlencaa.Wri
open Go.RowKit
set_option linter.unusedSimpArgs false
set_option linter.unusedVariables false

/-- without a variable -/
def sans (t : Int) (f : Frm) : Frm := f.filter fun p => decide (p.1 ≠ t)
theorem sans_allK (g : Int → Option Int) (t : Int) (v : Int) (k : Nat) : sans t (allK (fun s => if s = t then some v else g s) k) = sans t (allK g k) := by
  induction k with
  | zero => rfl
  | succ k ih =>
    unfold sans at ih ⊢
    simp only [allK]
    rw [List.filter_append, List.filter_append, ih]
    by_cases h : (k : Int) = t
    · rw [if_pos h]
      cases g k <;> simp [h]
    · rw [if_neg h]
theorem sans_in {t : Int} {f : Frm} {i : Nat} {p : Int × Int} (h : f[i]? = some p) (hp : p.1 = t) : sans t (f.drop i) = sans t (f.drop (i + 1)) := by
  obtain ⟨hi, rfl⟩ := List.getElem?_eq_some_iff.1 h
  rw [List.drop_eq_getElem_cons hi]
  unfold sans
  rw [List.filter_cons_of_neg (by simpa using hp)]
theorem sans_out {t : Int} {f : Frm} {i : Nat} {p : Int × Int} (h : f[i]? = some p) (hp : p.1 ≠ t) : sans t (f.drop i) = p :: sans t (f.drop (i + 1)) := by
  obtain ⟨hi, rfl⟩ := List.getElem?_eq_some_iff.1 h
  rw [List.drop_eq_getElem_cons hi]
  unfold sans
  rw [List.filter_cons_of_pos (by simpa using hp)]
theorem sans_end {t : Int} {f : Frm} {i : Nat} (h : f.length ≤ i) : sans t (f.drop i) = [] := by
  rw [List.drop_eq_nil_of_le h]; rfl
theorem getL_put {fs : List Frm} {t v : Int} (hne : fs ≠ []) (h : putN fs t v = 0) : getL (putS fs t v) = fun s => if s = t then some v else getL fs s := by
  funext s
  unfold putS
  rw [if_pos h]
  cases fs with
  | nil => exact absurd rfl hne
  | cons f r =>
    show getL (putF f t v :: r) s = _
    rw [getL_cons, getF_put, getL_cons]
    split <;> rfl
theorem lenF_put {fs : List Frm} {t v : Int} : lenF fs ≤ lenF (putS fs t v) := by
  unfold putS
  split
  · cases fs with
    | nil => exact Nat.le_refl _
    | cons f r => show _ ≤ lenF (putF f t v :: r); rw [lenF_cons, lenF_cons, putF_len_eq]; omega
  · exact Nat.le_refl _
theorem putN_space {fs : List Frm} {t v : Int} (h : putN fs t v = 4) : 16 ≤ lenF fs := by
  unfold putN at h
  split at h
  · cases h
  · split at h
    · cases h
    · cases fs with
      | nil => cases h
      | cons f r =>
        simp only at h
        split at h
        · rename_i h1; exact h1.2
        · cases h
/-- a row of pairs: its slice and its cells -/
theorem pairs_open {B : Nat} {w : World} {v : Value} {f : Frm} (h : PairsAt B w v f) : ∃ a c, v = .slice a f.length c ∧ ∀ w', Below w.heap.size w w' → ∀ i p, f[i]? = some p → ∃ g, a = some ⟨g, 0, none⟩ ∧ w'.cell? ⟨g, i * 2, none⟩ = some (.int .i64 p.1) ∧ w'.cell? ⟨g, i * 2 + 1, none⟩ = some (.int .u64 p.2) := by
  rcases h.2 with ⟨rfl, h0⟩ | ⟨g, cap, cur, rfl, _⟩
  · rw [List.length_eq_zero_iff] at h0
    subst h0
    exact ⟨_, _, rfl, fun w' _ i p hp => by simp at hp⟩
  · refine ⟨_, _, rfl, fun w' l i p hp => ⟨g, rfl, ?_⟩⟩
    obtain ⟨c0, c1⟩ := pairs_cell h hp
    exact ⟨bkeep l c0, bkeep l c1⟩
set_option maxRecDepth 50000 in
set_option maxHeartbeats 6400000 in
theorem last_law {H : Type} (enc : TypeId × Value → H) (w : World) (a : Option Addr) (len cap : Nat) (h : Fits enc Try.prog w 22 [.slice a len cap]) (c : Array Value) (h' : Fits enc Try.prog w 26 c.toList) :
    Calls Try.prog 3 #[.slice a len cap, .agg c] w fun e w' => e = .returned (.bool true) ∧ Below w.heap.size w w' := by
  obtain ⟨t, v, he, hv⟩ := pair_of h'
  obtain rfl : c = #[.int .i64 t, .int .u64 v] := by rw [← Array.toList_inj, he]
  have lW : Below w.heap.size w (w.alloc (.cells #[.int .i64 t, .int .u64 v] 26)) := by repeat (first | (with_reducible exact Below.refl _ _) | (with_reducible apply Below.drew) | (with_reducible refine below_drewN ?_ _) | (with_reducible refine below_alloc' ?_ ?_ _; (focus ((try simp) <;> omega))) | (with_reducible refine below_set' ?_ ?_ _; (focus ((try simp) <;> omega))))
  have hx := blk_new w (.cells #[.int .i64 t, .int .u64 v] 26)
  have L0 := Lib.hid lW; have HV := Lib.hid hv
  obtain ⟨hm, hd⟩ := deeds_of h
  have HD := Lib.hid (show Deeds (w.alloc (.cells #[.int .i64 t, .int .u64 v] 26)) a len from ⟨hm, hd.imp id fun ⟨b, off, e, hc⟩ => ⟨b, off, e, fun i hi => by
    obtain ⟨kd, th, u, ⟨c0, c1, c2⟩, hu⟩ := hc i hi
    exact ⟨kd, th, u, ⟨bkeep lW c0, bkeep lW c1, bkeep lW c2⟩, hu⟩⟩⟩)
  have KO := Lib.hid (show ∀ w', Below (w.alloc (.cells #[.int .i64 t, .int .u64 v] 26)).heap.size (w.alloc (.cells #[.int .i64 t, .int .u64 v] 26)) w' → (w'.cell? ⟨w.heap.size, 0, none⟩ = some (.int .i64 t) ∧ w'.cell? ⟨w.heap.size, 1, none⟩ = some (.int .u64 v)) from fun w' l => by
    have x0 := blk_cell (bblk l hx) 0; have x1 := blk_cell (bblk l hx) 1
    exact ⟨x0, x1⟩)
  clear h h' he hx lW hv hd
  go_enter Try.func3, Try.ntmps3
  go_wp2_with fail
  generalize hWW : w.alloc (.cells #[.int .i64 t, .int .u64 v] 26) = W at *
  clear hWW
  generalize hBX : w.heap.size = bx at *
  go_wp2_with fail
  refine (play_any W a len cap HD.out).mono ?_
  rintro e w1 ⟨b, rb, fs, rfl, hP⟩
  have H1 := Lib.hid hP; clear hP HD
  go_wp2_with fail
  refine (live_any _).mono ?_
  rintro e w2 ⟨rfl, l2⟩
  have H2 := Lib.hid (H1.out.below l2); clear l2 H1
  go_wp2_with fail
  refine (lall_p H2.out.both.l).mono ?_
  rintro e w3 ⟨v1, rfl, p1, l3⟩
  have hbw2 := H2.out.both.blt
  have H3 := Lib.hid (H2.out.below l3)
  have hbs := H3.out.bl
  have P1 := Lib.hid p1
  clear l3 p1 H2
  go_wp2_with fail
  refine (llen_p H3.out.both.l).mono ?_
  rintro e w4 ⟨rfl, l4⟩
  have H4 := Lib.hid (H3.out.below l4)
  have P4 := Lib.hid (pairs_grow P1.out l4)
  clear l4 H3 P1
  obtain ⟨x0, x1⟩ := KO.out _ H4.out.lo
  go_wp2_with fail
  refine (lput_p H4.out.both.l H4.out.both.i t v HV.out).mono ?_
  rintro e w5 ⟨rfl, o5, m5⟩
  have P5 := Lib.hid (pairs_only P4.out o5 hbw2)
  have L5 := Lib.hid (H4.out.lo.trans (o5.below H4.out.lo.size fun k hk e => by omega))
  have M5 := Lib.hid m5
  have HI := Lib.hid H4.out.both.i
  have HNE := Lib.hid (show fs ≠ [] from LAt.ne H4.out.both.l)
  clear o5 m5 H4 P4 x0 x1
  by_cases h0 : putN fs t v = 0
  · have hq : (putN fs t v == 0) = true := by simpa using h0
    have hgl := getL_put HNE.out h0
    obtain ⟨x0, x1⟩ := KO.out _ L5.out
    have HIP := Lib.hid (HI.out.put t v).len
    have HLP := Lib.hid (lenF_put (fs := fs) (t := t) (v := v))
    rw [h0] at hq ⊢
    clear h0
    go_wp2_with fail
    refine (lget_p M5.out t).mono ?_
    rw [hgl]; dsimp only; rw [if_pos rfl]
    rintro e w6 ⟨rfl, l6⟩
    have L6 := Lib.hid (btrans L5.out (Nat.le_refl _) l6); have M6 := Lib.hid (M5.out.below l6); have P6 := Lib.hid (pairs_grow P5.out l6)
    clear l6 L5 M5 P5
    simp only [Option.getD_some, Option.isSome_some]
    go_wp2_with fail
    refine (lall_p M6.out).mono ?_
    rw [hgl]
    rintro e w7 ⟨v2, rfl, p7, l7⟩
    have L7 := Lib.hid (btrans L6.out (Nat.le_refl _) l7); have M7 := Lib.hid (M6.out.below l7)
    have hsa := sans_allK (getL fs) t v 12
    obtain ⟨a1, cc1, rfl, q1⟩ := pairs_open (pairs_grow P6.out l7)
    obtain ⟨a2, cc2, rfl, q2⟩ := pairs_open p7
    have HW12 := Lib.hid (show (allK (getL fs) 12).length ≤ 12 from allK_len _ _)
    have HN12 := Lib.hid (show (allK (fun s => if s = t then some v else getL fs s) 12).length ≤ 12 from allK_len _ _)
    generalize allK (getL fs) 12 = WA at *
    generalize allK (fun s => if s = t then some v else getL fs s) 12 = NO at *
    have Q1 := Lib.hid q1; have Q2 := Lib.hid q2; have HSA := Lib.hid hsa
    clear l7 p7 q1 q2 hsa L6 M6 P6 hgl x0 x1
    obtain ⟨nw, hnw⟩ : ∃ nw, WA.length = nw := ⟨_, rfl⟩
    obtain ⟨nn, hnn⟩ : ∃ nn, NO.length = nn := ⟨_, rfl⟩
    rw [hnw] at HW12 ⊢
    rw [hnn] at HN12 ⊢
    have hw12 := HW12.out; have hn12 := HN12.out
    have HNW := Lib.hid hnw; have HNN := Lib.hid hnn
    clear hnw hnn
    go_wp2_with fail
    go_loopw [14, 15] (fun k i wr => ∃ (kk ii : Nat), k = .int .i64 kk ∧ i = .int .i64 ii ∧ kk ≤ nw ∧ ii ≤ nn ∧ Below w7.heap.size w7 wr ∧ sans t (NO.drop ii) = sans t (WA.drop kk)) (fun _ i _ => nn - (intOf i).toNat)
    case atStart => exact ⟨0, 0, rfl, rfl, Nat.zero_le _, Nat.zero_le _, Below.refl _ _, by simpa using HSA.out⟩
    case round =>
      obtain ⟨kk, ii, rfl, rfl, hkk, hii, hB, hs⟩ := hrel
      have HB := Lib.hid hB; have HS := Lib.hid hs
      clear hB hs
      by_cases hlt : ii < nn
      · obtain ⟨p, hp⟩ : ∃ p, NO[ii]? = some p := ⟨NO[ii]'(by rw [HNN.out]; exact hlt), List.getElem?_eq_getElem _⟩
        obtain ⟨g2, rfl, c0, c1⟩ := Q2.out wr HB.out ii p hp
        obtain ⟨pt, pv⟩ := p
        simp only at c0 c1
        obtain ⟨x0, x1⟩ := KO.out wr (btrans L7.out (Nat.le_refl _) HB.out)
        have HP := Lib.hid hp; clear hp
        by_cases he : pt = t
        · have hq1 : (pt == t) = true := by simpa using he
          have HS2 := Lib.hid (show sans t (NO.drop (ii + 1)) = sans t (WA.drop kk) from (sans_in HP.out he).symm.trans HS.out)
          clear he HS
          go_wp2_with fail
          go_quiet (fail)
          go_wp2_with fail
          exact ⟨⟨kk, ii + 1, rfl, by go_num, hkk, by omega, below_drewN HB.out _, HS2.out⟩, by simp [intOf]; omega⟩
        · have hq1 : (pt == t) = false := by simpa using he
          have HE := Lib.hid he
          clear he
          go_wp2_with fail
          go_quiet (fail)
          go_wp2_with fail
          go_loopw [14] (fun k wq => ∃ kq : Nat, k = .int .i64 kq ∧ kq ≤ nw ∧ Below w7.heap.size w7 wq ∧ sans t (NO.drop ii) = sans t (WA.drop kq)) (fun k _ => nw - (intOf k).toNat)
          case atStart => exact ⟨kk, rfl, hkk, below_drewN HB.out _, HS.out⟩
          case round =>
            obtain ⟨kq, rfl, hkq, hBq, hsq⟩ := hrel
            have HBQ := Lib.hid hBq; have HSQ := Lib.hid hsq
            clear hBq hsq
            obtain ⟨x0, x1⟩ := KO.out _ (btrans L7.out (Nat.le_refl _) HBQ.out)
            by_cases hlq : kq < nw
            · obtain ⟨r, hr⟩ : ∃ r, WA[kq]? = some r := ⟨WA[kq]'(by rw [HNW.out]; exact hlq), List.getElem?_eq_getElem _⟩
              obtain ⟨g1, rfl, e0, e1⟩ := Q1.out _ HBQ.out kq r hr
              obtain ⟨rt, rv⟩ := r
              simp only at e0 e1
              have HR := Lib.hid hr; clear hr
              by_cases hre : rt = t
              · have hq2 : (rt == t) = true := by simpa using hre
                have HS2 := Lib.hid (show sans t (NO.drop ii) = sans t (WA.drop (kq + 1)) from HSQ.out.trans (sans_in HR.out hre))
                clear hre HSQ
                go_wp2_with fail
                go_quiet (fail)
                go_wp2_with fail
                exact ⟨⟨kq + 1, by go_num, by omega, below_drewN HBQ.out _, HS2.out⟩, by simp [intOf]; omega⟩
              · have hq2 : (rt == t) = false := by simpa using hre
                have h1 := HSQ.out
                rw [sans_out HP.out HE.out, sans_out HR.out hre] at h1
                injection h1 with h1 h2
                injection h1 with h1 h3
                subst h1 h3
                have HS2 := Lib.hid h2
                clear h2 hre HSQ
                obtain ⟨g2', hg2, d0, d1⟩ := Q2.out _ HBQ.out ii _ HP.out
                injection hg2 with hg2
                injection hg2 with hg2 _ _
                subst hg2
                simp only at d0 d1
                have hge : decide ((nw : Int) ≤ kq) = false := by simp; omega
                go_wp2_with fail
                go_quiet (fail)
                go_wp2_with fail
                go_quiet (fail)
                go_wp2_with fail
                exact ⟨⟨kq + 1, ii + 1, by go_num, by go_num, by omega, by omega, below_drewN HBQ.out _, HS2.out⟩, by simp [intOf]; omega⟩
            · exfalso
              have h1 := HSQ.out
              rw [sans_out HP.out HE.out, sans_end (f := WA) (by rw [HNW.out]; omega)] at h1
              cases h1
      · obtain ⟨x0, x1⟩ := KO.out wr (btrans L7.out (Nat.le_refl _) HB.out)
        have HM := Lib.hid (M7.out.below HB.out)
        have hlp := HLP.out; have hip := HIP.out
        have hle : decide (((lenF (putS fs t v) : Nat) : Int) ≤ 16) = true := by simp; omega
        have hge : decide (((lenF fs : Nat) : Int) ≤ ((lenF (putS fs t v) : Nat) : Int)) = true := by simp; omega
        generalize putS fs t v = fs' at *
        clear hlp hip
        go_wp2_with fail
        refine (llen_p HM.out).mono ?_
        rintro e w8 ⟨rfl, l8⟩
        have HM8 := Lib.hid (HM.out.below l8); have L8 := Lib.hid (btrans (btrans L7.out (Nat.le_refl _) HB.out) (Nat.le_refl _) l8)
        clear l8 HM
        go_wp2_with fail
        refine (llen_p HM8.out).mono ?_
        rintro e w9 ⟨rfl, l9⟩
        have L9 := Lib.hid (btrans L8.out (Nat.le_refl _) l9)
        clear l9
        go_wp2_with fail
        go_ret
        exact ⟨by simpa using hge, by subst hBX; exact L0.out.trans (L9.out.mono L0.out.size)⟩
  · have hq : (putN fs t v == 0) = false := by simpa using h0
    have hps : putS fs t v = fs := by unfold putS; rw [if_neg h0]
    have HI4 := Lib.hid (show putN fs t v = 4 → 16 ≤ lenF fs from putN_space)
    rw [hps] at M5
    have hlen := HI.out.len
    have HL16 := Lib.hid hlen
    clear hps h0 hlen
    generalize putN fs t v = er at *
    go_wp2_with fail
    refine (lall_p M5.out).mono ?_
    rintro e w6 ⟨v2, rfl, p6, l6⟩
    have L6 := Lib.hid (btrans L5.out (Nat.le_refl _) l6); have M6 := Lib.hid (M5.out.below l6); have P6 := Lib.hid (pairs_grow P5.out l6); have P62 := Lib.hid p6
    clear l6 L5 M5 P5 p6
    go_wp2_with fail
    refine (same_any P62.out P6.out (by have := allK_len (getL fs) 12; omega)).mono ?_
    rintro e w7 ⟨rfl, l7⟩
    have L7 := Lib.hid (btrans L6.out (Nat.le_refl _) l7); have M7 := Lib.hid (M6.out.below l7)
    clear l7 L6 M6 P6 P62
    go_wp2_with fail
    refine (llen_p M7.out).mono ?_
    rintro e w8 ⟨rfl, l8⟩
    have L8 := Lib.hid (btrans L7.out (Nat.le_refl _) l8)
    clear l8 L7 M7
    by_cases h4 : er = 4
    · have hq4 : (er == 4) = true := by simpa using h4
      have h16 : (((lenF fs : Nat) : Int) == 16) = true := by
        have := HI4.out h4; have := HL16.out
        simp; omega
      subst h4
      go_wp2_with fail
      go_ret
      exact ⟨by simp, by subst hBX; exact L0.out.trans (L8.out.mono L0.out.size)⟩
    · have hq4 : (er == 4) = false := by simpa using h4
      have hq5 : (er != 4) = true := by simpa using h4
      go_wp2_with fail
      go_ret
      exact ⟨by simp, by subst hBX; exact L0.out.trans (L8.out.mono L0.out.size)⟩
end Go.Proofs.Ytmhlemgchlencaa.Wri
