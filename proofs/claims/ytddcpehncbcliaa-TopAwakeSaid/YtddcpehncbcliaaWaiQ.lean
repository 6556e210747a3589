/- The statement: wakes. -/
import Derived.Test.YtddcpehncbcliaaWaiZ
namespace Go.Proofs.Ytddcpehncbcliaa.Wai
open Go.RowKit
set_option linter.unusedSimpArgs false
set_option linter.unusedVariables false

theorem IntsAt.opened {B n : Nat} {w : World} {a : Option Addr} {c : Nat} {ts : List Int} (h : IntsAt B w (.slice a n c) ts) (hn : ts.length = n) : IntsIn w a n ts := by
  obtain ⟨a', c', e, hi⟩ := h.open
  injection e with e1 e2 e3
  subst e1
  rw [hn] at hi
  exact hi
theorem wakeN_one (t : Int) : wakeN [t] = setR [t] := by
  have := wakeN_snoc [] t
  rw [List.nil_append] at this
  rw [this]
  show 0 ||| setR [t] = setR [t]
  simp
theorem of_meets {ws : Ws} (h : WfW ws) {x : Wt} (hx : x ∈ ws) {t : Int} (ht : okB t = true) : decide (t ∈ bitsOf (gOf ws x.th) 12) = meets (setR [t]) x := by
  have hg : gOf ws x.th = x.of := by unfold gOf; rw [findW_at h.nodup hx]; rfl
  rw [meets_one (h.ok x hx).2.1, ht, hg, Bool.true_and]
  have h1 := okB_iff.1 ht
  rw [Bool.eq_iff_iff, decide_eq_true_iff, bitsOf_mem]
  constructor
  · rintro ⟨i, hi, rfl, hb⟩
    simpa using hb
  · intro hb
    exact ⟨t.toNat, by omega, by omega, hb⟩
theorem left_ok {ws : Ws} (h : WfW ws) (u : Nat) {y : Int} (hy : y ∈ ths (wakeS ws u)) : decide (y ∈ meetW ws u) = false ∧ decide (y ∈ ths ws) = true := by
  unfold wakeS ths at hy
  obtain ⟨x, hx, rfl⟩ := List.mem_map.1 hy
  obtain ⟨hx1, hx2⟩ := List.mem_filter.1 hx
  constructor
  · rw [decide_eq_false_iff_not]
    intro hm
    unfold meetW ths at hm
    obtain ⟨z, hz, he⟩ := List.mem_map.1 hm
    obtain ⟨hz1, hz2⟩ := List.mem_filter.1 hz
    have e1 := findW_at h.nodup hz1
    have e2 := findW_at h.nodup hx1
    rw [he, e2] at e1
    injection e1 with e1
    subst e1
    rw [hz2] at hx2
    cases hx2
  · rw [decide_eq_true_iff]
    exact List.mem_map.2 ⟨x, hx1, rfl⟩
theorem part_len (ws : Ws) (u : Nat) : (ths (wakeS ws u)).length + (meetW ws u).length = (ths ws).length := by
  unfold meetW wakeS ths
  simp only [List.length_map]
  induction ws with
  | nil => rfl
  | cons x ws ih =>
    rw [List.filter_cons, List.filter_cons]
    cases hm : meets u x
    · simp [hm]; omega
    · simp [hm]; omega
theorem meet_gone (ws : Ws) (u : Nat) : meetW (wakeS ws u) u = [] := by
  unfold meetW wakeS
  rw [List.filter_filter]
  have : (ws.filter fun a => meets u a && !meets u a) = [] := by
    rw [List.filter_eq_nil_iff]
    intro x _
    simp
  rw [this]
  rfl
/-- the real side alone, behind one more deed -/
structure Ply (w w' : World) (b : Nat) (F : Nat → Prop) (n : Nat) (ws : Ws) : Prop where
  l : ListsAt w' b F n ws
  lo : Below w.heap.size w w'
  fl : ∀ k, F k → w.heap.size ≤ k
theorem Playing.ply {w w1 : World} {b rb n : Nat} {F : Nat → Prop} {ws : Ws} (h : Playing w w1 b rb F n ws) : Ply w w1 b F n ws := ⟨h.both.l, h.lo, h.fl⟩
theorem Ply.step {w w1 w2 : World} {b n n' : Nat} {F : Nat → Prop} {ws ws' : Ws} (h : Ply w w1 b F n ws) (h2 : ListsAt w2 b (Grow F w1 w2) n' ws') (ho : Only F w1 w2) : Ply w w2 b (Grow F w1 w2) n' ws' :=
  ⟨h2, h.lo.trans (Only.lo ho h.fl h.lo.size), grow_lo h.fl h.lo.size⟩
theorem Ply.below {w w1 w2 : World} {b n : Nat} {F : Nat → Prop} {ws : Ws} (h : Ply w w1 b F n ws) (l : Below w1.heap.size w1 w2) : Ply w w2 b F n ws :=
  ⟨h.l.below l, btrans h.lo (Nat.le_refl _) l, h.fl⟩
theorem Playing.real1 {w w1 w2 : World} {b rb n n' : Nat} {F : Nat → Prop} {ws ws' : Ws} (h : Playing w w1 b rb F n ws) (h2 : ListsAt w2 b (Grow F w1 w2) n' ws') (ho : Only F w1 w2) : Ply w w2 b (Grow F w1 w2) n' ws' := h.ply.step h2 ho
set_option maxHeartbeats 1600000 in
theorem wakes_law {H : Type} (enc : TypeId × Value → H) (w : World) (a : Option Addr) (len cap : Nat) (h : Fits enc Try.prog w 22 [.slice a len cap]) (tv : Int) (hwf : (Lit.int .u8 tv).wf = true) :
    Calls Try.prog 5 #[.slice a len cap, .int .u8 tv] w fun e w' => e = .returned (.bool true) ∧ Below w.heap.size w w' := by
  obtain ⟨i0, hi, hz0, hz1, hz2⟩ := info_parts infoI
  have HD := Lib.hid (deeds_of h)
  have htv : 0 ≤ tv ∧ tv < 256 := by have hb := bounds_u8 hwf; exact ⟨hb.1, by have := hb.2; omega⟩
  have hq : IntKind.i64.wrap tv = tv := by rw [IntKind.wrap_i64]; omega
  obtain ⟨t, ht⟩ : ∃ t, tv.tmod 12 = t := ⟨_, rfl⟩
  have htm : tv.tmod 12 = tv % 12 := Int.tmod_eq_emod_of_nonneg htv.1
  have hw2 : IntKind.i64.wrap t = t := by rw [IntKind.wrap_i64]; omega
  have HT := Lib.hid (show okB t = true from okB_iff.2 ⟨by omega, by omega⟩)
  have HU := Lib.hid (wakeN_one t)
  clear h htv htm hwf
  go_enter Try.func5, Try.ntmps5
  go_wp2_with fail; refine (play_any w a len cap HD.out).mono ?_; rintro e w1 ⟨b, rb, F, ws, rfl, h1⟩; have H1 := Lib.hid h1; clear h1; go_wp2_with fail; refine (live_any _).mono ?_; rintro e w2 ⟨rfl, l2⟩; have H2 := Lib.hid (H1.out.below l2); clear l2 H1; go_wp2_with fail
  have HWF := Lib.hid H2.out.both.l.wf
  have hm := ths_len HWF.out
  have hlw : (ths ws).length = ws.length := by simp [ths]
  refine (waiting_any _ b _ ws H2.out.both.l).mono ?_
  rintro e w3 ⟨v, rfl, i3, l3⟩
  obtain ⟨va, vc, rfl, hin⟩ := IntsAt.open i3
  have H3 := Lib.hid (H2.out.below l3); have HIN := Lib.hid hin; have HI3 := Lib.hid i3
  have hs23 := l3.size
  have hwi := Lib.hid H2.out.both.l.within
  clear i3 l3 hin
  obtain ⟨q, hq⟩ : ∃ q, (ths ws).length = q := ⟨_, rfl⟩
  have HQ := Lib.hid hq
  rw [hq] at hm hlw HIN HI3 ⊢
  have HLW := Lib.hid hlw
  clear hq hlw
  obtain ⟨u, hu⟩ : ∃ u, setR [t] = u := ⟨_, rfl⟩
  have HU2 := Lib.hid hu
  rw [hu] at HU
  clear hu
  go_wp2_with fail
  go_loopw [10, 11] (fun v i wr => ∃ k : Nat, i = .int .i64 k ∧ k ≤ q ∧ IntsAt w3.heap.size wr v (meetW (ws.take k) u) ∧ Below w3.heap.size w3 wr) (fun _ i _ => q - (intOf i).toNat)
  case atStart => exact ⟨0, rfl, Nat.zero_le _, World.ownsRow_nil _ _ _ _, Below.refl _ _⟩
  case round =>
    obtain ⟨k, rfl, hk, hR, hB⟩ := hrel
    have HR := Lib.hid hR; have HB := Lib.hid hB
    clear hR hB
    have HP := Lib.hid (H3.out.below HB.out)
    have HI := Lib.hid (HIN.out.below HB.out)
    have hsz := HB.out.size
    by_cases hlt : k < q
    · obtain ⟨x, hx⟩ : ∃ x, ws[k]? = some x := ⟨ws[k]'(by rw [← HLW.out]; exact hlt), List.getElem?_eq_getElem _⟩
      have hd := of_meets HWF.out (List.mem_of_getElem? hx) HT.out
      rw [HU2.out] at hd
      have HMS := Lib.hid (meetW_snoc ws u k x hx)
      have hgd : (ths ws).getD k 0 = x.th := by rw [List.getD_eq_getElem?_getD]; simp [ths, hx]
      obtain ⟨g, off, rfl, hc⟩ := HI.out.2.resolve_left (by omega)
      have c0 := hc k hlt
      rw [hgd] at c0
      have HM := Lib.hid hd
      have hml := meetW_len' ws u k
      clear hc hgd hx hd
      generalize x.th = xt at *
      go_wp2_with fail
      refine (of_any _ b _ ws HP.out.both.l xt).mono ?_
      rintro e w4 ⟨v4, rfl, i4, l4⟩
      obtain ⟨va4, vc4, rfl, hin4⟩ := IntsAt.open i4
      have HIN4 := Lib.hid hin4
      have HB4 := Lib.hid (btrans HB.out (Nat.le_refl _) l4); have HR4 := Lib.hid (HR.out.below l4)
      replace c0 := bkeep l4 c0
      have hb12 := bitsOf_len (gOf ws xt) 12
      clear i4 l4 hin4 HR HB HP HI hsz
      have HR := HR4; have HB := HB4
      clear HR4 HB4
      have hsz := HB.out.size
      obtain ⟨z, hz⟩ : ∃ z, (bitsOf (gOf ws xt) 12).length = z := ⟨_, rfl⟩
      rw [hz] at hb12 HIN4 ⊢
      clear hz
      go_wp2_with fail
      refine (in_any _ va4 z vc4 _ t HIN4.out (by omega)).mono ?_
      rintro e w5 ⟨rfl, rfl⟩
      rw [HM.out]
      cases hme : meets u x
      · have HS2 := Lib.hid (show meetW (ws.take (k + 1)) u = meetW (ws.take k) u by rw [HMS.out, hme]; simp)
        clear hme
        go_wp2_with fail
        exact ⟨⟨k + 1, by go_num, by omega, by rw [HS2.out]; exact HR.out, HB.out⟩, by simp [intOf]; omega⟩
      · have HS2 := Lib.hid (show meetW (ws.take (k + 1)) u = meetW (ws.take k) u ++ [xt] by rw [HMS.out, hme]; rfl)
        clear hme
        go_wp2_with (at_builtin; refine wpList_append_own _ rfl _ _ 28 rfl w3.heap.size 3 i0 (.int .i64 0) 1 8 Try.underlying28 hi hz0 hz1 hz2 rfl (by decide) _ _ ((meetW (ws.take k) u).map fun t => .int .i64 t) rfl (HR.out.below ((Below.refl w4.heap.size w4).alloc (Nat.le_refl _) _)) ⟨w4.heap.size, 0, none⟩ 1 1 [.int .i64 xt] rfl rfl ?_ ?_ ?_ ?_ ?_ ?_); rotate_right; (intro v' w9 hown hgr _; have hB2 : Below w3.heap.size w3 w9 := (HB.out.alloc hsz _).grown hgr (by simp; omega) (fun k hk => (World.ownsRow.lt HR.out k hk).1); have HB2 := Lib.hid hB2; have HP2 := Lib.hid (show IntsAt w3.heap.size w9 v' (meetW (ws.take k) u ++ [xt]) from (by unfold IntsAt; rw [List.map_append, List.length_append]; exact hown)); clear hown hgr hB2; go_wp2_with fail; exact ⟨⟨k + 1, by go_num, by omega, by rw [HS2.out]; exact HP2.out, HB2.out⟩, by simp [intOf]; omega⟩); all_goals (first | (intro jj vv hv; rw [Addr.add_lit]; have hnw := blk_cell (blk_new w4 (.cells #[.int .i64 xt] 3)) jj; rw [Nat.zero_add, hnw]; simpa using hv) | (simp [Value.oneCell']; done) | (unfold maxLen; omega) | omega | (simp; omega))
    · obtain rfl : k = q := by omega
      have hR := HR.out
      rw [List.take_of_length_le (by rw [HLW.out]; exact Nat.le_refl _)] at hR
      have HW0 := Lib.hid hR
      have l4 : Below wr.heap.size wr (wr.alloc (.cells #[.int .i64 t] 3)) := by repeat (first | (with_reducible exact Below.refl _ _) | (with_reducible apply Below.drew) | (with_reducible refine below_drewN ?_ _) | (with_reducible refine below_alloc' ?_ ?_ _; (focus ((try simp) <;> omega))) | (with_reducible refine below_set' ?_ ?_ _; (focus ((try simp) <;> omega))))
      have HK := Lib.hid (wake_any _ b _ _ (HP.out.both.l.below l4) _ 1 1 [t] (one_in wr t) (by decide))
      have HPW := Lib.hid (HP.out.below l4); have HRW := Lib.hid (hR : IntsAt w3.heap.size wr u10 (meetW ws u)) 
      have HRW4 := Lib.hid (HRW.out.below l4)
      have HA4 := Lib.hid ((HI3.out.below HB.out).below l4)
      rw [HU.out] at HK
      clear hR l4 HR HRW HW0
      go_wp2_with fail
      refine HK.out.mono ?_
      rintro e w5 ⟨v5, rfl, i5, nf5, h5, o5⟩
      have hwr := HB.out.size
      have HA5 := Lib.hid (show IntsAt w2.heap.size w5 (.slice va k vc) (ths ws) from ownsRow_only HA4.out o5 (fun g hg hf => by have := (World.ownsRow.lt HA4.out g hg).1; have := hwi.out g hf; omega))
      have HW5 := Lib.hid (show IntsAt w3.heap.size w5 u10 (meetW ws u) from ownsRow_only HRW4.out o5 (fun g hg hf => by have := (World.ownsRow.lt HRW4.out g hg).1; have := hwi.out g hf; omega))
      have HP5 := Lib.hid (HPW.out.real1 h5 o5)
      obtain ⟨va5, vc5, rfl, _⟩ := IntsAt.open i5
      obtain ⟨z, hz⟩ : ∃ z, (meetW ws u).length = z := ⟨_, rfl⟩
      have HZ := Lib.hid hz
      have I5 := Lib.hid i5
      have hmw := meetW_len HWF.out u
      rw [hz] at hmw I5 ⊢
      clear hz i5 nf5 h5 o5 HA4 HRW4 HK HPW HI HIN
      go_wp2_with fail
      refine (waiting_any _ b _ _ HP5.out.l).mono ?_
      rintro e w6 ⟨v6, rfl, i6, l6⟩
      obtain ⟨va6, vc6, rfl, hin6⟩ := IntsAt.open i6
      have HIN6 := Lib.hid hin6
      have HA6 := Lib.hid (HA5.out.below l6); have HW6 := Lib.hid (HW5.out.below l6); have I6 := Lib.hid (I5.out.below l6); have HL6 := Lib.hid (HP5.out.l.below l6); have HLO := Lib.hid (btrans HP5.out.lo (Nat.le_refl _) l6)
      clear i6 l6 hin6 HA5 HW5 I5 HP5
      obtain ⟨y, hy⟩ : ∃ y, (ths (wakeS ws u)).length = y := ⟨_, rfl⟩
      have HY := Lib.hid hy
      have hsum := part_len ws u
      rw [hy, HZ.out, HQ.out] at hsum
      rw [hy] at HIN6 ⊢
      clear hy
      obtain ⟨aw, cw, rfl, hinw⟩ := IntsAt.open HW6.out
      rw [HZ.out] at hinw ⊢
      have HNW := Lib.hid hinw
      have HNA := Lib.hid (HA6.out.opened HQ.out)
      have HNV := Lib.hid (I6.out.opened HZ.out)
      clear hinw HA6 HW6 I6 HP HB
      go_wp2_with fail
      go_loopw [14] (fun i wr => ∃ j : Nat, i = .int .i64 j ∧ j ≤ y ∧ Below w6.heap.size w6 wr) (fun i _ => y - (intOf i).toNat)
      case atStart => exact ⟨0, rfl, Nat.zero_le _, Below.refl _ _⟩
      case round =>
        obtain ⟨j, rfl, hj, hB⟩ := hrel
        have HB := Lib.hid hB
        have HV := Lib.hid (HNV.out.below hB); have HA := Lib.hid (HNA.out.below hB); have HW := Lib.hid (HNW.out.below hB); have HI6 := Lib.hid (HIN6.out.below hB)
        clear hB
        by_cases hlt2 : j < y
        · obtain ⟨g, off, rfl, hc⟩ := HI6.out.2.resolve_left (by omega)
          have c0 := hc j hlt2
          have hmem : (ths (wakeS ws u)).getD j 0 ∈ ths (wakeS ws u) := by rw [List.getD_eq_getElem?_getD, List.getElem?_eq_getElem (by rw [HY.out]; exact hlt2)]; exact List.getElem_mem _
          obtain ⟨d1, d2⟩ := left_ok HWF.out u hmem
          have D1 := Lib.hid d1; have D2 := Lib.hid d2
          clear hc hmem d1 d2
          generalize (ths (wakeS ws u)).getD j 0 = yt at *
          go_wp2_with fail
          refine (in_any _ aw z cw _ yt HW.out (by omega)).mono ?_
          rintro e w7 ⟨rfl, rfl⟩
          rw [D1.out]
          go_wp2_with fail
          refine (in_any _ va k vc _ yt HA.out (by omega)).mono ?_
          rintro e w7 ⟨rfl, rfl⟩
          rw [D2.out]
          go_wp2_with fail
          exact ⟨⟨j + 1, by go_num, by omega, HB.out⟩, by simp [intOf]; omega⟩
        · obtain rfl : j = y := by omega
          have hadd : IntKind.i64.wrap ((j : Int) + z) = k := by rw [IntKind.wrap_i64]; omega
          have HL7 := Lib.hid (HL6.out.below HB.out); have HLO7 := Lib.hid (btrans HLO.out (Nat.le_refl _) HB.out)
          go_wp2_with fail
          refine (sameInts_any HV.out HW.out (by omega)).mono ?_
          rintro e w7 ⟨rfl, l7⟩
          have HL8 := Lib.hid (HL7.out.below l7); have HLO8 := Lib.hid (btrans HLO7.out (Nat.le_refl _) l7)
          clear l7
          go_wp2_with fail
          refine (at_any _ b _ _ HL8.out t).mono ?_
          rintro e w8 ⟨v8, rfl, i8, l8⟩
          obtain ⟨va8, vc8, rfl, _⟩ := IntsAt.open i8
          have HLO9 := Lib.hid (btrans HLO8.out (Nat.le_refl _) l8)
          rw [HU2.out, meet_gone, List.length_nil]
          clear i8 l8
          go_wp2_with fail
          go_ret
          exact ⟨rfl, HLO9.out⟩
end Go.Proofs.Ytddcpehncbcliaa.Wai
