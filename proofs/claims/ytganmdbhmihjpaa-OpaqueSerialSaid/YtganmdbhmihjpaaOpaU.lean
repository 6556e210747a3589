/- The events, one attempt behind the other: they are right, and have the order. -/
import Derived.Test.YtganmdbhmihjpaaOpaT
import Derived.Test.YtganmdbhmihjpaaOpaS
namespace Go.Proofs.Ytganmdbhmihjpaa.Opa
open Go.RowKit Go.Proofs.Ytganmdbhmihjpaa.Wri Go.Proofs.Ytganmdbhmihjpaa.His Go.ChangeShapes Go.WideShapes Go.ChangeAt
set_option linter.unusedSimpArgs false
set_option linter.unusedVariables false
set_option maxRecDepth 50000

theorem serial_ok {l : List Ev} (h : EvsOk l) (order : List Int) : EvsOk (serialL l order) := fun x hx => by
  obtain ⟨t, _, hx⟩ := List.mem_flatMap.1 hx
  exact h x (List.mem_filter.1 hx).1
theorem intsAt_len {B : Nat} {w : World} {v : Value} {N : Nat} {ts : List Int} (h : w.ownsRow B 3 1 v N (ts.map fun t => .int .i64 t)) (hl : ts.length = N) : ∃ a c, v = .slice a N c ∧ IntsIn w a N ts := by
  subst hl
  exact IntsAt.open h
theorem rev_snoc (O : List Int) {k : Nat} (hk : k < O.length) : O.reverse.take (O.length - k) = O.reverse.take (O.length - (k + 1)) ++ [O.getD k 0] := by
  have e : O.length - k = (O.length - (k + 1)) + 1 := by omega
  rw [e, List.take_add_one, List.getElem?_reverse (by omega), show O.length - 1 - (O.length - (k + 1)) = k by omega, List.getElem?_eq_getElem hk, List.getD_eq_getElem?_getD, List.getElem?_eq_getElem hk]
  rfl
set_option maxHeartbeats 12800000 in
theorem serial_law {H : Type} (enc : TypeId × Value → H) (w : World) (a : Option Addr) (len cap : Nat) (h : Fits enc Try.prog w 22 [.slice a len cap]) (turned : Bool) :
    Calls Try.prog 5 #[.slice a len cap, .bool turned] w fun e w' => e = .returned (.bool true) ∧ Below w.heap.size w w' := by
  obtain ⟨i0, hi, hz0, hz1, hz2⟩ := info_parts infoI
  obtain ⟨l, hl, hok, hfew⟩ := evs_of h
  have hm50 : min len 50 ≤ 50 := Nat.min_le_right _ _
  obtain ⟨n, hn⟩ : ∃ n, min len 50 = n := ⟨_, rfl⟩
  rw [hn] at hl hfew hm50
  have HF := Lib.hid (hfew w)
  have HE0 := Lib.hid hl
  have hn6 : n ≤ 1000000 := by omega
  have HOK := Lib.hid hok
  have hal := attL_le l
  rw [hl.1] at hal
  clear h hok hfew hn hl
  go_enter Try.func5, Try.ntmps5
  go_wp2_with fail
  refine HF.out.mono ?_
  rintro e w0 ⟨rfl, rfl⟩
  go_wp2_with fail
  refine (attempts_any w a n cap l HE0.out hn6).mono ?_
  rintro e w1 ⟨v1, rfl, hV1, l1⟩
  obtain ⟨a1, c1, rfl, hI1⟩ := hV1.open
  have HI1 := Lib.hid hI1
  have HL1 := Lib.hid l1
  have hsz1 := l1.size
  obtain ⟨N, hN⟩ : ∃ N, (attL l).length = N := ⟨_, rfl⟩
  have HN := Lib.hid hN
  rw [hN] at HI1 hal
  simp only [hN]
  clear hV1 hI1 l1 hN HF
  cases turned with
  | false =>
    have HLW := HL1
    go_wp2_with fail
    have HEW := Lib.hid (HE0.out.below HLW.out)
    obtain ⟨O, hO⟩ : ∃ O, attL l = O := ⟨_, rfl⟩
    rw [hO] at HI1
    have HND := Lib.hid (show O.Nodup by rw [← hO]; exact attL_nodup l)
    have HMM := Lib.hid (show ∀ t ∈ O, t ∈ attL l by intro t ht; rw [← hO] at ht; exact ht)
    have HSU := Lib.hid (show ∀ x ∈ l, His.Good l → x.a ∈ O from fun x hx hg => by rw [← hO]; first | exact good_in hg hx | exact List.mem_reverse.2 (good_in hg hx))
    clear hO
    refine (serial_any w1 a n cap l HEW.out (by omega) a1 N _ O HI1.out (by omega)).mono ?_
    rintro e w3 ⟨v3, rfl, hV3, l3⟩
    obtain ⟨sa, sc, rfl, hS3⟩ := hV3.open
    have HS3 := Lib.hid hS3
    have HL3 := Lib.hid (btrans HLW.out (Nat.le_refl _) l3)
    have HI3 := Lib.hid (HI1.out.below l3)
    have HE3 := Lib.hid (HEW.out.below l3)
    have hsl := serialL_le l O
    rw [HE0.out.1, HI1.out.1] at hsl
    have hsl2 : (serialL l O).length ≤ 1000000 := Nat.le_trans hsl (Nat.le_trans (Nat.mul_le_mul hal hm50) (by omega))
    have HSL := Lib.hid hsl2
    clear hV3 hS3 l3 hsl hsl2
    go_wp2_with fail
    refine (rserial_any w3 a n cap l HE3.out (by omega) a1 N _ O HI3.out (by omega)).mono ?_
    rintro e w4 ⟨v4, rfl, hV4, l4⟩
    obtain ⟨ta, tc, rfl, hS4⟩ := hV4.open
    have HT4 := Lib.hid hS4
    have HS4 := Lib.hid (HS3.out.below l4)
    have HL4 := Lib.hid (btrans HL3.out (Nat.le_refl _) l4)
    have HI4 := Lib.hid (HI3.out.below l4)
    have HE4 := Lib.hid (HE3.out.below l4)
    clear hV4 hS4 l4
    go_wp2_with fail
    refine (rsame_any w4 sa ta _ sc tc (serialL l O) HS4.out HT4.out HSL.out).mono ?_
    rintro e w5 ⟨rfl, l5⟩
    have HS5 := Lib.hid (HS4.out.below l5)
    have HL5 := Lib.hid (btrans HL4.out (Nat.le_refl _) l5)
    have HI5 := Lib.hid (HI4.out.below l5)
    have HE5 := Lib.hid (HE4.out.below l5)
    clear l5
    go_wp2_with fail
    refine (right_any w5 a n cap l HE5.out HOK.out (by omega)).mono ?_
    rintro e w6 ⟨rfl, l6⟩
    have HS6 := Lib.hid (HS5.out.below l6)
    have HL6 := Lib.hid (btrans HL5.out (Nat.le_refl _) l6)
    have HI6 := Lib.hid (HI5.out.below l6)
    clear l6
    cases hg : goodL l with
    | false =>
      clear hg
      go_wp2_with fail
      refine (live_any _).mono ?_
      rintro e w7 ⟨rfl, l7⟩
      have HL7 := Lib.hid (btrans HL6.out (Nat.le_refl _) l7)
      clear l7
      go_wp2_with fail
      go_ret
      exact ⟨rfl, HL7.out⟩
    | true =>
      have hg2 := (goodL_iff l).1 hg
      have hlen : (serialL l O).length = n := by rw [serial_len O l HND.out (fun x hx => HSU.out x hx hg2), HE0.out.1]
      have HSG := Lib.hid ((goodL_iff _).2 (serial_good hg2 HND.out))
      have HSA := Lib.hid (serial_att HND.out HMM.out)
      rw [hlen] at HS6 ⊢
      clear hg hg2 hlen HSL
      go_wp2_with fail
      refine (live_any _).mono ?_
      rintro e w7 ⟨rfl, l7⟩
      have HS7 := Lib.hid (HS6.out.below l7)
      have HL7 := Lib.hid (btrans HL6.out (Nat.le_refl _) l7)
      have HI7 := Lib.hid (HI6.out.below l7)
      clear l7
      go_wp2_with fail
      have hr := right_any w7 sa n sc (serialL l O) HS7.out (serial_ok HOK.out O) (by omega)
      rw [HSG.out] at hr
      refine hr.mono ?_
      rintro e w8 ⟨rfl, l8⟩
      have HS8 := Lib.hid (HS7.out.below l8)
      have HL8 := Lib.hid (btrans HL7.out (Nat.le_refl _) l8)
      have HI8 := Lib.hid (HI7.out.below l8)
      clear l8 hr
      go_wp2_with fail
      have hr := attempts_any w8 sa n sc (serialL l O) HS8.out hn6
      rw [HSA.out] at hr
      refine hr.mono ?_
      rintro e w9 ⟨v9, rfl, hV9, l9⟩
      obtain ⟨ua, uc, rfl, hU9⟩ := hV9.open
      have HU9 := Lib.hid hU9
      have HL9 := Lib.hid (btrans HL8.out (Nat.le_refl _) l9)
      have HI9 := Lib.hid (HI8.out.below l9)
      rw [HI8.out.1] at HU9
      simp only [HI8.out.1]
      clear l9 hr hV9 hU9
      go_wp2_with fail
      refine (sameInts_any w9 ua a1 N uc _ O HU9.out HI9.out (by omega)).mono ?_
      rintro e w10 ⟨rfl, l10⟩
      have HL10 := Lib.hid (btrans HL9.out (Nat.le_refl _) l10)
      clear l10
      go_wp2_with fail
      go_ret
      exact ⟨rfl, HL10.out⟩
  | true =>
    have hN2 : IntKind.i64.wrap ((N : Int) - 1) = (N : Int) - 1 := by rw [IntKind.wrap_i64]; omega
    go_wp2_with fail
    go_loopw [6, 7] (fun v i wr => ∃ k : Nat, i = .int .i64 ((k : Int) - 1) ∧ k ≤ N ∧ wr.ownsRow w1.heap.size 3 1 v (N - k) (((attL l).reverse.take (N - k)).map fun t => Value.int .i64 t) ∧ Below w1.heap.size w1 wr) (fun _ i _ => (intOf i + 1).toNat)
    case atStart => exact ⟨N, rfl, Nat.le_refl _, by rw [Nat.sub_self]; exact World.ownsRow_nil _ _ _ _, Below.refl _ _⟩
    case round =>
      obtain ⟨k, rfl, hk, hV, hB⟩ := hrel
      have HV := Lib.hid hV; have HB := Lib.hid hB
      have hszr := hB.size
      clear hV hB
      cases k with
      | succ k =>
        obtain ⟨g, off, rfl, hc⟩ := HI1.out.2.resolve_left (by omega)
        have c0 := bkeep HB.out (hc k (by omega))
        obtain ⟨t, ht⟩ : ∃ t, (attL l).getD k 0 = t := ⟨_, rfl⟩
        have hS := rev_snoc (attL l) (k := k) (by rw [HN.out]; omega)
        rw [ht] at c0 hS
        rw [HN.out] at hS
        have HS := Lib.hid hS
        have hk1 : ((k + 1 : Nat) : Int) - 1 = (k : Int) := by omega
        have hkN : (k : Int) < N := by omega
        have hw1 : IntKind.i64.wrap ((k : Int) - 1) = (k : Int) - 1 := by rw [IntKind.wrap_i64]; omega
        rw [hk1]
        clear hc ht hS hk1
        go_wp2_with (at_builtin; refine wpList_append_own _ rfl _ _ 24 rfl w1.heap.size 3 i0 (.int .i64 0) 1 8 Try.underlying24 hi hz0 hz1 hz2 rfl (by decide) _ (N - (k + 1)) (((attL l).reverse.take (N - (k + 1))).map fun t => Value.int .i64 t) rfl (ownsRow_only HV.out (Only.empty (show Below wr.heap.size wr (wr.alloc (.cells #[.int .i64 t] 3)) from by repeat (first | (with_reducible exact Below.refl _ _) | (with_reducible apply Below.drew) | (with_reducible refine below_drewN ?_ _) | (with_reducible refine below_alloc' ?_ ?_ _; (focus ((try simp) <;> omega))) | (with_reducible refine below_set' ?_ ?_ _; (focus ((try simp) <;> omega))))) (Nat.le_refl _)) (fun _ _ h => h)) ⟨wr.heap.size, 0, none⟩ 1 1 [.int .i64 t] rfl rfl ?c1 ?c2 ?c3 ?c4 ?c5 ?_)
        case c1 =>
          intro j u hu
          rw [Addr.add_lit, Nat.zero_add, blk_cell (blk_new wr _) j]
          simpa using hu
        case c2 =>
          intro u hu
          simp at hu
          subst hu
          rfl
        case c3 => unfold maxLen; omega
        case c4 => omega
        case c5 => simp; omega
        intro v' w2 hown hgr _
        have hB2 : Below w1.heap.size w1 w2 := (HB.out.alloc hszr _).grown hgr (by simp; omega) (fun k hk => (World.ownsRow.lt HV.out k hk).1)
        have HB2 := Lib.hid hB2
        have HP2 := Lib.hid (show w2.ownsRow w1.heap.size 3 1 v' (N - k) (((attL l).reverse.take (N - k)).map fun t => Value.int .i64 t) from by
          rw [HS.out, List.map_append, show N - k = N - (k + 1) + 1 by omega]
          simpa using hown)
        clear hown hgr hB2
        go_wp2_with fail
        exact ⟨⟨k, by go_num, by omega, HP2.out, HB2.out⟩, by simp [intOf] <;> omega⟩
      | zero =>
        have hv := HV.out
        rw [Nat.sub_zero, List.take_of_length_le (by rw [List.length_reverse, HN.out]; exact Nat.le_refl _)] at hv
        obtain ⟨a2, c2, rfl, hI2⟩ := intsAt_len hv (by rw [List.length_reverse, HN.out])
        have HI2 := Lib.hid hI2
        have HLW := Lib.hid (btrans HL1.out (Nat.le_refl _) HB.out)
        clear hv hI2 HV
        go_wp2_with fail
        have HEW := Lib.hid (HE0.out.below HLW.out)
        obtain ⟨O, hO⟩ : ∃ O, (attL l).reverse = O := ⟨_, rfl⟩
        rw [hO] at HI2
        have HND := Lib.hid (show O.Nodup by rw [← hO]; exact (List.reverse_perm (attL l)).nodup_iff.2 (attL_nodup l))
        have HMM := Lib.hid (show ∀ t ∈ O, t ∈ attL l by intro t ht; rw [← hO] at ht; exact List.mem_reverse.1 ht)
        have HSU := Lib.hid (show ∀ x ∈ l, His.Good l → x.a ∈ O from fun x hx hg => by rw [← hO]; first | exact good_in hg hx | exact List.mem_reverse.2 (good_in hg hx))
        clear hO
        refine (serial_any wr a n cap l HEW.out (by omega) a2 N _ O HI2.out (by omega)).mono ?_
        rintro e w3 ⟨v3, rfl, hV3, l3⟩
        obtain ⟨sa, sc, rfl, hS3⟩ := hV3.open
        have HS3 := Lib.hid hS3
        have HL3 := Lib.hid (btrans HLW.out (Nat.le_refl _) l3)
        have HI3 := Lib.hid (HI2.out.below l3)
        have HE3 := Lib.hid (HEW.out.below l3)
        have hsl := serialL_le l O
        rw [HE0.out.1, HI2.out.1] at hsl
        have hsl2 : (serialL l O).length ≤ 1000000 := Nat.le_trans hsl (Nat.le_trans (Nat.mul_le_mul hal hm50) (by omega))
        have HSL := Lib.hid hsl2
        clear hV3 hS3 l3 hsl hsl2
        go_wp2_with fail
        refine (rserial_any w3 a n cap l HE3.out (by omega) a2 N _ O HI3.out (by omega)).mono ?_
        rintro e w4 ⟨v4, rfl, hV4, l4⟩
        obtain ⟨ta, tc, rfl, hS4⟩ := hV4.open
        have HT4 := Lib.hid hS4
        have HS4 := Lib.hid (HS3.out.below l4)
        have HL4 := Lib.hid (btrans HL3.out (Nat.le_refl _) l4)
        have HI4 := Lib.hid (HI3.out.below l4)
        have HE4 := Lib.hid (HE3.out.below l4)
        clear hV4 hS4 l4
        go_wp2_with fail
        refine (rsame_any w4 sa ta _ sc tc (serialL l O) HS4.out HT4.out HSL.out).mono ?_
        rintro e w5 ⟨rfl, l5⟩
        have HS5 := Lib.hid (HS4.out.below l5)
        have HL5 := Lib.hid (btrans HL4.out (Nat.le_refl _) l5)
        have HI5 := Lib.hid (HI4.out.below l5)
        have HE5 := Lib.hid (HE4.out.below l5)
        clear l5
        go_wp2_with fail
        refine (right_any w5 a n cap l HE5.out HOK.out (by omega)).mono ?_
        rintro e w6 ⟨rfl, l6⟩
        have HS6 := Lib.hid (HS5.out.below l6)
        have HL6 := Lib.hid (btrans HL5.out (Nat.le_refl _) l6)
        have HI6 := Lib.hid (HI5.out.below l6)
        clear l6
        cases hg : goodL l with
        | false =>
          clear hg
          go_wp2_with fail
          refine (live_any _).mono ?_
          rintro e w7 ⟨rfl, l7⟩
          have HL7 := Lib.hid (btrans HL6.out (Nat.le_refl _) l7)
          clear l7
          go_wp2_with fail
          go_ret
          exact ⟨rfl, HL7.out⟩
        | true =>
          have hg2 := (goodL_iff l).1 hg
          have hlen : (serialL l O).length = n := by rw [serial_len O l HND.out (fun x hx => HSU.out x hx hg2), HE0.out.1]
          have HSG := Lib.hid ((goodL_iff _).2 (serial_good hg2 HND.out))
          have HSA := Lib.hid (serial_att HND.out HMM.out)
          rw [hlen] at HS6 ⊢
          clear hg hg2 hlen HSL
          go_wp2_with fail
          refine (live_any _).mono ?_
          rintro e w7 ⟨rfl, l7⟩
          have HS7 := Lib.hid (HS6.out.below l7)
          have HL7 := Lib.hid (btrans HL6.out (Nat.le_refl _) l7)
          have HI7 := Lib.hid (HI6.out.below l7)
          clear l7
          go_wp2_with fail
          have hr := right_any w7 sa n sc (serialL l O) HS7.out (serial_ok HOK.out O) (by omega)
          rw [HSG.out] at hr
          refine hr.mono ?_
          rintro e w8 ⟨rfl, l8⟩
          have HS8 := Lib.hid (HS7.out.below l8)
          have HL8 := Lib.hid (btrans HL7.out (Nat.le_refl _) l8)
          have HI8 := Lib.hid (HI7.out.below l8)
          clear l8 hr
          go_wp2_with fail
          have hr := attempts_any w8 sa n sc (serialL l O) HS8.out hn6
          rw [HSA.out] at hr
          refine hr.mono ?_
          rintro e w9 ⟨v9, rfl, hV9, l9⟩
          obtain ⟨ua, uc, rfl, hU9⟩ := hV9.open
          have HU9 := Lib.hid hU9
          have HL9 := Lib.hid (btrans HL8.out (Nat.le_refl _) l9)
          have HI9 := Lib.hid (HI8.out.below l9)
          rw [HI8.out.1] at HU9
          simp only [HI8.out.1]
          clear l9 hr hV9 hU9
          go_wp2_with fail
          refine (sameInts_any w9 ua a2 N uc _ O HU9.out HI9.out (by omega)).mono ?_
          rintro e w10 ⟨rfl, l10⟩
          have HL10 := Lib.hid (btrans HL9.out (Nat.le_refl _) l10)
          clear l10
          go_wp2_with fail
          go_ret
          exact ⟨rfl, HL10.out⟩
end Go.Proofs.Ytganmdbhmihjpaa.Opa
