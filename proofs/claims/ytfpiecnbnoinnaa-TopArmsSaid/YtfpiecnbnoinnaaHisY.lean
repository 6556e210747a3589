/- Each attempt of right events is in just one state; what ended stays so. -/
import Derived.Test.YtfpiecnbnoinnaaHisV
import Derived.Test.YtfpiecnbnoinnaaHisX
namespace Go.Proofs.Ytfpiecnbnoinnaa.His
open Go.RowKit Go.Proofs.Ytfpiecnbnoinnaa.Wri Go.ChangeShapes Go.WideShapes Go.ChangeAt
set_option linter.unusedSimpArgs false
set_option linter.unusedVariables false
set_option maxRecDepth 50000

theorem EvsIn.take {w : World} {p : Option Addr} {n : Nat} {l : List Ev} (h : EvsIn w p n l) {k : Nat} (hk : k ≤ n) : EvsIn w p k (l.take k) := by
  refine ⟨by rw [List.length_take, h.1]; omega, ?_⟩
  by_cases h0 : k = 0
  · exact .inl h0
  · obtain ⟨b, off, e, hc⟩ := h.2.resolve_left (by omega)
    refine .inr ⟨b, off, e, fun i hi => ?_⟩
    obtain ⟨x, hx, c⟩ := hc i (by omega)
    exact ⟨x, by rw [List.getElem?_take, if_pos hi]; exact hx, c⟩
theorem in_len (w : World) (p : Option Addr) (n c : Nat) (l : List Ev) (h : EvsIn w p n l) (hn : n ≤ 1000000) (s : Int) :
    Calls Try.prog 22 #[.slice p n c, .int .u8 s] w fun e w' => ∃ a c', e = .returned (.slice a (inL l s).length c') ∧ Below w.heap.size w w' := by
  refine (in_any w p n c l h hn s).mono ?_
  rintro e w' ⟨v, rfl, hv, hl⟩
  obtain ⟨a, c', rfl, _⟩ := IntsAt.open hv
  exact ⟨a, c', rfl, hl⟩
set_option maxHeartbeats 6400000 in
theorem states_law {H : Type} (enc : TypeId × Value → H) (w : World) (a : Option Addr) (len cap : Nat) (h : Fits enc Try.prog w 22 [.slice a len cap]) (x0 : Int) (hx0 : (Lit.int .u8 x0).wf = true) :
    Calls Try.prog 6 #[.slice a len cap, .int .u8 x0] w fun e w' => e = .returned (.bool true) ∧ Below w.heap.size w w' := by
  have hb := bounds_u8 hx0
  have hcap := fits_cap h Try.underlying22
  obtain ⟨l, hl, hok, hfew⟩ := evs_of h
  have hm60 : min len 60 ≤ 60 := Nat.min_le_right _ _
  have hmc : min len 60 ≤ cap := Nat.le_trans (Nat.min_le_left _ _) hcap
  obtain ⟨n, hn⟩ : ∃ n, min len 60 = n := ⟨_, rfl⟩
  rw [hn] at hl hfew hm60 hmc
  have HF := Lib.hid (hfew w)
  have LL0 := Lib.hid (Below.refl w.heap.size w)
  have HE0 := Lib.hid hl
  have hn6 : n ≤ 1000000 := by omega
  have HR := Lib.hid (right_any w a n cap l hl hok (by omega))
  clear h hx0 hok hfew hn hl hcap
  cases hg : goodL l with
  | false =>
    have HR2 := HR.out
    rw [hg] at HR2
    have HR3 := Lib.hid HR2
    clear HR2 HR hg
    go_enter Try.func6, Try.ntmps6
    go_wp2_with fail
    refine HF.out.mono ?_
    rintro e w0 ⟨rfl, rfl⟩
    go_wp2_with fail
    refine HR3.out.mono ?_
    rintro e w1 ⟨rfl, l1⟩
    have HE1 := Lib.hid (HE0.out.below l1)
    have LL1 := Lib.hid (btrans LL0.out (Nat.le_refl _) l1)
    clear l1
    go_wp2_with fail
    refine (live_any _).mono ?_; rintro e w2 ⟨rfl, l2⟩; have HE2 := Lib.hid (HE1.out.below l2); have LL2 := Lib.hid (btrans LL1.out (Nat.le_refl _) l2); clear l2; go_wp2_with fail
    go_ret
    exact ⟨rfl, LL2.out⟩
  | true =>
    have HR2 := HR.out
    rw [hg] at HR2
    have HR3 := Lib.hid HR2
    have HG := Lib.hid ((goodL_iff l).1 hg)
    clear HR2 HR hg
    go_enter Try.func6, Try.ntmps6
    go_wp2_with fail
    refine HF.out.mono ?_
    rintro e w0 ⟨rfl, rfl⟩
    go_wp2_with fail
    refine HR3.out.mono ?_
    rintro e w1 ⟨rfl, l1⟩
    have HE1 := Lib.hid (HE0.out.below l1)
    have LL1 := Lib.hid (btrans LL0.out (Nat.le_refl _) l1)
    clear l1
    go_wp2_with fail
    refine (attempts_any _ a n cap l HE1.out hn6).mono ?_
    rintro e w2 ⟨v, rfl, hv, l2⟩
    obtain ⟨va, vc, rfl, hin⟩ := IntsAt.open hv
    have HE2 := Lib.hid (HE1.out.below l2)
    have LL2 := Lib.hid (btrans LL1.out (Nat.le_refl _) l2)
    have HIN := Lib.hid hin
    have LA2 := Lib.hid (Below.refl w2.heap.size w2)
    obtain ⟨m, hm⟩ : ∃ m, (attL l).length = m := ⟨_, rfl⟩
    have HM := Lib.hid hm
    have hmn : m ≤ n := by
      have h2 := attL_len l []
      simp at h2
      have := HE0.out.1
      unfold attL at hm
      omega
    rw [hm] at HIN ⊢
    clear hv hin hm l2
    go_wp2_with fail
    refine (in_len _ a n cap l HE2.out hn6 1).mono ?_; rintro e w3 ⟨va3, vc3, rfl, l3⟩; have HE3 := Lib.hid (HE2.out.below l3); have LL3 := Lib.hid (btrans LL2.out (Nat.le_refl _) l3); have LA3 := Lib.hid (btrans LA2.out (Nat.le_refl _) l3); clear l3; go_wp2_with fail
    refine (in_len _ a n cap l HE3.out hn6 2).mono ?_; rintro e w4 ⟨va4, vc4, rfl, l4⟩; have HE4 := Lib.hid (HE3.out.below l4); have LL4 := Lib.hid (btrans LL3.out (Nat.le_refl _) l4); have LA4 := Lib.hid (btrans LA3.out (Nat.le_refl _) l4); clear l4; go_wp2_with fail
    refine (in_len _ a n cap l HE4.out hn6 3).mono ?_; rintro e w5 ⟨va5, vc5, rfl, l5⟩; have HE5 := Lib.hid (HE4.out.below l5); have LL5 := Lib.hid (btrans LL4.out (Nat.le_refl _) l5); have LA5 := Lib.hid (btrans LA4.out (Nat.le_refl _) l5); clear l5; go_wp2_with fail
    refine (in_len _ a n cap l HE5.out hn6 4).mono ?_; rintro e w6 ⟨va6, vc6, rfl, l6⟩; have HE6 := Lib.hid (HE5.out.below l6); have LL6 := Lib.hid (btrans LL5.out (Nat.le_refl _) l6); have LA6 := Lib.hid (btrans LA5.out (Nat.le_refl _) l6); clear l6; go_wp2_with fail
    obtain ⟨kk, hkk, hkn⟩ : ∃ kk : Nat, x0 % ((n : Int) + 1) = kk ∧ kk ≤ n := ⟨(x0 % ((n : Int) + 1)).toNat, by
      have h1 := Int.emod_nonneg x0 (show ((n : Int) + 1) ≠ 0 by omega)
      omega, by
      have h1 := Int.emod_nonneg x0 (show ((n : Int) + 1) ≠ 0 by omega)
      have h2 := Int.emod_lt_of_pos x0 (show 0 < ((n : Int) + 1) by omega)
      omega⟩
    have hsum : wrap64 (wrap64 (wrap64 (((inL l 1).length : Int) + ((inL l 2).length : Int)) + ((inL l 3).length : Int)) + ((inL l 4).length : Int)) = (m : Int) := by
      have hw : ∀ x : Int, 0 ≤ x → x ≤ 1000 → wrap64 x = x := fun x h1 h2 => by unfold wrap64; omega
      have hs := states_sum (stateL l) (attL l) (fun t ht => stateL_range ht)
      have hmm := HM.out
      have e1 : (inL l 1).length = ((attL l).filter fun n => stateL l n == 1).length := rfl
      have e2 : (inL l 2).length = ((attL l).filter fun n => stateL l n == 2).length := rfl
      have e3 : (inL l 3).length = ((attL l).filter fun n => stateL l n == 3).length := rfl
      have e4 : (inL l 4).length = ((attL l).filter fun n => stateL l n == 4).length := rfl
      rw [hw (((inL l 1).length : Int) + ((inL l 2).length : Int)) (by omega) (by omega), hw (((inL l 1).length : Int) + ((inL l 2).length : Int) + ((inL l 3).length : Int)) (by omega) (by omega), hw (((inL l 1).length : Int) + ((inL l 2).length : Int) + ((inL l 3).length : Int) + ((inL l 4).length : Int)) (by omega) (by omega)]
      omega
    rw [hkk, hsum]
    have HST := Lib.hid (fun t => state_stays (HG.out.done) kk t)
    clear hkk hsum
    go_loopw [8] (fun i wr => ∃ i0 : Nat, i = .int .i64 i0 ∧ i0 ≤ m ∧ Below w2.heap.size w2 wr ∧ Below w.heap.size w wr) (fun i _ => m - (intOf i).toNat)
    case atStart => exact ⟨0, rfl, Nat.zero_le _, LA6.out, LL6.out⟩
    case round =>
      obtain ⟨i0, rfl, hi0, hA, hB⟩ := hrel
      have HA := Lib.hid hA; have HB := Lib.hid hB
      clear hA hB
      by_cases hlt : i0 < m
      · obtain ⟨g, off, rfl, hc⟩ := HIN.out.2.resolve_left (by omega)
        have c0 := bkeep HA.out.drew (hc i0 hlt)
        have HEr := Lib.hid (show EvsIn wr.drew a n l from HE0.out.below HB.out.drew)
        obtain ⟨gl, offl, rfl, _⟩ := HE0.out.2.resolve_left (by omega)
        have HEk := Lib.hid (HEr.out.take hkn)
        obtain ⟨t, ht⟩ : ∃ t, (attL l).getD i0 0 = t := ⟨_, rfl⟩
        rw [ht] at c0
        have hkc : (kk : Int) ≤ cap := by omega
        have hw1 : IntKind.i64.wrap ((i0 : Int) + 1) = (i0 : Int) + 1 := by rw [IntKind.wrap_i64]; omega
        have hstk := state_any wr.drew (some ⟨gl, offl, none⟩) kk cap (l.take kk) HEk.out (by omega) t
        have HSTt := Lib.hid (HST.out t)
        obtain ⟨s, hs⟩ : ∃ s, stateL (l.take kk) t = s := ⟨_, rfl⟩
        rw [hs] at hstk HSTt
        have HSK := Lib.hid hstk
        clear hc ht hstk hs
        go_wp2_with fail
        go_region_held3 (fun w' => w'.cell? ⟨g, off + i0, none⟩ = some (.int .i64 t)) (first | (with_reducible exact c0) | (with_reducible exact Q1)) ((go_at_call 13; (with_reducible refine Calls.mono HSK.out ?_); rintro e w7 ⟨rfl, l7⟩; have Q1 := bkeep l7 c0))
        have HEq := Lib.hid (HEr.out.below l7)
        have HA7 := Lib.hid (btrans HA.out.drew (Nat.le_refl _) l7)
        have HB7 := Lib.hid (btrans HB.out.drew (Nat.le_refl _) l7)
        have c7 := bkeep l7 c0
        clear l7 Q1 c0
        cases e3 : (s == 3)
        · cases e4 : (s == 4)
          · go_wp2_with fail
            exact ⟨⟨i0 + 1, by go_num, by omega, HA7.out, HB7.out⟩, by simp [intOf]; omega⟩
          · have hfull := HSTt.out (.inr (by simpa using e4))
            have hst := state_any w7 (some ⟨gl, offl, none⟩) n cap l HEq.out hn6 t
            rw [hfull] at hst
            have HSF := Lib.hid hst
            clear hst hfull
            go_wp2_with fail
            refine HSF.out.mono ?_
            rintro e w8 ⟨rfl, l8⟩
            have HA8 := Lib.hid (btrans HA7.out (Nat.le_refl _) l8)
            have HB8 := Lib.hid (btrans HB7.out (Nat.le_refl _) l8)
            clear l8
            go_wp2_with fail
            exact ⟨⟨i0 + 1, by go_num, by omega, HA8.out, HB8.out⟩, by simp [intOf]; omega⟩
        · have hfull := HSTt.out (.inl (by simpa using e3))
          have hst := state_any w7 (some ⟨gl, offl, none⟩) n cap l HEq.out hn6 t
          rw [hfull] at hst
          have HSF := Lib.hid hst
          clear hst hfull
          go_wp2_with fail
          refine HSF.out.mono ?_
          rintro e w8 ⟨rfl, l8⟩
          have HA8 := Lib.hid (btrans HA7.out (Nat.le_refl _) l8)
          have HB8 := Lib.hid (btrans HB7.out (Nat.le_refl _) l8)
          clear l8
          go_wp2_with fail
          exact ⟨⟨i0 + 1, by go_num, by omega, HA8.out, HB8.out⟩, by simp [intOf]; omega⟩
      · obtain rfl : i0 = m := by omega
        have HE7 := Lib.hid (HE0.out.below HB.out)
        go_wp2_with fail
        refine (live_any _).mono ?_
        rintro e w8 ⟨rfl, l8⟩
        have L8 := Lib.hid (btrans HB.out (Nat.le_refl _) l8)
        clear l8
        go_wp2_with fail
        go_ret
        exact ⟨rfl, L8.out⟩
end Go.Proofs.Ytfpiecnbnoinnaa.His
