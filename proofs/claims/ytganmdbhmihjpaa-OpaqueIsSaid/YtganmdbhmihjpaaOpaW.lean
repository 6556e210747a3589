/- What is found is legal; where nothing is found, no order is. -/
import Derived.Test.YtganmdbhmihjpaaOpaT
import Derived.Test.YtganmdbhmihjpaaOpaV
namespace Go.Proofs.Ytganmdbhmihjpaa.Opa
open Go.RowKit Go.Proofs.Ytganmdbhmihjpaa.Wri Go.Proofs.Ytganmdbhmihjpaa.His Go.ChangeShapes Go.WideShapes Go.ChangeAt
set_option linter.unusedSimpArgs false
set_option linter.unusedVariables false
set_option maxRecDepth 50000

theorem intsAt_cap {B : Nat} {w : World} {v : Value} {ts : List Int} (h : IntsAt B w v ts) : ∃ a c, v = .slice a ts.length c ∧ ts.length ≤ c ∧ IntsIn w a ts.length ts := by
  obtain ⟨a, c, rfl, hi⟩ := h.open
  refine ⟨a, c, rfl, ?_, hi⟩
  rcases h.2 with ⟨e, h0⟩ | ⟨g, cap, cur, e, _, _, hn, _⟩
  · rw [h0]; exact Nat.zero_le _
  · injection e with _ _ e
    rw [e]; exact hn
set_option maxHeartbeats 12800000 in
theorem is_law {H : Type} (enc : TypeId × Value → H) (w : World) (a : Option Addr) (len cap : Nat) (h : Fits enc Try.prog w 22 [.slice a len cap]) (a1 : Option Addr) (len1 cap1 : Nat) (h1 : Fits enc Try.prog w 23 [.slice a1 len1 cap1])
    (a2 : Option Addr) (len2 cap2 : Nat) (h2 : Fits enc Try.prog w 24 [.slice a2 len2 cap2]) :
    Calls Try.prog 3 #[.slice a len cap, .slice a1 len1 cap1, .slice a2 len2 cap2] w fun e w' => e = .returned (.bool true) ∧ Below w.heap.size w w' := by
  obtain ⟨l, hl, hok, hfew⟩ := evs_of h
  obtain ⟨vs, hvs, hu, hm1, hhp⟩ := vals_of h1
  obtain ⟨C, hC, hm2⟩ := ints_of h2
  have hcap := (fits_cap h Try.underlying22).1
  have hz1 := (fits_cap h1 Try.underlying23).2
  have hd2 := (fits_cap h2 Try.underlying24).1
  have hm50 : min len 50 ≤ 50 := Nat.min_le_right _ _
  have hmc : min len 50 ≤ cap := Nat.le_trans (Nat.min_le_left _ _) hcap
  have hm13 : min len1 13 ≤ 13 := Nat.min_le_right _ _
  have hv13 := vals_take hvs (Nat.min_le_left len1 13)
  have hu13 : ∀ v ∈ vs.take (min len1 13), U64 v := fun v hv => hu v (List.mem_of_mem_take hv)
  have hz13 : a1 = none → min len1 13 = 0 ∧ cap1 = 0 := fun e => ⟨by rw [(hz1 e).1]; rfl, (hz1 e).2⟩
  obtain ⟨us, hus⟩ : ∃ us, vs.take (min len1 13) = us := ⟨_, rfl⟩
  obtain ⟨n, hn⟩ : ∃ n, min len 50 = n := ⟨_, rfl⟩
  obtain ⟨m, hm⟩ : ∃ m, min len1 13 = m := ⟨_, rfl⟩
  rw [hn] at hl hfew hm50 hmc
  rw [hus, hm] at hv13
  rw [hus] at hu13
  rw [hm] at hm13 hz13 hhp
  have HF := Lib.hid (hfew w); have HP := Lib.hid (hhp w)
  have hAA : ∀ (M : Nat) (L : List Ev), EvsIn w a M L → EvsOk L → M ≤ 400 → Asked w a M cap L a1 m cap1 us a2 len2 cap2 C := fun M L h1 h2 h3 =>
    ⟨h1, h2, h3, hv13, hu13, by omega, hz13, hC, hm2, hd2⟩
  by_cases h30 : 30 < n
  · have HA := Lib.hid (hAA 30 (l.take 30) (evsIn_take hl (by omega)) (fun x hx => hok x (List.mem_of_mem_take hx)) (by omega))
    have h30' : (30 : Int) < n := by omega
    have h30c : (30 : Int) ≤ cap := by omega
    obtain ⟨L, hL⟩ : ∃ L, l.take 30 = L := ⟨_, rfl⟩
    rw [hL] at HA
    clear h h1 h2 hl hok hfew hvs hu hm1 hhp hC hm2 hcap hz1 hd2 hm50 hm13 hv13 hu13 hz13 hus hn hm hAA hL
    go_enter Try.func3, Try.ntmps3
    go_wp2_with fail
    refine HF.out.mono ?_
    rintro e w0 ⟨rfl, rfl⟩
    go_wp2_with fail
    refine HP.out.mono ?_
    rintro e w0 ⟨rfl, rfl⟩
    cases a with
    | none =>
      have := HA.out.evs.2
      rcases this with this | ⟨b, off, e, _⟩
      · cases this
      · cases e
    | some pa =>
      obtain ⟨b, off, e, _⟩ := HA.out.evs.2.resolve_left (by decide)
      injection e with e
      subst e
      go_wp2_with fail
      have HFO := Lib.hid (found_any HA.out)
      obtain ⟨R, hR⟩ : ∃ R, foundL L us C = R := ⟨_, rfl⟩
      rw [hR] at HFO
      obtain ⟨e0, o⟩ := R
      have HR := Lib.hid hR
      clear hR HF HP
      refine HFO.out.mono ?_
      rintro e w1 ⟨l1, ao, co, rfl, hco, hio⟩
      have HL1 := Lib.hid l1
      have HA1 := Lib.hid (HA.out.below l1)
      have HO1 := Lib.hid hio
      have HCO := Lib.hid hco
      clear l1 hio hco HFO
      go_wp2_with fail
      refine (attempts_any w1 _ _ cap L HA1.out.evs (by have := HA1.out.hn; omega)).mono ?_
      rintro e w2 ⟨v2, rfl, hv2, l2⟩
      obtain ⟨a3, c3, rfl, hc3, hi3⟩ := intsAt_cap hv2
      have HL2 := Lib.hid (btrans HL1.out (Nat.le_refl _) l2)
      have HA2 := Lib.hid (HA1.out.below l2)
      have HO2 := Lib.hid (HO1.out.below l2)
      have HN := Lib.hid (show (attL L).length ≤ 1000 by have := attL_le L; rw [HA2.out.evs.1] at this; have := HA2.out.hn; omega)
      have HLE := Lib.hid (legal_any HA2.out a3 _ c3 (attL L) hi3 HN.out hc3)
      obtain ⟨N, hN⟩ : ∃ N, (attL L).length = N := ⟨_, rfl⟩
      have HNN := Lib.hid hN
      rw [hN] at HLE ⊢
      clear hv2 l2 hi3 hc3 hN
      go_wp2_with fail
      refine HLE.out.mono ?_
      rintro e w3 ⟨rfl, l3⟩
      have HL3 := Lib.hid (btrans HL2.out (Nat.le_refl _) l3)
      have HA3 := Lib.hid (HA2.out.below l3)
      have HO3 := Lib.hid (HO2.out.below l3)
      clear l3 HLE
      by_cases he : e0 = 0
      · subst he
        have hfl := found_legal HR.out
        have HLG := Lib.hid (legal_any HA3.out ao _ co o HO3.out (by have := HN.out; rw [hfl.2.2]; exact this) HCO.out)
        have HFL := Lib.hid hfl
        clear hfl
        go_wp2_with fail
        refine HLG.out.mono ?_
        rintro e w4 ⟨rfl, l4⟩
        rw [HFL.out.1, HFL.out.2.1]
        have HL4 := Lib.hid (btrans HL3.out (Nat.le_refl _) l4)
        clear l4
        go_wp2_with fail
        refine (live_any _).mono ?_
        rintro e w5 ⟨rfl, l5⟩
        have HL5 := Lib.hid (btrans HL4.out (Nat.le_refl _) l5)
        clear l5
        go_wp2_with fail
        go_ret
        exact ⟨rfl, HL5.out⟩
      · obtain ⟨ho, h4, h5⟩ := found_none HR.out he
        subst ho
        obtain ⟨g, hg⟩ : ∃ g, (legalL L us (attL L) C).2.1 = g := ⟨_, rfl⟩
        obtain ⟨i, hi⟩ : ∃ i, (legalL L us (attL L) C).1 = i := ⟨_, rfl⟩
        rw [hg] at h4 h5 ⊢
        rw [hi] at h5 ⊢
        have heq : (e0 == 0) = false := by simpa using he
        clear hg hi HO1 HO2 HO3 HCO
        simp only [List.length_nil]
        by_cases hg0 : g = 0
        · have he4 : e0 = 4 := h4.resolve_left (fun h => h hg0)
          have hi0 : i = 0 := h5.resolve_left (fun h => h hg0)
          subst he4 hi0 hg0
          clear h4 h5 he heq
          go_wp2_with fail
          refine (live_any _).mono ?_
          rintro e w5 ⟨rfl, l5⟩
          have HL5 := Lib.hid (btrans HL3.out (Nat.le_refl _) l5)
          clear l5
          go_wp2_with fail
          go_ret
          exact ⟨rfl, HL5.out⟩
        · have hg1 : (g != 0) = true := by simpa using hg0
          have hg2 : (g == 0) = false := by simpa using hg0
          clear h4 h5
          go_wp2_with fail
          refine (live_any _).mono ?_
          rintro e w5 ⟨rfl, l5⟩
          have HL5 := Lib.hid (btrans HL3.out (Nat.le_refl _) l5)
          clear l5
          go_wp2_with fail
          go_ret
          exact ⟨rfl, HL5.out⟩
  · have HA := Lib.hid (hAA n l hl hok (by omega))
    have h30' : ¬ (30 : Int) < n := by omega
    clear h h1 h2 hl hok hfew hvs hu hm1 hhp hC hm2 hcap hz1 hd2 hm50 hm13 hv13 hu13 hz13 hus hn hm hAA
    go_enter Try.func3, Try.ntmps3
    go_wp2_with fail
    refine HF.out.mono ?_
    rintro e w0 ⟨rfl, rfl⟩
    go_wp2_with fail
    refine HP.out.mono ?_
    rintro e w0 ⟨rfl, rfl⟩
    go_wp2_with fail
    have HFO := Lib.hid (found_any HA.out)
    obtain ⟨R, hR⟩ : ∃ R, foundL l us C = R := ⟨_, rfl⟩
    rw [hR] at HFO
    obtain ⟨e0, o⟩ := R
    have HR := Lib.hid hR
    clear hR HF HP
    refine HFO.out.mono ?_
    rintro e w1 ⟨l1, ao, co, rfl, hco, hio⟩
    have HL1 := Lib.hid l1
    have HA1 := Lib.hid (HA.out.below l1)
    have HO1 := Lib.hid hio
    have HCO := Lib.hid hco
    clear l1 hio hco HFO
    go_wp2_with fail
    refine (attempts_any w1 _ _ cap l HA1.out.evs (by have := HA1.out.hn; omega)).mono ?_
    rintro e w2 ⟨v2, rfl, hv2, l2⟩
    obtain ⟨a3, c3, rfl, hc3, hi3⟩ := intsAt_cap hv2
    have HL2 := Lib.hid (btrans HL1.out (Nat.le_refl _) l2)
    have HA2 := Lib.hid (HA1.out.below l2)
    have HO2 := Lib.hid (HO1.out.below l2)
    have HN := Lib.hid (show (attL l).length ≤ 1000 by have := attL_le l; rw [HA2.out.evs.1] at this; have := HA2.out.hn; omega)
    have HLE := Lib.hid (legal_any HA2.out a3 _ c3 (attL l) hi3 HN.out hc3)
    obtain ⟨N, hN⟩ : ∃ N, (attL l).length = N := ⟨_, rfl⟩
    have HNN := Lib.hid hN
    rw [hN] at HLE ⊢
    clear hv2 l2 hi3 hc3 hN
    go_wp2_with fail
    refine HLE.out.mono ?_
    rintro e w3 ⟨rfl, l3⟩
    have HL3 := Lib.hid (btrans HL2.out (Nat.le_refl _) l3)
    have HA3 := Lib.hid (HA2.out.below l3)
    have HO3 := Lib.hid (HO2.out.below l3)
    clear l3 HLE
    by_cases he : e0 = 0
    · subst he
      have hfl := found_legal HR.out
      have HLG := Lib.hid (legal_any HA3.out ao _ co o HO3.out (by have := HN.out; rw [hfl.2.2]; exact this) HCO.out)
      have HFL := Lib.hid hfl
      clear hfl
      go_wp2_with fail
      refine HLG.out.mono ?_
      rintro e w4 ⟨rfl, l4⟩
      rw [HFL.out.1, HFL.out.2.1]
      have HL4 := Lib.hid (btrans HL3.out (Nat.le_refl _) l4)
      clear l4
      go_wp2_with fail
      refine (live_any _).mono ?_
      rintro e w5 ⟨rfl, l5⟩
      have HL5 := Lib.hid (btrans HL4.out (Nat.le_refl _) l5)
      clear l5
      go_wp2_with fail
      go_ret
      exact ⟨rfl, HL5.out⟩
    · obtain ⟨ho, h4, h5⟩ := found_none HR.out he
      subst ho
      obtain ⟨g, hg⟩ : ∃ g, (legalL l us (attL l) C).2.1 = g := ⟨_, rfl⟩
      obtain ⟨i, hi⟩ : ∃ i, (legalL l us (attL l) C).1 = i := ⟨_, rfl⟩
      rw [hg] at h4 h5 ⊢
      rw [hi] at h5 ⊢
      have heq : (e0 == 0) = false := by simpa using he
      clear hg hi HO1 HO2 HO3 HCO
      simp only [List.length_nil]
      by_cases hg0 : g = 0
      · have he4 : e0 = 4 := h4.resolve_left (fun h => h hg0)
        have hi0 : i = 0 := h5.resolve_left (fun h => h hg0)
        subst he4 hi0 hg0
        clear h4 h5 he heq
        go_wp2_with fail
        refine (live_any _).mono ?_
        rintro e w5 ⟨rfl, l5⟩
        have HL5 := Lib.hid (btrans HL3.out (Nat.le_refl _) l5)
        clear l5
        go_wp2_with fail
        go_ret
        exact ⟨rfl, HL5.out⟩
      · have hg1 : (g != 0) = true := by simpa using hg0
        have hg2 : (g == 0) = false := by simpa using hg0
        clear h4 h5
        go_wp2_with fail
        refine (live_any _).mono ?_
        rintro e w5 ⟨rfl, l5⟩
        have HL5 := Lib.hid (btrans HL3.out (Nat.le_refl _) l5)
        clear l5
        go_wp2_with fail
        go_ret
        exact ⟨rfl, HL5.out⟩
end Go.Proofs.Ytganmdbhmihjpaa.Opa
