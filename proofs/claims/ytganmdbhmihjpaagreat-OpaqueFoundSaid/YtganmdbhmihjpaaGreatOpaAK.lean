/- An order in which they can have come, or the error: as the document says. -/
import Derived.Test.YtganmdbhmihjpaaGreatOpaT
import Derived.Test.YtganmdbhmihjpaaGreatOpaAJ
namespace Go.Proofs.YtganmdbhmihjpaaGreat.Opa
open Go.RowKit Go.Proofs.YtganmdbhmihjpaaGreat.Wri Go.Proofs.YtganmdbhmihjpaaGreat.His Go.ChangeShapes Go.WideShapes Go.ChangeAt
set_option linter.unusedSimpArgs false
set_option linter.unusedVariables false
set_option maxRecDepth 50000

theorem found_len {l : List Ev} {vs C o : List Int} {e : Int} (h : foundL l vs C = (e, o)) : o.length ≤ 1000 := by
  by_cases he : e = 0
  · subst he
    have h1 := (found_legal h).2.2
    unfold foundL at h
    split at h
    · cases h
    · split at h
      · cases h
      · split at h
        · cases h
        · omega
  · rw [(found_none h he).1]
    exact Nat.zero_le _
set_option maxHeartbeats 12800000 in
theorem found_law {H : Type} (enc : TypeId × Value → H) (w : World) (a : Option Addr) (len cap : Nat) (h : Fits enc Tryz.prog w 22 [.slice a len cap]) (a1 : Option Addr) (len1 cap1 : Nat) (h1 : Fits enc Tryz.prog w 23 [.slice a1 len1 cap1])
    (a2 : Option Addr) (len2 cap2 : Nat) (h2 : Fits enc Tryz.prog w 24 [.slice a2 len2 cap2]) :
    Calls Tryz.prog 3 #[.slice a len cap, .slice a1 len1 cap1, .slice a2 len2 cap2] w fun e w' => e = .returned (.bool true) ∧ Below w.heap.size w w' := by
  obtain ⟨l, hl, hok, hfew⟩ := evs_of h
  obtain ⟨vs, hvs, hu, hm1, hhp⟩ := vals_of h1
  obtain ⟨C, hC, hm2⟩ := ints_of h2
  have hcap := (fits_cap h Tryz.underlying22).1
  have hz1 := (fits_cap h1 Tryz.underlying23).2
  have hd2 := (fits_cap h2 Tryz.underlying24).1
  have hm50 : min len 50 ≤ 50 := Nat.min_le_right _ _
  have hmc : min len 50 ≤ cap := Nat.le_trans (Nat.min_le_left _ _) hcap
  have hm13 : min len1 13 ≤ 13 := Nat.min_le_right _ _
  have hv13 := vals_take hvs (Nat.min_le_left len1 13)
  have hu13 : ∀ v ∈ vs.take (min len1 13), U64 v := fun v hv => hu v (List.mem_of_mem_take hv)
  have hz13 : a1 = none → min len1 13 = 0 ∧ cap1 = 0 := fun e => ⟨by rw [(hz1 e).1]; rfl, (hz1 e).2⟩
  obtain ⟨us, hus⟩ : ∃ us, vs.take (min len1 13) = us := ⟨_, rfl⟩
  obtain ⟨n, hn⟩ : ∃ n, min len 50 = n := ⟨_, rfl⟩
  obtain ⟨m, hm⟩ : ∃ m, min len1 13 = m := ⟨_, rfl⟩
  rw [hn] at hl hfew hm50 hmc
  rw [hus, hm] at hv13
  rw [hus] at hu13
  rw [hm] at hm13 hz13 hhp
  have HF := Lib.hid (hfew w); have HP := Lib.hid (hhp w)
  have hAA : ∀ (M : Nat) (L : List Ev) (K : Nat) (D : List Int), EvsIn w a M L → EvsOk L → M ≤ 400 → IntsIn w a2 K D → K ≤ 6 → K ≤ cap2 → Asked w a M cap L a1 m cap1 us a2 K cap2 D := fun M L K D h1 h2 h3 h4 h5 h6 =>
    ⟨h1, h2, h3, hv13, hu13, by omega, hz13, h4, by omega, h6⟩
  by_cases h30 : 30 < n
  · have h30' : (30 : Int) < n := by omega
    have h30c : (30 : Int) ≤ cap := by omega
    have hLL := evsIn_take hl (show 30 ≤ n by omega)
    have hLK : EvsOk (l.take 30) := fun x hx => hok x (List.mem_of_mem_take hx)
    obtain ⟨L, hL⟩ : ∃ L, l.take 30 = L := ⟨_, rfl⟩
    rw [hL] at hLL hLK
    obtain ⟨pb, po, rfl, _⟩ := hLL.2.resolve_left (by decide)
    by_cases h6 : 6 < len2
    · have h6' : (6 : Int) < len2 := by omega
      have h6c : (6 : Int) ≤ cap2 := by omega
      have hDD := ints_take hC (show 6 ≤ len2 by omega)
      obtain ⟨D, hD⟩ : ∃ D, C.take 6 = D := ⟨_, rfl⟩
      rw [hD] at hDD
      obtain ⟨qb, qo, rfl, _⟩ := hDD.2.resolve_left (by decide)
      have HA := Lib.hid (hAA 30 L 6 D hLL hLK (by omega) hDD (by omega) (by omega))
      have hK : 6 ≤ 6 := Nat.le_refl _
      clear h h1 h2 hl hok hfew hvs hu hm1 hhp hC hm2 hcap hz1 hd2 hm50 hm13 hv13 hu13 hz13 hus hn hm hAA hLL hLK hDD hL hD
      go_enter Tryz.func3, Tryz.ntmps3
      go_wp2_with fail
      refine HF.out.mono ?_
      rintro e w0 ⟨rfl, rfl⟩
      go_wp2_with fail
      refine HP.out.mono ?_
      rintro e w0 ⟨rfl, rfl⟩
      go_wp2_with fail
      have HM2 := Lib.hid hK
      have HFO := Lib.hid (found_any HA.out)
      obtain ⟨R, hR⟩ : ∃ R, foundL L us D = R := ⟨_, rfl⟩
      rw [hR] at HFO
      have HR := Lib.hid hR
      obtain ⟨e0, o⟩ := R
      clear hR HF HP hK
      refine HFO.out.mono ?_
      rintro e w1 ⟨l1, ao, co, rfl, hco, hio⟩
      have HL1 := Lib.hid l1
      have HIO1 := Lib.hid hio
      have HRF := Lib.hid (rfound_any (HA.out.below l1) (by have := HM2.out; omega))
      rw [HR.out] at HRF
      clear l1 hio hco HFO
      simp only
      go_wp2_with fail
      refine HRF.out.mono ?_
      rintro e w2 ⟨l2, bo, ko, rfl, hko, hjo⟩
      have HL2 := Lib.hid (btrans HL1.out (Nat.le_refl _) l2)
      have HIO2 := Lib.hid (HIO1.out.below l2)
      have HJO2 := Lib.hid hjo
      have HOL := Lib.hid (show o.length ≤ 1000 from found_len HR.out)
      have heq : (e0 == e0) = true := by simp
      clear l2 hjo hko HRF
      simp only
      go_wp2_with fail
      refine (live_any _).mono ?_
      rintro e w3 ⟨rfl, l3⟩
      have HL3 := Lib.hid (btrans HL2.out (Nat.le_refl _) l3)
      have HIO3 := Lib.hid (HIO2.out.below l3)
      have HJO3 := Lib.hid (HJO2.out.below l3)
      clear l3
      go_wp2_with fail
      refine (sameInts_any w3 ao bo _ co ko o HIO3.out HJO3.out (by have := HOL.out; omega)).mono ?_
      rintro e w4 ⟨rfl, l4⟩
      have HL4 := Lib.hid (btrans HL3.out (Nat.le_refl _) l4)
      clear l4
      go_wp2_with fail
      go_ret
      exact ⟨rfl, HL4.out⟩
    · have h6' : ¬ (6 : Int) < len2 := by omega
      obtain ⟨D, hD⟩ : ∃ D, C = D := ⟨_, rfl⟩
      have hDD : IntsIn w a2 len2 D := hD ▸ hC
      have HA := Lib.hid (hAA 30 L len2 D hLL hLK (by omega) hDD (by omega) hd2)
      have hK : len2 ≤ 6 := by omega
      clear h h1 h2 hl hok hfew hvs hu hm1 hhp hC hm2 hcap hz1 hd2 hm50 hm13 hv13 hu13 hz13 hus hn hm hAA hLL hLK hDD hL hD
      go_enter Tryz.func3, Tryz.ntmps3
      go_wp2_with fail
      refine HF.out.mono ?_
      rintro e w0 ⟨rfl, rfl⟩
      go_wp2_with fail
      refine HP.out.mono ?_
      rintro e w0 ⟨rfl, rfl⟩
      go_wp2_with fail
      have HM2 := Lib.hid hK
      have HFO := Lib.hid (found_any HA.out)
      obtain ⟨R, hR⟩ : ∃ R, foundL L us D = R := ⟨_, rfl⟩
      rw [hR] at HFO
      have HR := Lib.hid hR
      obtain ⟨e0, o⟩ := R
      clear hR HF HP hK
      refine HFO.out.mono ?_
      rintro e w1 ⟨l1, ao, co, rfl, hco, hio⟩
      have HL1 := Lib.hid l1
      have HIO1 := Lib.hid hio
      have HRF := Lib.hid (rfound_any (HA.out.below l1) (by have := HM2.out; omega))
      rw [HR.out] at HRF
      clear l1 hio hco HFO
      simp only
      go_wp2_with fail
      refine HRF.out.mono ?_
      rintro e w2 ⟨l2, bo, ko, rfl, hko, hjo⟩
      have HL2 := Lib.hid (btrans HL1.out (Nat.le_refl _) l2)
      have HIO2 := Lib.hid (HIO1.out.below l2)
      have HJO2 := Lib.hid hjo
      have HOL := Lib.hid (show o.length ≤ 1000 from found_len HR.out)
      have heq : (e0 == e0) = true := by simp
      clear l2 hjo hko HRF
      simp only
      go_wp2_with fail
      refine (live_any _).mono ?_
      rintro e w3 ⟨rfl, l3⟩
      have HL3 := Lib.hid (btrans HL2.out (Nat.le_refl _) l3)
      have HIO3 := Lib.hid (HIO2.out.below l3)
      have HJO3 := Lib.hid (HJO2.out.below l3)
      clear l3
      go_wp2_with fail
      refine (sameInts_any w3 ao bo _ co ko o HIO3.out HJO3.out (by have := HOL.out; omega)).mono ?_
      rintro e w4 ⟨rfl, l4⟩
      have HL4 := Lib.hid (btrans HL3.out (Nat.le_refl _) l4)
      clear l4
      go_wp2_with fail
      go_ret
      exact ⟨rfl, HL4.out⟩
  · have h30' : ¬ (30 : Int) < n := by omega
    obtain ⟨L, hL⟩ : ∃ L, l = L := ⟨_, rfl⟩
    have hLL : EvsIn w a n L := hL ▸ hl
    have hLK : EvsOk L := hL ▸ hok
    by_cases h6 : 6 < len2
    · have h6' : (6 : Int) < len2 := by omega
      have h6c : (6 : Int) ≤ cap2 := by omega
      have hDD := ints_take hC (show 6 ≤ len2 by omega)
      obtain ⟨D, hD⟩ : ∃ D, C.take 6 = D := ⟨_, rfl⟩
      rw [hD] at hDD
      obtain ⟨qb, qo, rfl, _⟩ := hDD.2.resolve_left (by decide)
      have HA := Lib.hid (hAA n L 6 D hLL hLK (by omega) hDD (by omega) (by omega))
      have hK : 6 ≤ 6 := Nat.le_refl _
      clear h h1 h2 hl hok hfew hvs hu hm1 hhp hC hm2 hcap hz1 hd2 hm50 hm13 hv13 hu13 hz13 hus hn hm hAA hLL hLK hDD hL hD
      go_enter Tryz.func3, Tryz.ntmps3
      go_wp2_with fail
      refine HF.out.mono ?_
      rintro e w0 ⟨rfl, rfl⟩
      go_wp2_with fail
      refine HP.out.mono ?_
      rintro e w0 ⟨rfl, rfl⟩
      go_wp2_with fail
      have HM2 := Lib.hid hK
      have HFO := Lib.hid (found_any HA.out)
      obtain ⟨R, hR⟩ : ∃ R, foundL L us D = R := ⟨_, rfl⟩
      rw [hR] at HFO
      have HR := Lib.hid hR
      obtain ⟨e0, o⟩ := R
      clear hR HF HP hK
      refine HFO.out.mono ?_
      rintro e w1 ⟨l1, ao, co, rfl, hco, hio⟩
      have HL1 := Lib.hid l1
      have HIO1 := Lib.hid hio
      have HRF := Lib.hid (rfound_any (HA.out.below l1) (by have := HM2.out; omega))
      rw [HR.out] at HRF
      clear l1 hio hco HFO
      simp only
      go_wp2_with fail
      refine HRF.out.mono ?_
      rintro e w2 ⟨l2, bo, ko, rfl, hko, hjo⟩
      have HL2 := Lib.hid (btrans HL1.out (Nat.le_refl _) l2)
      have HIO2 := Lib.hid (HIO1.out.below l2)
      have HJO2 := Lib.hid hjo
      have HOL := Lib.hid (show o.length ≤ 1000 from found_len HR.out)
      have heq : (e0 == e0) = true := by simp
      clear l2 hjo hko HRF
      simp only
      go_wp2_with fail
      refine (live_any _).mono ?_
      rintro e w3 ⟨rfl, l3⟩
      have HL3 := Lib.hid (btrans HL2.out (Nat.le_refl _) l3)
      have HIO3 := Lib.hid (HIO2.out.below l3)
      have HJO3 := Lib.hid (HJO2.out.below l3)
      clear l3
      go_wp2_with fail
      refine (sameInts_any w3 ao bo _ co ko o HIO3.out HJO3.out (by have := HOL.out; omega)).mono ?_
      rintro e w4 ⟨rfl, l4⟩
      have HL4 := Lib.hid (btrans HL3.out (Nat.le_refl _) l4)
      clear l4
      go_wp2_with fail
      go_ret
      exact ⟨rfl, HL4.out⟩
    · have h6' : ¬ (6 : Int) < len2 := by omega
      obtain ⟨D, hD⟩ : ∃ D, C = D := ⟨_, rfl⟩
      have hDD : IntsIn w a2 len2 D := hD ▸ hC
      have HA := Lib.hid (hAA n L len2 D hLL hLK (by omega) hDD (by omega) hd2)
      have hK : len2 ≤ 6 := by omega
      clear h h1 h2 hl hok hfew hvs hu hm1 hhp hC hm2 hcap hz1 hd2 hm50 hm13 hv13 hu13 hz13 hus hn hm hAA hLL hLK hDD hL hD
      go_enter Tryz.func3, Tryz.ntmps3
      go_wp2_with fail
      refine HF.out.mono ?_
      rintro e w0 ⟨rfl, rfl⟩
      go_wp2_with fail
      refine HP.out.mono ?_
      rintro e w0 ⟨rfl, rfl⟩
      go_wp2_with fail
      have HM2 := Lib.hid hK
      have HFO := Lib.hid (found_any HA.out)
      obtain ⟨R, hR⟩ : ∃ R, foundL L us D = R := ⟨_, rfl⟩
      rw [hR] at HFO
      have HR := Lib.hid hR
      obtain ⟨e0, o⟩ := R
      clear hR HF HP hK
      refine HFO.out.mono ?_
      rintro e w1 ⟨l1, ao, co, rfl, hco, hio⟩
      have HL1 := Lib.hid l1
      have HIO1 := Lib.hid hio
      have HRF := Lib.hid (rfound_any (HA.out.below l1) (by have := HM2.out; omega))
      rw [HR.out] at HRF
      clear l1 hio hco HFO
      simp only
      go_wp2_with fail
      refine HRF.out.mono ?_
      rintro e w2 ⟨l2, bo, ko, rfl, hko, hjo⟩
      have HL2 := Lib.hid (btrans HL1.out (Nat.le_refl _) l2)
      have HIO2 := Lib.hid (HIO1.out.below l2)
      have HJO2 := Lib.hid hjo
      have HOL := Lib.hid (show o.length ≤ 1000 from found_len HR.out)
      have heq : (e0 == e0) = true := by simp
      clear l2 hjo hko HRF
      simp only
      go_wp2_with fail
      refine (live_any _).mono ?_
      rintro e w3 ⟨rfl, l3⟩
      have HL3 := Lib.hid (btrans HL2.out (Nat.le_refl _) l3)
      have HIO3 := Lib.hid (HIO2.out.below l3)
      have HJO3 := Lib.hid (HJO2.out.below l3)
      clear l3
      go_wp2_with fail
      refine (sameInts_any w3 ao bo _ co ko o HIO3.out HJO3.out (by have := HOL.out; omega)).mono ?_
      rintro e w4 ⟨rfl, l4⟩
      have HL4 := Lib.hid (btrans HL3.out (Nat.le_refl _) l4)
      clear l4
      go_wp2_with fail
      go_ret
      exact ⟨rfl, HL4.out⟩
end Go.Proofs.YtganmdbhmihjpaaGreat.Opa
