/- Whether attempts can have come in an order, or the first that can't; the heap behind: as the document says. -/
import Derived.Test.YtganmdbhmihjpaaGreatOpaZ
import Derived.Test.YtganmdbhmihjpaaGreatOpaAF
namespace Go.Proofs.YtganmdbhmihjpaaGreat.Opa
open Go.RowKit Go.Proofs.YtganmdbhmihjpaaGreat.Wri Go.Proofs.YtganmdbhmihjpaaGreat.His Go.ChangeShapes Go.WideShapes Go.ChangeAt
set_option linter.unusedSimpArgs false
set_option linter.unusedVariables false
set_option maxRecDepth 50000

theorem first_len (l : List Ev) (f : Int → One) : ∀ (o : List Int) (i : Int) (vs : List Int), (firstL l f o i vs).2.2.length = vs.length := by
  intro o
  induction o with
  | nil => intro i vs; rfl
  | cons x o ih =>
    intro i vs
    rw [firstL]
    split
    · rfl
    · split
      · rw [ih, layL_len]
      · rfl
theorem legal_len (l : List Ev) (vs order C : List Int) : (legalL l vs order C).2.2.length ≤ vs.length := by
  unfold legalL
  split
  · exact Nat.zero_le _
  · rw [first_len]; exact Nat.le_refl _
set_option maxHeartbeats 25600000 in
theorem legal_law {H : Type} (enc : TypeId × Value → H) (w : World) (a : Option Addr) (len cap : Nat) (h : Fits enc Tryz.prog w 22 [.slice a len cap]) (a1 : Option Addr) (len1 cap1 : Nat) (h1 : Fits enc Tryz.prog w 23 [.slice a1 len1 cap1])
    (c : Array Value) (h2 : Fits enc Tryz.prog w 34 c.toList) :
    Calls Tryz.prog 4 #[.slice a len cap, .slice a1 len1 cap1, .agg c] w fun e w' => e = .returned (.bool true) ∧ Below w.heap.size w w' := by
  obtain ⟨i0, hi, hz0, hz1, hz2⟩ := info_parts infoE
  obtain ⟨j0, hj, hj0, hj1, hj2⟩ := info_parts infoI
  obtain ⟨l, hl, hok, hfew⟩ := evs_of h
  obtain ⟨vs, hvs, hu, hm1, hhp⟩ := vals_of h1
  obtain ⟨oa, on, oc, ca, cn, cc, O, C, hce, hO, hC, hoc, hcc, hrt⟩ := order_of h2
  obtain rfl : c = #[.slice oa on oc, .slice ca cn cc] := by cases c; simp_all
  have hcap := (fits_cap h Tryz.underlying22).1
  have hz1' := (fits_cap h1 Tryz.underlying23).2
  have hm50 : min len 50 ≤ 50 := Nat.min_le_right _ _
  have hmc : min len 50 ≤ cap := Nat.le_trans (Nat.min_le_left _ _) hcap
  have hm13 : min len1 13 ≤ 13 := Nat.min_le_right _ _
  have hv13 := vals_take hvs (Nat.min_le_left len1 13)
  have hu13 : ∀ v ∈ vs.take (min len1 13), U64 v := fun v hv => hu v (List.mem_of_mem_take hv)
  have hz13 : a1 = none → min len1 13 = 0 ∧ cap1 = 0 := fun e => ⟨by rw [(hz1' e).1]; rfl, (hz1' e).2⟩
  have ho12 : min on 12 ≤ 12 := Nat.min_le_right _ _
  have hc6 : min cn 6 ≤ 6 := Nat.min_le_right _ _
  have hoc' : min on 12 ≤ oc := Nat.le_trans (Nat.min_le_left _ _) hoc
  have hcc' : min cn 6 ≤ cc := Nat.le_trans (Nat.min_le_left _ _) hcc
  obtain ⟨us, hus⟩ : ∃ us, vs.take (min len1 13) = us := ⟨_, rfl⟩
  obtain ⟨n, hn⟩ : ∃ n, min len 50 = n := ⟨_, rfl⟩
  obtain ⟨m, hm⟩ : ∃ m, min len1 13 = m := ⟨_, rfl⟩
  obtain ⟨oN, hoN⟩ : ∃ m, min on 12 = m := ⟨_, rfl⟩
  obtain ⟨cN, hcN⟩ : ∃ m, min cn 6 = m := ⟨_, rfl⟩
  rw [hn] at hl hfew hm50 hmc
  rw [hus, hm] at hv13
  have HUS := Lib.hid (show us.length ≤ 13 by rw [hv13.1]; omega)
  rw [hus] at hu13
  rw [hm] at hm13 hz13 hhp
  rw [hoN] at hO ho12 hoc' hrt
  rw [hcN] at hC hc6 hcc' hrt
  have HC6 := Lib.hid hc6
  have HF := Lib.hid hfew; have HP := Lib.hid hhp; have HRT := Lib.hid hrt
  have HAA := Lib.hid (show ∀ (W : World) (p : Option Addr) (M K : Nat) (L : List Ev), Below w.heap.size w W → EvsIn W p M L → EvsOk L → M ≤ 400 → Asked W p M K L a1 m cap1 us ca cN cc C from fun W p M K L lW h1 h2 h3 =>
    ⟨h1, h2, h3, hv13.below lW, hu13, by omega, hz13, hC.below lW, by omega, hcc'⟩)
  have HE := Lib.hid hl; have HOK := Lib.hid hok; have HO := Lib.hid hO
  have hn6 : n ≤ 1000000 := by omega
  clear h h1 h2 hl hok hfew hvs hu hm1 hhp hC hcap hz1' hm13 hv13 hu13 hz13 hus hn hm hce hO hoc hcc hrt hoN hcN hc6 hcc'
  have lW0 : Below w.heap.size w (w.alloc (.cells #[.slice oa on oc, .slice ca cn cc] 34)) := by repeat (first | (with_reducible exact Below.refl _ _) | (with_reducible apply Below.drew) | (with_reducible refine below_drewN ?_ _) | (with_reducible refine below_alloc' ?_ ?_ _; (focus ((try simp) <;> omega))) | (with_reducible refine below_set' ?_ ?_ _; (focus ((try simp) <;> omega))))
  have hb0 : (w.alloc (.cells #[.slice oa on oc, .slice ca cn cc] 34)).heap[w.heap.size]? = some (.cells #[.slice oa on oc, .slice ca cn cc] 34 (0, 0)) := by simp [↓heap_alloc_eq, ↓heap_set_eq, ↓heap_drew_eq, ↓heap_drewN_eq, setObj, size_drewN]
  have hs0 : w.heap.size < (w.alloc (.cells #[.slice oa on oc, .slice ca cn cc] 34)).heap.size := by simp
  go_enter Tryz.func4, Tryz.ntmps4
  go_wp2_with fail
  obtain ⟨W0, hW0⟩ : ∃ W0, w.alloc (.cells #[.slice oa on oc, .slice ca cn cc] 34) = W0 := ⟨_, rfl⟩
  rw [hW0] at lW0 hb0 hs0 ⊢
  clear hW0
  have Q0 : W0.drew.cell? ⟨w.heap.size, 0, none⟩ = some (.slice oa on oc) ∧ W0.drew.cell? ⟨w.heap.size, 1, none⟩ = some (.slice ca cn cc) := by
    have := bblk (Below.refl W0.heap.size W0).drew hb0
    exact ⟨blk_cell this 0, blk_cell this 1⟩
  refine wp_region_F (fun w' => w'.cell? ⟨w.heap.size, 0, none⟩ = some (.slice oa on oc) ∧ w'.cell? ⟨w.heap.size, 1, none⟩ = some (.slice ca cn cc)) 8 (by kernel_rfl) ?_
  refine wpAnyF_take (i := 0) (v := ?_) rfl (by kernel_rfl) (by kernel_rfl) (by kernel_rfl) (by kernel_rfl) (fun _ _ _ h => h) (Or.inl ⟨by rfl, ?_⟩) (by assumption) ?_; rotate_left; (focus (intro w hSw; (skip); (first | (go_simp; done) | (go_simp; with_reducible rfl)))); (try simp only [Act.put, List.setIfInBounds_toArray, List.set_cons_zero, List.set_cons_succ])
  refine wpAnyF_take (i := 2) (v := ?_) rfl (by kernel_rfl) (by kernel_rfl) (by kernel_rfl) (by kernel_rfl) (fun _ _ _ h => h) (Or.inl ⟨by rfl, ?_⟩) (by assumption) ?_; rotate_left; (focus (intro w hSw; (skip); (first | (go_simp; done) | (go_simp; with_reducible rfl)))); (try simp only [Act.put, List.setIfInBounds_toArray, List.set_cons_zero, List.set_cons_succ])
  refine wpAnyF_take (i := 4) (v := ?_) rfl (by kernel_rfl) (by kernel_rfl) (by kernel_rfl) (by kernel_rfl) (fun _ _ _ h => h) (Or.inl ⟨by rfl, ?_⟩) (by assumption) ?_; rotate_left; (focus (intro w hSw; (obtain ⟨q0, q1⟩ := hSw); (first | (go_simp; done) | (go_simp; with_reducible rfl)))); (try simp only [Act.put, List.setIfInBounds_toArray, List.set_cons_zero, List.set_cons_succ])
  refine wpAnyF_ready (rs := [1]) (by kernel_rfl) (by simp) ?_
  refine AllF.cons rfl (fun K hK => ?_) AllF.nil
  go_simp
  refine (HF.out _).mono ?_
  rintro e w1 ⟨rfl, rfl⟩
  dsimp only
  refine hK.out _ _ (fun _ => Q0) ?_; clear hK K; (try simp only [Act.put, List.setIfInBounds_toArray, List.set_cons_zero, List.set_cons_succ])
  refine wpAnyF_ready (rs := [3]) (by kernel_rfl) (by simp) ?_
  refine AllF.cons rfl (fun K hK => ?_) AllF.nil
  go_simp
  refine (HP.out _).mono ?_
  rintro e w1 ⟨rfl, rfl⟩
  dsimp only
  refine hK.out _ _ (fun _ => Q0) ?_; clear hK K; (try simp only [Act.put, List.setIfInBounds_toArray, List.set_cons_zero, List.set_cons_succ])
  refine wpAnyF_ready (rs := [5]) (by kernel_rfl) (by simp) ?_
  refine AllF.cons rfl (fun K hK => ?_) AllF.nil
  go_simp
  refine (HRT.out _).mono ?_
  rintro e w2 ⟨rfl, l2⟩
  have hb2 := bblk l2 (show W0.drew.heap[w.heap.size]? = _ from hb0)
  have LW2 := Lib.hid (show Below w.heap.size w w2 from btrans lW0.drew (Nat.le_refl _) l2)
  have hs2 : w.heap.size < w2.heap.size := blk_lt hb2
  have QX : w2.cell? ⟨w.heap.size, 0, none⟩ = some (.slice oa on oc) ∧ w2.cell? ⟨w.heap.size, 1, none⟩ = some (.slice ca cn cc) := ⟨blk_cell hb2 0, blk_cell hb2 1⟩
  clear l2 lW0 hb0 hs0 Q0
  dsimp only
  refine hK.out _ _ (fun _ => QX) ?_; clear hK K; (try simp only [Act.put, List.setIfInBounds_toArray, List.set_cons_zero, List.set_cons_succ])
  refine wpAnyF_ready (rs := [6]) (by kernel_rfl) (by simp) ?_
  refine AllF.cons rfl (fun K hK => ?_) AllF.nil
  go_simp
  refine hK.out _ _ (fun _ => QX) ?_; clear hK K; (try simp only [Act.put, List.setIfInBounds_toArray, List.set_cons_zero, List.set_cons_succ])
  refine wpAnyF_ready (rs := [7]) (by kernel_rfl) (by simp) ?_
  refine AllF.cons rfl (fun K hK => ?_) AllF.nil
  go_simp
  refine hK.out _ _ (fun _ => QX) ?_; clear hK K; (try simp only [Act.put, List.setIfInBounds_toArray, List.set_cons_zero, List.set_cons_succ])
  refine wpAnyF_ready (rs := [8]) (by kernel_rfl) (by simp) ?_
  refine AllF.cons rfl (fun K hK => ?_) AllF.nil
  have fz0 : w2.frozen? ⟨w.heap.size, 0, none⟩ = false := by simp [World.frozen?, hb2]
  have fz1 : w2.frozen? ⟨w.heap.size, 1, none⟩ = false := by simp [World.frozen?, hb2]
  go_simp
  refine hK.out _ _ (fun h => absurd rfl h) ?_; clear hK K; (try simp only [Act.put, List.setIfInBounds_toArray, List.set_cons_zero, List.set_cons_succ]); refine wpAnyF_done (by kernel_rfl) ?_ _
  have hb3 : ((w2.setCell ⟨w.heap.size, 0, none⟩ (.slice oa oN oc)).setCell ⟨w.heap.size, 1, none⟩ (.slice ca cN cc)).heap[w.heap.size]? = some (.cells #[.slice oa oN oc, .slice ca cN cc] 34 (0, 0)) := by simp [↓heap_alloc_eq, ↓heap_set_eq, ↓heap_drew_eq, ↓heap_drewN_eq, setObj, size_drewN, hb2]
  have lW3 : Below w.heap.size w ((w2.setCell ⟨w.heap.size, 0, none⟩ (.slice oa oN oc)).setCell ⟨w.heap.size, 1, none⟩ (.slice ca cN cc)) := (LW2.out.setCell (Nat.le_refl _) _).setCell (Nat.le_refl _) _
  obtain ⟨W3, hW3⟩ : ∃ W3, (w2.setCell ⟨w.heap.size, 0, none⟩ (.slice oa oN oc)).setCell ⟨w.heap.size, 1, none⟩ (.slice ca cN cc) = W3 := ⟨_, rfl⟩
  rw [hW3] at hb3 lW3 ⊢
  have LW3 := Lib.hid lW3; have HB3 := Lib.hid hb3
  have x0 := blk_cell hb3 0; have x1 := blk_cell hb3 1
  simp only [List.getElem?_toArray, List.getElem?_cons_zero, List.getElem?_cons_succ] at x0 x1
  have HE3 := Lib.hid (HE.out.below lW3)
  have HO3 := Lib.hid (HO.out.below lW3)
  have HLG := Lib.hid (legal_any (HAA.out W3 a n cap l lW3 HE3.out HOK.out (by omega)) oa oN oc O HO3.out (by omega) hoc')
  obtain ⟨R, hR⟩ : ∃ R, legalL l us O C = R := ⟨_, rfl⟩
  have HRR := Lib.hid hR
  rw [hR] at HLG
  have hm2 : cN ≤ 1000000 := by have := HC6.out; omega
  clear hW3 hb2 hs2 QX LW2 fz0 fz1 hb3 lW3 hR HE HO HF HP HRT
  obtain ⟨R1, R2, R3⟩ := R
  go_wp2_with fail
  refine HLG.out.mono ?_
  rintro e w4 ⟨rfl, l4⟩
  have L4 := Lib.hid (btrans LW3.out (Nat.le_refl _) l4)
  have HE4 := Lib.hid (HE3.out.below l4); have HO4 := Lib.hid (HO3.out.below l4); have HB4 := Lib.hid (bblk l4 HB3.out)
  replace x0 := bkeep l4 x0; replace x1 := bkeep l4 x1
  simp only
  have HRL := Lib.hid (rlegal_any (HAA.out w4 a n cap l L4.out HE4.out HOK.out (by omega)) hm2 oa oN oc O HO4.out (by omega) hoc')
  rw [HRR.out] at HRL
  clear l4 HLG HE3 HO3 HB3
  go_wp2_with fail
  refine HRL.out.mono ?_
  rintro e w5 ⟨rfl, l5⟩
  have L5 := Lib.hid (btrans L4.out (Nat.le_refl _) l5)
  have HE5 := Lib.hid (HE4.out.below l5); have HO5 := Lib.hid (HO4.out.below l5)
  replace x0 := bkeep l5 x0; replace x1 := bkeep l5 x1
  simp only
  have HHP := Lib.hid (heap_any (HAA.out w5 a n cap l L5.out HE5.out HOK.out (by omega)) oa oN oc O HO5.out (by omega) hoc')
  rw [HRR.out] at HHP
  clear l5 HRL HE4 HO4 HB4
  go_wp2_with fail
  refine HHP.out.mono ?_
  rintro e w6 ⟨l6, hpost⟩
  have L6 := Lib.hid (btrans L5.out (Nat.le_refl _) l6)
  have HE6 := Lib.hid (HE5.out.below l6); have HO6 := Lib.hid (HO5.out.below l6)
  replace x0 := bkeep l6 x0; replace x1 := bkeep l6 x1
  have HRH := Lib.hid (rheap_any (HAA.out w6 a n cap l L6.out HE6.out HOK.out (by omega)) hm2 oa oN oc O HO6.out (by omega) hoc')
  rw [HRR.out] at HRH
  clear l6 HHP HE5 HO5
  simp only at hpost
  rcases hpost with ⟨hne, rfl⟩ | ⟨hz, v, rfl, hva, _⟩
  · have HNE := Lib.hid hne
    clear hne
    go_wp2_with fail
    refine HRH.out.mono ?_
    rintro e w7 ⟨l7, hp7⟩
    have L7 := Lib.hid (btrans L6.out (Nat.le_refl _) l7)
    simp only at hp7
    rcases hp7 with ⟨_, rfl⟩ | ⟨hz, _⟩
    · have heq : ∀ z : Int, (z == z) = true := fun z => by simp
      have e1 := heq R1; have e2 := heq R2
      clear l7 HRH heq
      go_wp2_with fail
      refine (live_any _).mono ?_
      rintro e w8 ⟨rfl, l8⟩
      have L8 := Lib.hid (btrans L7.out (Nat.le_refl _) l8)
      clear l8
      go_wp2_with fail
      refine (sameVals_any w8 none none 0 0 0 [] ⟨rfl, .inl rfl⟩ ⟨rfl, .inl rfl⟩ (by omega)).mono ?_
      rintro e w9 ⟨rfl, l9⟩
      have L9 := Lib.hid (btrans L8.out (Nat.le_refl _) l9)
      clear l9
      go_wp2_with fail
      go_ret
      exact ⟨rfl, L9.out⟩
    · exact absurd hz HNE.out
  · subst hz
    obtain ⟨va, vc, rfl, hvi⟩ := hva.open
    have HVI := Lib.hid hvi
    have hNl : R3.length ≤ 1000 := by
      have h1 := legal_len l us O C
      rw [HRR.out] at h1
      simp only at h1
      have h2 := HUS.out
      omega
    clear hva hvi
    go_wp2_with fail
    refine HRH.out.mono ?_
    rintro e w7 ⟨l7, hp7⟩
    have L7 := Lib.hid (btrans L6.out (Nat.le_refl _) l7)
    have HV7 := Lib.hid (HVI.out.below l7)
    simp only at hp7
    rcases hp7 with ⟨hne, _⟩ | ⟨_, v7, rfl, hv7⟩
    · exact absurd rfl hne
    · obtain ⟨vb, vc2, rfl, hvi7⟩ := hv7.open
      have HW7 := Lib.hid hvi7
      have heq : ∀ z : Int, (z == z) = true := fun z => by simp
      have e1 := heq R1
      clear l7 HRH heq hv7 hvi7
      go_wp2_with fail
      refine (live_any _).mono ?_
      rintro e w8 ⟨rfl, l8⟩
      have L8 := Lib.hid (btrans L7.out (Nat.le_refl _) l8)
      have HV8 := Lib.hid (HV7.out.below l8); have HW8 := Lib.hid (HW7.out.below l8)
      clear l8
      go_wp2_with fail
      refine (sameVals_any w8 va vb _ vc vc2 R3 HV8.out HW8.out (by omega)).mono ?_
      rintro e w9 ⟨rfl, l9⟩
      have L9 := Lib.hid (btrans L8.out (Nat.le_refl _) l9)
      clear l9
      go_wp2_with fail
      go_ret
      exact ⟨rfl, L9.out⟩
end Go.Proofs.YtganmdbhmihjpaaGreat.Opa
