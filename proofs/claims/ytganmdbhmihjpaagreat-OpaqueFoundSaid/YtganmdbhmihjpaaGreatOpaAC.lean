/- The document's side: what is asked about; one attempt over a heap. -/
import Derived.Test.YtganmdbhmihjpaaGreatOpaAB
import Derived.Test.YtganmdbhmihjpaaGreatOpaM
import Derived.Test.YtganmdbhmihjpaaGreatMgf
namespace Go.Proofs.YtganmdbhmihjpaaGreat.Opa
open Go.RowKit Go.Proofs.YtganmdbhmihjpaaGreat.Wri Go.Proofs.YtganmdbhmihjpaaGreat.His
set_option linter.unusedSimpArgs false
set_option linter.unusedVariables false
set_option maxRecDepth 50000

def askE (l : List Ev) (vs C : List Int) : Int := if formE l vs = 3 then 3 else pendE l C
theorem heapR_pre {vs : List Int} {k : Nat} (hk : k < vs.length) (h : Wri.rightVal (vs.getD k 0) = false) : heapR vs = false := by
  cases hh : heapR vs with
  | false => rfl
  | true =>
    have hm : vs.getD k 0 ∈ vs := by
      rw [List.getD_eq_getElem?_getD, List.getElem?_eq_getElem hk]
      exact List.getElem_mem _
    have := List.all_eq_true.1 hh _ hm
    have e : Wri.rightVal (vs.getD k 0) = true := this
    rw [h] at e
    cases e
set_option maxHeartbeats 6400000 in
theorem rasked_any {w : World} {p : Option Addr} {n c : Nat} {l : List Ev} {a : Option Addr} {m d : Nat} {vs : List Int} {a2 : Option Addr} {m2 d2 : Nat} {C : List Int} (h : Asked w p n c l a m d vs a2 m2 d2 C) (hm2 : m2 ≤ 1000000) :
    Calls Tryz.prog 21 #[.slice p n c, .slice a m d, .slice a2 m2 d2] w fun e w' => e = .returned (.int .i64 (askE l vs C)) ∧ Below w.heap.size w w' := by
  have H := Lib.hid h
  obtain ⟨r, hr⟩ : ∃ r, askE l vs C = r := ⟨_, rfl⟩
  rw [hr]
  have HR := Lib.hid hr
  have hd2 := h.hmd2
  have hm := h.hm
  clear h hr
  cases hg : goodL l with
  | false =>
    have HRT := Lib.hid (rright_any w p n c l H.out.evs H.out.ok H.out.hn _ hg)
    have hx : r = 3 := by rw [← HR.out]; unfold askE formE; rw [hg]; rfl
    subst hx
    clear hg
    go_enter Tryz.func21, Tryz.ntmps21
    go_wp2_with fail
    refine HRT.out.mono ?_
    rintro e w1 ⟨rfl, l1⟩
    have L1 := Lib.hid l1
    clear l1
    go_wp2_with fail
    go_ret
    exact ⟨rfl, L1.out⟩
  | true =>
    have HRT := Lib.hid (rright_any w p n c l H.out.evs H.out.ok H.out.hn _ hg)
    by_cases h12 : 12 < m
    · have hx : r = 3 := by
        rw [← HR.out]
        unfold askE formE
        rw [show decide (vs.length ≤ 12) = false by rw [H.out.vals.1]; simpa using h12]
        simp
      have h12' : (12 : Int) < m := by omega
      subst hx
      clear hg
      go_enter Tryz.func21, Tryz.ntmps21
      go_wp2_with fail
      refine HRT.out.mono ?_
      rintro e w1 ⟨rfl, l1⟩
      have L1 := Lib.hid l1
      clear l1
      go_wp2_with fail
      go_ret
      exact ⟨rfl, L1.out⟩
    · have h12' : ¬ (12 : Int) < m := by omega
      have HF := Lib.hid (show formE l vs = if heapR vs = true then 0 else 3 by
        unfold formE
        rw [hg, show decide (vs.length ≤ 12) = true by rw [H.out.vals.1]; simp; omega]
        simp)
      clear hg
      go_enter Tryz.func21, Tryz.ntmps21
      go_wp2_with fail
      refine HRT.out.mono ?_
      rintro e w1 ⟨rfl, l1⟩
      have L1 := Lib.hid l1
      have HA1 := Lib.hid (H.out.below l1)
      clear l1 HRT
      go_wp2_with fail
      go_loopw [7] (fun i wr => ∃ k : Nat, i = .int .i64 k ∧ k ≤ m ∧ (∀ v ∈ vs.take k, Wri.rightVal v = true) ∧ Below w.heap.size w wr) (fun i _ => m - (intOf i).toNat)
      case atStart => exact ⟨0, rfl, Nat.zero_le _, by simp, L1.out⟩
      case round =>
        obtain ⟨k, rfl, hk, hno, hB⟩ := hrel
        have HNO := Lib.hid hno; have HB := Lib.hid hB
        clear hno hB
        by_cases hlt : k < m
        · have HAR := Lib.hid (H.out.below HB.out)
          obtain ⟨b, off, rfl, hc⟩ := HAR.out.vals.2.resolve_left (by omega)
          have c0 := hc k hlt
          have hT := take_snoc vs k (by rw [H.out.vals.1]; exact hlt)
          have hm0 : vs.getD k 0 ∈ vs := by
            rw [List.getD_eq_getElem?_getD, List.getElem?_eq_getElem (by rw [H.out.vals.1]; exact hlt)]
            exact List.getElem_mem _
          have hu := H.out.u64 _ hm0
          have HBAD := Lib.hid (heapR_pre (vs := vs) (k := k) (by rw [H.out.vals.1]; exact hlt))
          obtain ⟨t, ht⟩ : ∃ t, vs.getD k 0 = t := ⟨_, rfl⟩
          rw [ht] at c0 hT hu HBAD
          have HT := Lib.hid hT
          have HV := Lib.hid (Wri.rRight_any wr t hu)
          have hw1 : IntKind.i64.wrap ((k : Int) + 1) = (k : Int) + 1 := by rw [IntKind.wrap_i64]; omega
          have hkn : (k : Int) < m := by omega
          clear hc hT hm0 hu ht
          cases hv : Wri.rightVal t with
          | false =>
            have hx : r = 3 := by
              rw [← HR.out]
              unfold askE
              rw [HF.out, HBAD.out hv]
              rfl
            subst hx
            rw [hv] at HV
            clear hv
            go_wp2_with fail
            refine HV.out.mono ?_
            rintro e w2 ⟨rfl, rfl⟩
            go_wp2_with fail
            go_ret
            exact ⟨rfl, HB.out⟩
          | true =>
            rw [hv] at HV
            have HN := Lib.hid (show ∀ v ∈ vs.take (k + 1), Wri.rightVal v = true by
              intro v hm
              rw [HT.out, List.mem_append, List.mem_singleton] at hm
              rcases hm with hm | hm
              · exact HNO.out v hm
              · rw [hm]; exact hv)
            clear hv
            go_wp2_with fail
            refine HV.out.mono ?_
            rintro e w2 ⟨rfl, rfl⟩
            go_wp2_with fail
            exact ⟨⟨k + 1, by go_num, by omega, HN.out, HB.out⟩, by simp [intOf]; omega⟩
        · obtain rfl : k = m := by omega
          have hall : heapR vs = true := List.all_eq_true.2 fun v hv => HNO.out v (by rw [List.take_of_length_le (by rw [H.out.vals.1]; exact Nat.le_refl _)]; exact hv)
          have HX := Lib.hid (show r = pendE l C by rw [← HR.out]; unfold askE; rw [HF.out, hall]; rfl)
          clear hall HF HR HNO
          obtain ⟨wk, rfl⟩ : ∃ wk, wk = wr := ⟨wr, rfl⟩
          have HBK := HB
          clear HB
          go_wp2_with fail
          go_loopw [8] (fun i wr => ∃ k : Nat, i = .int .i64 k ∧ k ≤ m2 ∧ pendOk l (C.take k) = true ∧ Below w.heap.size w wr) (fun i _ => m2 - (intOf i).toNat)
          case atStart => exact ⟨0, rfl, Nat.zero_le _, by simp [pendOk], HBK.out⟩
          case round =>
            obtain ⟨j, rfl, hj, hP, hB⟩ := hrel
            have HP := Lib.hid hP; have HB := Lib.hid hB
            clear hP hB
            by_cases hlt2 : j < m2
            · obtain ⟨b, off, rfl, hc⟩ := H.out.com.2.resolve_left (by omega)
              have c0 := bkeep HB.out (hc j hlt2)
              have hT := take_snoc C j (by rw [H.out.com.1]; exact hlt2)
              obtain ⟨t, ht⟩ : ∃ t, C.getD j 0 = t := ⟨_, rfl⟩
              rw [ht] at c0 hT
              have hS := pendOk_snoc l (C.take j) t
              rw [← hT, HP.out, Bool.true_and] at hS
              have HS := Lib.hid hS
              have hw1 : IntKind.i64.wrap ((j : Int) + 1) = (j : Int) + 1 := by rw [IntKind.wrap_i64]; omega
              have hkn : (j : Int) < m2 := by omega
              have hkd : (j : Int) ≤ d2 := by omega
              have hkd2 : j ≤ d2 := by omega
              have HBAD := Lib.hid (show pendOk l (C.take (j + 1)) = false → r = 2 from fun hf => by
                rw [HX.out]
                unfold pendE
                rw [if_neg (fun h => by rw [pendOk_take h (j + 1)] at hf; cases hf)])
              have HST := Lib.hid (rstate_any wr.drew p n c l (H.out.evs.below HB.out.drew) (by have := H.out.hn; omega) t)
              have HIN := Lib.hid (rin_o wr.drew _ j d2 (C.take j) t ((ints_take H.out.com hj).below HB.out.drew) (by omega))
              have Q0 : wr.drew.cell? ⟨b, off + j, none⟩ = some (.int .i64 t) := c0
              obtain ⟨st, hst⟩ : ∃ st, stateL l t = st := ⟨_, rfl⟩
              rw [hst] at HST HS
              clear hc hT hS ht hst c0
              cases hq : (st == 2) with
              | false =>
                have hx : r = 2 := HBAD.out (by rw [HS.out, hq]; rfl)
                subst hx
                have hq2 : (st != 2) = true := by simp only [bne, hq]; rfl
                clear hq
                go_wp2_with fail
                refine wp_region_held_drew (S := fun w' => w'.cell? ⟨b, off + j, none⟩ = some (.int .i64 t)) (by kernel_rfl) Q0 (fun hS9 => ?_)
                refine wpAnyH_take2 (i := 0) (v := ?_) rfl (by kernel_rfl) (by kernel_rfl) (by kernel_rfl) (fun _ _ _ h => h) (Or.inl ⟨by rfl, ?_⟩) (by assumption) ?_; rotate_left; (focus (intro w hSw; (skip); (first | (go_simp; done) | (go_simp; with_reducible rfl)))); (try simp only [Act.put, List.setIfInBounds_toArray, List.set_cons_zero, List.set_cons_succ])
                refine wpAnyH_take2 (i := 1) (v := ?_) rfl (by kernel_rfl) (by kernel_rfl) (by kernel_rfl) (fun _ _ _ h => h) (Or.inl ⟨by rfl, ?_⟩) (by assumption) ?_; rotate_left; (focus (intro w hSw; (skip); (first | (go_simp; done) | (go_simp; with_reducible rfl)))); (try simp only [Act.put, List.setIfInBounds_toArray, List.set_cons_zero, List.set_cons_succ])
                refine wpAnyH_take2 (i := 2) (v := ?_) rfl (by kernel_rfl) (by kernel_rfl) (by kernel_rfl) (fun _ _ _ h => h) (Or.inl ⟨by rfl, ?_⟩) (by assumption) ?_; rotate_left; (focus (intro w hSw; (skip); (first | (go_simp; done) | (go_simp; with_reducible rfl)))); (try simp only [Act.put, List.setIfInBounds_toArray, List.set_cons_zero, List.set_cons_succ])
                refine wpAnyH_take2 (i := 3) (v := ?_) rfl (by kernel_rfl) (by kernel_rfl) (by kernel_rfl) (fun _ _ _ h => h) (Or.inl ⟨by rfl, ?_⟩) (by assumption) ?_; rotate_left; (focus (intro w hSw; (skip); (first | (go_simp; done) | (go_simp; with_reducible rfl)))); (try simp only [Act.put, List.setIfInBounds_toArray, List.set_cons_zero, List.set_cons_succ])
                refine wpAnyH_take2 (i := 4) (v := ?_) rfl (by kernel_rfl) (by kernel_rfl) (by kernel_rfl) (fun _ _ _ h => h) (Or.inl ⟨by rfl, ?_⟩) (by assumption) ?_; rotate_left; (focus (intro w hSw; (skip); (first | (go_simp; done) | (go_simp; with_reducible rfl)))); (try simp only [Act.put, List.setIfInBounds_toArray, List.set_cons_zero, List.set_cons_succ])
                refine wpAnyH_ready (rs := [5]) (by kernel_rfl) (by simp) ?_; refine AllReadyH_cons2 rfl (fun K hK => ?_) AllReadyH.nil
                go_simp
                refine HST.out.mono ?_
                rintro e w3 ⟨rfl, rfl⟩
                dsimp only
                refine hK.out _ _ Q0 (fun hS9 => ?_); clear hK K; (try simp only [Act.put, List.setIfInBounds_toArray, List.set_cons_zero, List.set_cons_succ])
                refine wpAnyH_take2 (i := 6) (v := ?_) rfl (by kernel_rfl) (by kernel_rfl) (by kernel_rfl) (fun _ _ _ h => h) (Or.inl ⟨by rfl, ?_⟩) (by assumption) ?_; rotate_left; (focus (intro w hSw; (skip); (first | (go_simp; done) | (go_simp; with_reducible rfl)))); (try simp only [Act.put, List.setIfInBounds_toArray, List.set_cons_zero, List.set_cons_succ])
                refine wpAnyH_take2 (i := 7) (v := ?_) rfl (by kernel_rfl) (by kernel_rfl) (by kernel_rfl) (fun _ _ _ h => h) (Or.inl ⟨by rfl, ?_⟩) (by assumption) ?_; rotate_left; (focus (intro w hSw; (skip); (first | (go_simp; done) | (go_simp; with_reducible rfl)))); (try simp only [Act.put, List.setIfInBounds_toArray, List.set_cons_zero, List.set_cons_succ])
                refine wpAnyH_take2 (i := 8) (v := undef) rfl (by kernel_rfl) (by kernel_rfl) (by kernel_rfl) (fun _ _ _ h => h) (Or.inr ⟨by (first | rfl | (simp [Region.wanted, yielded]; done)), rfl⟩) (by assumption) ?_; (try simp only [Act.put, List.setIfInBounds_toArray, List.set_cons_zero, List.set_cons_succ])
                refine wpAnyH_take2 (i := 9) (v := undef) rfl (by kernel_rfl) (by kernel_rfl) (by kernel_rfl) (fun _ _ _ h => h) (Or.inr ⟨by (first | rfl | (simp [Region.wanted, yielded]; done)), rfl⟩) (by assumption) ?_; (try simp only [Act.put, List.setIfInBounds_toArray, List.set_cons_zero, List.set_cons_succ])
                refine wpAnyH_take2 (i := 10) (v := undef) rfl (by kernel_rfl) (by kernel_rfl) (by kernel_rfl) (fun _ _ _ h => h) (Or.inr ⟨by (first | rfl | (simp [Region.wanted, yielded]; done)), rfl⟩) (by assumption) ?_; (try simp only [Act.put, List.setIfInBounds_toArray, List.set_cons_zero, List.set_cons_succ])
                refine wpAnyH_take2 (i := 11) (v := undef) rfl (by kernel_rfl) (by kernel_rfl) (by kernel_rfl) (fun _ _ _ h => h) (Or.inr ⟨by (first | rfl | (simp [Region.wanted, yielded]; done)), rfl⟩) (by assumption) ?_; (try simp only [Act.put, List.setIfInBounds_toArray, List.set_cons_zero, List.set_cons_succ])
                refine wpAnyH_take2 (i := 12) (v := undef) rfl (by kernel_rfl) (by kernel_rfl) (by kernel_rfl) (fun _ _ _ h => h) (Or.inr ⟨by (first | rfl | (simp [Region.wanted, yielded]; done)), rfl⟩) (by assumption) ?_; (try simp only [Act.put, List.setIfInBounds_toArray, List.set_cons_zero, List.set_cons_succ])
                refine wpAnyH_take2 (i := 13) (v := undef) rfl (by kernel_rfl) (by kernel_rfl) (by kernel_rfl) (fun _ _ _ h => h) (Or.inr ⟨by (first | rfl | (simp [Region.wanted, yielded]; done)), rfl⟩) (by assumption) ?_; (try simp only [Act.put, List.setIfInBounds_toArray, List.set_cons_zero, List.set_cons_succ])
                refine wpAnyH_take2 (i := 14) (v := undef) rfl (by kernel_rfl) (by kernel_rfl) (by kernel_rfl) (fun _ _ _ h => h) (Or.inr ⟨by (first | rfl | (simp [Region.wanted, yielded]; done)), rfl⟩) (by assumption) ?_; (try simp only [Act.put, List.setIfInBounds_toArray, List.set_cons_zero, List.set_cons_succ])
                refine wpAnyH_take2 (i := 15) (v := undef) rfl (by kernel_rfl) (by kernel_rfl) (by kernel_rfl) (fun _ _ _ h => h) (Or.inr ⟨by (first | rfl | (simp [Region.wanted, yielded]; done)), rfl⟩) (by assumption) ?_; (try simp only [Act.put, List.setIfInBounds_toArray, List.set_cons_zero, List.set_cons_succ])
                refine wpAnyH_take2 (i := 16) (v := ?_) rfl (by kernel_rfl) (by kernel_rfl) (by kernel_rfl) (fun _ _ _ h => h) (Or.inl ⟨by rfl, ?_⟩) (by assumption) ?_; rotate_left; (focus (intro w hSw; (skip); (first | (go_simp; done) | (go_simp; with_reducible rfl)))); (try simp only [Act.put, List.setIfInBounds_toArray, List.set_cons_zero, List.set_cons_succ])
                refine wpAnyH_done (by kernel_rfl) ?_ _
                go_wp2_with fail
                go_ret
                exact ⟨rfl, HB.out.drew⟩
              | true =>
                have hq2 : (st != 2) = false := by simp only [bne, hq]; rfl
                rw [hq, Bool.true_and] at HS
                clear hq
                go_wp2_with fail
                refine wp_region_held_drew (S := fun w' => w'.cell? ⟨b, off + j, none⟩ = some (.int .i64 t)) (by kernel_rfl) Q0 (fun hS9 => ?_)
                refine wpAnyH_take2 (i := 0) (v := ?_) rfl (by kernel_rfl) (by kernel_rfl) (by kernel_rfl) (fun _ _ _ h => h) (Or.inl ⟨by rfl, ?_⟩) (by assumption) ?_; rotate_left; (focus (intro w hSw; (skip); (first | (go_simp; done) | (go_simp; with_reducible rfl)))); (try simp only [Act.put, List.setIfInBounds_toArray, List.set_cons_zero, List.set_cons_succ])
                refine wpAnyH_take2 (i := 1) (v := ?_) rfl (by kernel_rfl) (by kernel_rfl) (by kernel_rfl) (fun _ _ _ h => h) (Or.inl ⟨by rfl, ?_⟩) (by assumption) ?_; rotate_left; (focus (intro w hSw; (skip); (first | (go_simp; done) | (go_simp; with_reducible rfl)))); (try simp only [Act.put, List.setIfInBounds_toArray, List.set_cons_zero, List.set_cons_succ])
                refine wpAnyH_take2 (i := 2) (v := ?_) rfl (by kernel_rfl) (by kernel_rfl) (by kernel_rfl) (fun _ _ _ h => h) (Or.inl ⟨by rfl, ?_⟩) (by assumption) ?_; rotate_left; (focus (intro w hSw; (skip); (first | (go_simp; done) | (go_simp; with_reducible rfl)))); (try simp only [Act.put, List.setIfInBounds_toArray, List.set_cons_zero, List.set_cons_succ])
                refine wpAnyH_take2 (i := 3) (v := ?_) rfl (by kernel_rfl) (by kernel_rfl) (by kernel_rfl) (fun _ _ _ h => h) (Or.inl ⟨by rfl, ?_⟩) (by assumption) ?_; rotate_left; (focus (intro w hSw; (skip); (first | (go_simp; done) | (go_simp; with_reducible rfl)))); (try simp only [Act.put, List.setIfInBounds_toArray, List.set_cons_zero, List.set_cons_succ])
                refine wpAnyH_take2 (i := 4) (v := ?_) rfl (by kernel_rfl) (by kernel_rfl) (by kernel_rfl) (fun _ _ _ h => h) (Or.inl ⟨by rfl, ?_⟩) (by assumption) ?_; rotate_left; (focus (intro w hSw; (skip); (first | (go_simp; done) | (go_simp; with_reducible rfl)))); (try simp only [Act.put, List.setIfInBounds_toArray, List.set_cons_zero, List.set_cons_succ])
                refine wpAnyH_ready (rs := [5]) (by kernel_rfl) (by simp) ?_; refine AllReadyH_cons2 rfl (fun K hK => ?_) AllReadyH.nil
                go_simp
                refine HST.out.mono ?_
                rintro e w3 ⟨rfl, rfl⟩
                dsimp only
                refine hK.out _ _ Q0 (fun hS9 => ?_); clear hK K; (try simp only [Act.put, List.setIfInBounds_toArray, List.set_cons_zero, List.set_cons_succ])
                refine wpAnyH_take2 (i := 6) (v := ?_) rfl (by kernel_rfl) (by kernel_rfl) (by kernel_rfl) (fun _ _ _ h => h) (Or.inl ⟨by rfl, ?_⟩) (by assumption) ?_; rotate_left; (focus (intro w hSw; (skip); (first | (go_simp; done) | (go_simp; with_reducible rfl)))); (try simp only [Act.put, List.setIfInBounds_toArray, List.set_cons_zero, List.set_cons_succ])
                refine wpAnyH_take2 (i := 7) (v := ?_) rfl (by kernel_rfl) (by kernel_rfl) (by kernel_rfl) (fun _ _ _ h => h) (Or.inl ⟨by rfl, ?_⟩) (by assumption) ?_; rotate_left; (focus (intro w hSw; (skip); (first | (go_simp; done) | (go_simp; with_reducible rfl)))); (try simp only [Act.put, List.setIfInBounds_toArray, List.set_cons_zero, List.set_cons_succ])
                refine wpAnyH_take2 (i := 8) (v := ?_) rfl (by kernel_rfl) (by kernel_rfl) (by kernel_rfl) (fun _ _ _ h => h) (Or.inl ⟨by rfl, ?_⟩) (by assumption) ?_; rotate_left; (focus (intro w hSw; (skip); (first | (go_simp; done) | (go_simp; with_reducible rfl)))); (try simp only [Act.put, List.setIfInBounds_toArray, List.set_cons_zero, List.set_cons_succ])
                refine wpAnyH_take2 (i := 9) (v := ?_) rfl (by kernel_rfl) (by kernel_rfl) (by kernel_rfl) (fun _ _ _ h => h) (Or.inl ⟨by rfl, ?_⟩) (by assumption) ?_; rotate_left; (focus (intro w hSw; (skip); (first | (go_simp; done) | (go_simp; with_reducible rfl)))); (try simp only [Act.put, List.setIfInBounds_toArray, List.set_cons_zero, List.set_cons_succ])
                refine wpAnyH_take2 (i := 10) (v := ?_) rfl (by kernel_rfl) (by kernel_rfl) (by kernel_rfl) (fun _ _ _ h => h) (Or.inl ⟨by rfl, ?_⟩) (by assumption) ?_; rotate_left; (focus (intro w hSw; (skip); (first | (go_simp; done) | (go_simp; with_reducible rfl)))); (try simp only [Act.put, List.setIfInBounds_toArray, List.set_cons_zero, List.set_cons_succ])
                refine wpAnyH_take2 (i := 11) (v := ?_) rfl (by kernel_rfl) (by kernel_rfl) (by kernel_rfl) (fun _ _ _ h => h) (Or.inl ⟨by rfl, ?_⟩) (by assumption) ?_; rotate_left; (focus (intro w hSw; (skip); (first | (go_simp; done) | (go_simp; with_reducible rfl)))); (try simp only [Act.put, List.setIfInBounds_toArray, List.set_cons_zero, List.set_cons_succ])
                refine wpAnyH_take2 (i := 12) (v := ?_) rfl (by kernel_rfl) (by kernel_rfl) (by kernel_rfl) (fun _ _ _ h => h) (Or.inl ⟨by rfl, ?_⟩) (by assumption) ?_; rotate_left; (focus (intro w hSw; (skip); (first | (go_simp; done) | (go_simp; with_reducible rfl)))); (try simp only [Act.put, List.setIfInBounds_toArray, List.set_cons_zero, List.set_cons_succ])
                refine wpAnyH_take2 (i := 13) (v := ?_) rfl (by kernel_rfl) (by kernel_rfl) (by kernel_rfl) (fun _ _ _ h => h) (Or.inl ⟨by rfl, ?_⟩) (by assumption) ?_; rotate_left; (focus (intro w hSw; (skip); (first | (go_simp; done) | (go_simp; with_reducible rfl)))); (try simp only [Act.put, List.setIfInBounds_toArray, List.set_cons_zero, List.set_cons_succ])
                refine wpAnyH_take2 (i := 14) (v := ?_) rfl (by kernel_rfl) (by kernel_rfl) (by kernel_rfl) (fun _ _ _ h => h) (Or.inl ⟨by rfl, ?_⟩) (by assumption) ?_; rotate_left; (focus (intro w hSw; (skip); (first | (go_simp; done) | (go_simp; with_reducible rfl)))); (try simp only [Act.put, List.setIfInBounds_toArray, List.set_cons_zero, List.set_cons_succ])
                refine wpAnyH_ready (rs := [15]) (by kernel_rfl) (by simp) ?_; refine AllReadyH_cons2 rfl (fun K hK => ?_) AllReadyH.nil
                go_simp
                refine HIN.out.mono ?_
                rintro e w3 ⟨rfl, rfl⟩
                dsimp only
                refine hK.out _ _ Q0 (fun hS9 => ?_); clear hK K; (try simp only [Act.put, List.setIfInBounds_toArray, List.set_cons_zero, List.set_cons_succ])
                refine wpAnyH_take2 (i := 16) (v := ?_) rfl (by kernel_rfl) (by kernel_rfl) (by kernel_rfl) (fun _ _ _ h => h) (Or.inl ⟨by rfl, ?_⟩) (by assumption) ?_; rotate_left; (focus (intro w hSw; (skip); (first | (go_simp; done) | (go_simp; with_reducible rfl)))); (try simp only [Act.put, List.setIfInBounds_toArray, List.set_cons_zero, List.set_cons_succ])
                refine wpAnyH_done (by kernel_rfl) ?_ _
                cases hi : decide (t ∈ C.take j) with
                | true =>
                  have hx : r = 2 := HBAD.out (by rw [HS.out, hi]; rfl)
                  subst hx
                  go_wp2_with fail
                  go_ret
                  exact ⟨rfl, HB.out.drew⟩
                | false =>
                  have HN := Lib.hid (show pendOk l (C.take (j + 1)) = true by rw [HS.out, hi]; rfl)
                  go_wp2_with fail
                  exact ⟨⟨j + 1, by go_num, by omega, HN.out, HB.out.drew⟩, by simp [intOf]; omega⟩
            · obtain rfl : j = m2 := by omega
              have hv := HP.out
              rw [List.take_of_length_le (by rw [H.out.com.1]; exact Nat.le_refl _)] at hv
              have hx : r = 0 := by rw [HX.out]; unfold pendE; rw [if_pos hv]
              subst hx
              clear hv
              go_wp2_with fail
              go_ret
              exact ⟨rfl, HB.out⟩
end Go.Proofs.YtganmdbhmihjpaaGreat.Opa
