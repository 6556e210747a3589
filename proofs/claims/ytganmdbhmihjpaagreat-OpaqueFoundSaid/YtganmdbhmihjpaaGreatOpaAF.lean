/- The document's side: Legal and Heap. -/
import Derived.Test.YtganmdbhmihjpaaGreatOpaAE
import Derived.Test.YtganmdbhmihjpaaGreatOpaV
namespace Go.Proofs.YtganmdbhmihjpaaGreat.Opa
open Go.RowKit Go.Proofs.YtganmdbhmihjpaaGreat.Wri Go.Proofs.YtganmdbhmihjpaaGreat.His
set_option linter.unusedSimpArgs false
set_option linter.unusedVariables false
set_option maxRecDepth 50000

theorem alike_mem {xs ys : List Int} (h : alikeB xs ys = true) : xs.Perm ys ∧ xs.Nodup := by
  unfold alikeB at h
  simp only [Bool.and_eq_true, decide_eq_true_eq] at h
  exact ⟨sortL_eq_perm h.1, h.2⟩
theorem alike_len {xs ys : List Int} (h : xs.length ≠ ys.length) : alikeB xs ys = false := by
  cases hh : alikeB xs ys with
  | false => rfl
  | true => exact absurd (alike_mem hh).1.length_eq h
theorem alike_dup {xs ys : List Int} (h : ¬ xs.Nodup) : alikeB xs ys = false := by
  cases hh : alikeB xs ys with
  | false => rfl
  | true => exact absurd (alike_mem hh).2 h
theorem alike_out {xs ys : List Int} {x : Int} (hx : x ∈ xs) (h : x ∉ ys) : alikeB xs ys = false := by
  cases hh : alikeB xs ys with
  | false => rfl
  | true => exact absurd ((alike_mem hh).1.mem_iff.1 hx) h
theorem pend_nil (l : List Ev) : pendE l [] = 0 := rfl
theorem legal_three {l : List Ev} {vs order C : List Int} (h : formE l vs = 3) : legalL l vs order C = (0, 3, []) := by
  unfold legalL checkE
  rw [if_pos h]
  rfl
theorem legal_two {l : List Ev} {vs order C : List Int} (h : formE l vs = 0) (ha : alikeB order (attL l) = false) : legalL l vs order C = (0, 2, []) := by
  unfold legalL checkE
  rw [h, ha]
  rfl
theorem legal_pend {l : List Ev} {vs order C : List Int} (h : formE l vs = 0) (ha : alikeB order (attL l) = true) (hp : pendE l C = 2) : legalL l vs order C = (0, 2, []) := by
  unfold legalL checkE
  rw [h, ha, hp]
  rfl
theorem legal_first {l : List Ev} {vs order C : List Int} (h : formE l vs = 0) (ha : alikeB order (attL l) = true) (hp : pendE l C = 0) : legalL l vs order C = firstL l (oneOf l C) order 0 vs := by
  unfold legalL checkE
  rw [h, ha, hp]
  rfl
theorem form_zero {l : List Ev} {vs : List Int} (h : formE l vs ≠ 3) : formE l vs = 0 ∧ His.Good l := by
  rcases formE_or l vs with ⟨h1, h2, _⟩ | h1
  · exact ⟨h1, h2⟩
  · exact absurd h1 h
def RLegalPost (w : World) (R : Int × Int × List Int) (e : Ending) (w' : World) : Prop := e = .returned (.tuple #[.int .i64 R.1, .int .i64 R.2.1]) ∧ Below w.heap.size w w'
theorem RLegalPost.mk {w w' : World} {R : Int × Int × List Int} {i x : Int} {vs : List Int} (hR : R = (i, x, vs)) (l : Below w.heap.size w w') : RLegalPost w R (.returned (.tuple #[.int .i64 i, .int .i64 x])) w' := by
  subst hR
  exact ⟨rfl, l⟩
set_option maxHeartbeats 6400000 in
theorem rlegal_any {w : World} {p : Option Addr} {n c : Nat} {l : List Ev} {a : Option Addr} {m d : Nat} {vs : List Int} {a2 : Option Addr} {m2 d2 : Nat} {C : List Int} (h : Asked w p n c l a m d vs a2 m2 d2 C) (hm2 : m2 ≤ 1000000)
    (a1 : Option Addr) (m1 d1 : Nat) (order : List Int) (ho : IntsIn w a1 m1 order) (hm1 : m1 ≤ 1000) (hmd1 : m1 ≤ d1) :
    Calls Tryz.prog 13 #[.slice p n c, .slice a m d, .slice a1 m1 d1, .slice a2 m2 d2] w (RLegalPost w (legalL l vs order C)) := by
  obtain ⟨R, hR⟩ : ∃ R, legalL l vs order C = R := ⟨_, rfl⟩
  rw [hR]
  have HR := Lib.hid hR; have H := Lib.hid h; have HO := Lib.hid ho
  have HA0 := Lib.hid (rasked_any (C := []) (⟨h.evs, h.ok, h.hn, h.vals, h.u64, h.hm, h.hz, ⟨rfl, .inl rfl⟩, by omega, Nat.le_refl _⟩ : Asked w p n c l a m d vs none 0 0 []) (by omega))
  clear hR h ho
  by_cases hf : formE l vs = 3
  · have hx : R = (0, 3, []) := by rw [← HR.out]; exact legal_three hf
    have he : askE l vs [] = 3 := by unfold askE; rw [if_pos hf]
    rw [he] at HA0
    clear hf he
    go_enter Tryz.func13, Tryz.ntmps13
    go_wp2_with fail
    refine HA0.out.mono ?_
    rintro e w1 ⟨rfl, l1⟩
    have L1 := Lib.hid l1
    clear l1
    go_wp2_with fail
    refine bodyPost_ret (v := .tuple #[.int .i64 0, .int .i64 3]) ?_ rfl ?_; (focus (simp [results, Tryz.results13, go_sem, Nat.zero_le]; done))
    exact .mk hx L1.out
  · have he : askE l vs [] = 0 := by unfold askE; rw [if_neg hf]; rfl
    rw [he] at HA0
    obtain ⟨hf0, hgood⟩ := form_zero hf
    have HF0 := Lib.hid hf0; have HG := Lib.hid hgood; have HF := Lib.hid hf
    clear he hf hf0 hgood
    go_enter Tryz.func13, Tryz.ntmps13
    go_wp2_with fail
    refine HA0.out.mono ?_
    rintro e w1 ⟨rfl, l1⟩
    have L1 := Lib.hid l1
    have HA1 := Lib.hid (H.out.below l1)
    clear l1 HA0
    go_wp2_with fail
    refine (rattempts_any w1 p n c l HA1.out.evs (by have := HA1.out.hn; omega)).mono ?_
    rintro e w2 ⟨v, rfl, hv, l2⟩
    obtain ⟨a3, c3, rfl, hi3⟩ := hv.open
    have L2 := Lib.hid (btrans L1.out (Nat.le_refl _) l2)
    have HI3 := Lib.hid hi3
    have hNl : (attL l).length ≤ 1000 := by have := attL_le l; rw [HA1.out.evs.1] at this; have := HA1.out.hn; omega
    obtain ⟨N, hN⟩ : ∃ N, (attL l).length = N := ⟨_, rfl⟩
    have HN := Lib.hid hN
    rw [hN] at HI3 hNl ⊢
    clear hv hi3 l2 hN
    by_cases hlen : m1 = N
    · subst hlen
      have hne : ((m1 : Int) != (m1 : Int)) = false := by simp
      have HEA := Lib.hid (reach_any w2 a1 m1 d1 order (HO.out.below L2.out) (by omega) hmd1)
      go_wp2_with fail
      refine HEA.out.mono ?_
      rintro e w3 ⟨rfl, l3⟩
      have L3 := Lib.hid (btrans L2.out (Nat.le_refl _) l3)
      have HI4 := Lib.hid (HI3.out.below l3)
      clear l3 HEA
      by_cases hnd : order.Nodup
      · have hd : decide order.Nodup = true := by simpa using hnd
        rw [hd]
        have HND := Lib.hid hnd
        clear hnd hd hne
        go_wp2_with fail
        go_loopw [12] (fun i wr => ∃ k : Nat, i = .int .i64 k ∧ k ≤ m1 ∧ (∀ x ∈ order.take k, x ∈ attL l) ∧ Below w3.heap.size w3 wr) (fun i _ => m1 - (intOf i).toNat)
        case atStart => exact ⟨0, rfl, Nat.zero_le _, by simp, Below.refl _ _⟩
        case round =>
          obtain ⟨k, rfl, hk, hno, hB⟩ := hrel
          have HNO := Lib.hid hno; have HB := Lib.hid hB
          clear hno hB
          have LB := Lib.hid (btrans L3.out (Nat.le_refl _) HB.out)
          by_cases hlt : k < m1
          · obtain ⟨b, off, rfl, hc⟩ := HO.out.2.resolve_left (by omega)
            have c0 := bkeep LB.out (hc k hlt)
            have hT := take_snoc order k (by rw [HO.out.1]; exact hlt)
            have hmem : order.getD k 0 ∈ order := by
              rw [List.getD_eq_getElem?_getD, List.getElem?_eq_getElem (by rw [HO.out.1]; exact hlt)]
              exact List.getElem_mem _
            obtain ⟨t, ht⟩ : ∃ t, order.getD k 0 = t := ⟨_, rfl⟩
            rw [ht] at c0 hT hmem
            have HT := Lib.hid hT; have HMEM := Lib.hid hmem
            have HIN := Lib.hid (rin_o wr a3 m1 c3 (attL l) t (HI4.out.below HB.out) (by omega))
            have hw1 : IntKind.i64.wrap ((k : Int) + 1) = (k : Int) + 1 := by rw [IntKind.wrap_i64]; omega
            have hkn : (k : Int) < m1 := by omega
            clear hc hT hmem ht
            cases hi : decide (t ∈ attL l) with
            | false =>
              have hx : R = (0, 2, []) := by rw [← HR.out]; exact legal_two HF0.out (alike_out HMEM.out (by simpa using hi))
              rw [hi] at HIN
              clear hi
              go_wp2_with fail
              refine HIN.out.mono ?_
              rintro e w4 ⟨rfl, rfl⟩
              go_wp2_with fail
              refine bodyPost_ret (v := .tuple #[.int .i64 0, .int .i64 2]) ?_ rfl ?_; (focus (simp [results, Tryz.results13, go_sem, Nat.zero_le]; done))
              exact .mk hx LB.out
            | true =>
              have HN2 := Lib.hid (show ∀ x ∈ order.take (k + 1), x ∈ attL l by
                intro x hx
                rw [HT.out, List.mem_append, List.mem_singleton] at hx
                rcases hx with hx | hx
                · exact HNO.out x hx
                · rw [hx]; simpa using hi)
              rw [hi] at HIN
              clear hi
              go_wp2_with fail
              refine HIN.out.mono ?_
              rintro e w4 ⟨rfl, rfl⟩
              go_wp2_with fail
              exact ⟨⟨k + 1, by go_num, by omega, HN2.out, HB.out⟩, by simp [intOf]; omega⟩
          · obtain rfl : k = m1 := by omega
            have hall : ∀ x ∈ order, x ∈ attL l := fun x hx => HNO.out x (by rw [List.take_of_length_le (by rw [HO.out.1]; exact Nat.le_refl _)]; exact hx)
            have HAL := Lib.hid (alike_perm (perm_of_sub order (attL l) HND.out hall (by rw [HO.out.1, HN.out])) HND.out)
            have HA5 := Lib.hid (H.out.below LB.out)
            have HAS := Lib.hid (rasked_any HA5.out hm2)
            have hae : askE l vs C = pendE l C := by unfold askE; rw [if_neg HF.out]
            rw [hae] at HAS
            clear hall hae HNO HI3 HI4
            rcases pendE_or l C with hp | hp
            · have hx : R = firstL l (oneOf l C) order 0 vs := by rw [← HR.out]; exact legal_first HF0.out HAL.out hp
              rw [hp] at HAS
              have HX := Lib.hid hx
              clear hp hx
              go_wp2_with fail
              refine HAS.out.mono ?_
              rintro e w5 ⟨rfl, l5⟩
              have L5 := Lib.hid (btrans LB.out (Nat.le_refl _) l5)
              have HRU := Lib.hid (rrun_any (H.out.below L5.out) hm2 (fun t => oneOf_ok HG.out (by rw [H.out.evs.1]; have := H.out.hn; omega) C t) a1 k d1 order (HO.out.below L5.out) (by omega))
              rw [← HX.out] at HRU
              clear l5 HAS
              go_wp2_with fail
              refine HRU.out.mono ?_
              rintro e w6 ⟨l6, ⟨hne, rfl⟩ | ⟨hz, v, rfl, _⟩⟩
              · have L6 := Lib.hid (btrans L5.out (Nat.le_refl _) l6)
                obtain ⟨R1, R2, R3⟩ := R
                simp only
                clear hne l6
                go_wp2_with fail
                refine bodyPost_ret (v := .tuple #[.int .i64 R1, .int .i64 R2]) ?_ rfl ?_; (focus (simp [results, Tryz.results13, go_sem, Nat.zero_le]; done))
                exact .mk rfl L6.out
              · have L6 := Lib.hid (btrans L5.out (Nat.le_refl _) l6)
                have hR1 : R.1 = 0 := by
                  rw [HX.out] at hz ⊢
                  exact first_zero _ _ _ _ _ hz
                obtain ⟨R1, R2, R3⟩ := R
                simp only at hz hR1
                subst hz hR1
                clear l6
                go_wp2_with fail
                refine bodyPost_ret (v := .tuple #[.int .i64 0, .int .i64 0]) ?_ rfl ?_; (focus (simp [results, Tryz.results13, go_sem, Nat.zero_le]; done))
                exact .mk rfl L6.out
            · have hx : R = (0, 2, []) := by rw [← HR.out]; exact legal_pend HF0.out HAL.out hp
              rw [hp] at HAS
              clear hp
              go_wp2_with fail
              refine HAS.out.mono ?_
              rintro e w5 ⟨rfl, l5⟩
              have L5 := Lib.hid (btrans LB.out (Nat.le_refl _) l5)
              clear l5
              go_wp2_with fail
              refine bodyPost_ret (v := .tuple #[.int .i64 0, .int .i64 2]) ?_ rfl ?_; (focus (simp [results, Tryz.results13, go_sem, Nat.zero_le]; done))
              exact .mk hx L5.out
      · have hd : decide order.Nodup = false := by simpa using hnd
        have hx : R = (0, 2, []) := by rw [← HR.out]; exact legal_two HF0.out (alike_dup hnd)
        rw [hd]
        clear hnd hd hne
        go_wp2_with fail
        refine bodyPost_ret (v := .tuple #[.int .i64 0, .int .i64 2]) ?_ rfl ?_; (focus (simp [results, Tryz.results13, go_sem, Nat.zero_le]; done))
        exact .mk hx L3.out
    · have hx : R = (0, 2, []) := by rw [← HR.out]; exact legal_two HF0.out (alike_len (by rw [HO.out.1, HN.out]; exact hlen))
      have hne : ((m1 : Int) != (N : Int)) = true := by simp; omega
      clear hlen
      go_wp2_with fail
      refine bodyPost_ret (v := .tuple #[.int .i64 0, .int .i64 2]) ?_ rfl ?_; (focus (simp [results, Tryz.results13, go_sem, Nat.zero_le]; done))
      exact .mk hx L2.out
def RHeapPost (w : World) (R : Int × Int × List Int) (e : Ending) (w' : World) : Prop :=
  Below w.heap.size w w' ∧ ((R.2.1 ≠ 0 ∧ e = .returned (.tuple #[.slice none 0 0, .int .i64 R.2.1])) ∨ (R.2.1 = 0 ∧ ∃ v, e = .returned (.tuple #[v, .int .i64 0]) ∧ ValsAt 0 w' v R.2.2))
theorem RHeapPost.bad {w w' : World} {R1 R2 : Int} {R3 : List Int} (hx : R2 ≠ 0) (l : Below w.heap.size w w') : RHeapPost w (R1, R2, R3) (.returned (.tuple #[.slice none 0 0, .int .i64 R2])) w' := ⟨l, .inl ⟨hx, rfl⟩⟩
theorem RHeapPost.good {w w' : World} {R1 : Int} {R3 : List Int} {v : Value} (l : Below w.heap.size w w') (h : ValsAt 0 w' v R3) : RHeapPost w (R1, 0, R3) (.returned (.tuple #[v, .int .i64 0])) w' := ⟨l, .inr ⟨rfl, v, rfl, h⟩⟩
set_option maxHeartbeats 6400000 in
theorem rheap_any {w : World} {p : Option Addr} {n c : Nat} {l : List Ev} {a : Option Addr} {m d : Nat} {vs : List Int} {a2 : Option Addr} {m2 d2 : Nat} {C : List Int} (h : Asked w p n c l a m d vs a2 m2 d2 C) (hm2 : m2 ≤ 1000000)
    (a1 : Option Addr) (m1 d1 : Nat) (order : List Int) (ho : IntsIn w a1 m1 order) (hm1 : m1 ≤ 1000) (hmd1 : m1 ≤ d1) :
    Calls Tryz.prog 15 #[.slice p n c, .slice a m d, .slice a1 m1 d1, .slice a2 m2 d2] w (RHeapPost w (legalL l vs order C)) := by
  have HLG := Lib.hid (rlegal_any h hm2 a1 m1 d1 order ho hm1 hmd1)
  obtain ⟨R, hR⟩ : ∃ R, legalL l vs order C = R := ⟨_, rfl⟩
  rw [hR] at HLG ⊢
  have HR := Lib.hid hR; have H := Lib.hid h; have HO := Lib.hid ho
  clear hR h ho
  obtain ⟨R1, R2, R3⟩ := R
  go_enter Tryz.func15, Tryz.ntmps15
  go_wp2_with fail
  refine HLG.out.mono ?_
  rintro e w1 ⟨rfl, l1⟩
  have L1 := Lib.hid l1
  simp only
  clear l1 HLG
  by_cases hz : R2 = 0
  · subst hz
    have hc : checkE l vs order C = 0 := by
      have h1 := HR.out
      unfold legalL at h1
      split at h1
      · rename_i hh
        have h2 : checkE l vs order C = 0 := congrArg (fun x => x.2.1) h1
        exact absurd h2 hh
      · rename_i hh; exact Decidable.not_not.1 hh
    obtain ⟨_, hgood, _⟩ := check_ok hc
    have hx : firstL l (oneOf l C) order 0 vs = (R1, 0, R3) := by
      have h1 := HR.out
      unfold legalL at h1
      rw [hc] at h1
      exact h1
    have HRU := Lib.hid (rrun_any (H.out.below L1.out) hm2 (fun t => oneOf_ok hgood (by rw [H.out.evs.1]; have := H.out.hn; omega) C t) a1 m1 d1 order (HO.out.below L1.out) hm1)
    rw [hx] at HRU
    clear hx hc hgood
    go_wp2_with fail
    refine HRU.out.mono ?_
    rintro e w2 ⟨l2, ⟨hne, _⟩ | ⟨_, v, rfl, hv⟩⟩
    · exact absurd rfl hne
    · have L2 := Lib.hid (btrans L1.out (Nat.le_refl _) l2)
      obtain ⟨va, vc, rfl⟩ := ownsRow_slice hv
      have HV := Lib.hid hv
      simp only at HV
      clear hv l2 HRU
      go_wp2_with fail
      refine bodyPost_ret (v := .tuple #[.slice va R3.length vc, .int .i64 0]) ?_ rfl ?_; (focus (simp [results, Tryz.results15, go_sem, Nat.zero_le]; done))
      exact .good L2.out HV.out
  · have hq : (R2 != 0) = true := by simpa using hz
    have HZ := Lib.hid hz
    clear hz
    go_wp2_with fail
    refine bodyPost_ret (v := .tuple #[.slice none 0 0, .int .i64 R2]) ?_ rfl ?_; (focus (simp [results, Tryz.results15, go_sem, Nat.zero_le]; done))
    exact .bad HZ.out L1.out
end Go.Proofs.YtganmdbhmihjpaaGreat.Opa
