/- The document's side: Found. -/
import Derived.Test.YtganmdbhmihjpaaGreatOpaAI
import Derived.Test.YtganmdbhmihjpaaGreatOpaAF
import Derived.Test.YtganmdbhmihjpaaGreatOpaP
namespace Go.Proofs.YtganmdbhmihjpaaGreat.Opa
open Go.RowKit Go.Proofs.YtganmdbhmihjpaaGreat.Wri Go.Proofs.YtganmdbhmihjpaaGreat.His
set_option linter.unusedSimpArgs false
set_option linter.unusedVariables false
set_option maxRecDepth 50000

theorem intsAt_open3 {B : Nat} {w : World} {v : Value} {ts : List Int} (h : IntsAt B w v ts) : ∃ a c, v = .slice a ts.length c ∧ ts.length ≤ c ∧ (a = none → ts.length = 0 ∧ c = 0) ∧ IntsIn w a ts.length ts := by
  obtain ⟨a, c, rfl, hi⟩ := h.open
  refine ⟨a, c, rfl, ?_, ?_, hi⟩
  · rcases h.2 with ⟨e, h0⟩ | ⟨g, cap, cur, e, _, _, hn, _⟩
    · rw [h0]; exact Nat.zero_le _
    · injection e with _ _ e
      rw [e]; exact hn
  · intro e0
    rcases h.2 with ⟨e, h0⟩ | ⟨g, cap, cur, e, _⟩
    · injection e with _ e1 e2
      exact ⟨e1, e2⟩
    · injection e with e1 _ _
      rw [e0] at e1
      cases e1
theorem found_three {l : List Ev} {vs C : List Int} (h : formE l vs = 3) : foundL l vs C = (3, []) := by unfold foundL; rw [if_pos h]
theorem found_two {l : List Ev} {vs C : List Int} (h : formE l vs ≠ 3) (hp : pendE l C = 2) : foundL l vs C = (2, []) := by unfold foundL; rw [if_neg h, if_pos hp]
theorem found_four {l : List Ev} {vs C : List Int} (h : formE l vs ≠ 3) (hp : pendE l C = 0) (h6 : 6 < (attL l).length) : foundL l vs C = (4, []) := by unfold foundL; rw [if_neg h, hp, if_neg (by decide), if_pos h6]
theorem found_look {l : List Ev} {vs C : List Int} (h : formE l vs ≠ 3) (hp : pendE l C = 0) (h6 : ¬ 6 < (attL l).length) : foundL l vs C = tellL (lookL l vs C) := by unfold foundL; rw [if_neg h, hp, if_neg (by decide), if_neg h6]
theorem range_snoc {β : Type} (F : Nat → Option β) {k : Nat} (h : (List.range k).findSome? F = none) (hf : F k = none) : (List.range (k + 1)).findSome? F = none := by
  rw [List.range_succ, List.findSome?_append, h]
  simp [hf]
theorem range_at {β : Type} (F : Nat → Option β) {k n : Nat} (hk : k < n) (h : (List.range k).findSome? F = none) {v : β} (hf : F k = some v) : (List.range n).findSome? F = some v := by
  have e : n = k + (n - k) := by omega
  rw [e, List.range_add, List.findSome?_append, h]
  obtain ⟨m, hm⟩ : ∃ m, n - k = m + 1 := ⟨n - k - 1, by omega⟩
  rw [hm, List.range_succ_eq_map]
  simp [hf]
set_option maxHeartbeats 12800000 in
theorem rfound_any {w : World} {p : Option Addr} {n c : Nat} {l : List Ev} {a : Option Addr} {m d : Nat} {vs : List Int} {a2 : Option Addr} {m2 d2 : Nat} {C : List Int} (h : Asked w p n c l a m d vs a2 m2 d2 C) (hm2 : m2 ≤ 1000000) :
    Calls Tryz.prog 8 #[.slice p n c, .slice a m d, .slice a2 m2 d2] w (FoundPost w (foundL l vs C)) := by
  obtain ⟨R, hR⟩ : ∃ R, foundL l vs C = R := ⟨_, rfl⟩
  rw [hR]
  have HR := Lib.hid hR; have H := Lib.hid h
  have HA := Lib.hid (rasked_any h hm2)
  clear hR h
  by_cases hf : formE l vs = 3
  · have hx : R = (3, []) := by rw [← HR.out]; exact found_three hf
    have he : askE l vs C = 3 := by unfold askE; rw [if_pos hf]
    subst hx
    rw [he] at HA
    clear hf he
    go_enter Tryz.func8, Tryz.ntmps8
    go_wp2_with fail
    refine HA.out.mono ?_
    rintro e w1 ⟨rfl, l1⟩
    have L1 := Lib.hid l1
    clear l1
    go_wp2_with fail
    refine bodyPost_ret (v := .tuple #[.slice none 0 0, .int .i64 3]) ?_ rfl ?_; (focus (simp [results, Tryz.results8, go_sem, Nat.zero_le]; done))
    exact .mk L1.out none 0 rfl (Nat.le_refl _) ⟨rfl, .inl rfl⟩
  · have he : askE l vs C = pendE l C := by unfold askE; rw [if_neg hf]
    rw [he] at HA
    obtain ⟨hf0, hgood⟩ := form_zero hf
    rcases pendE_or l C with hp | hp
    · rw [hp] at HA
      have HF := Lib.hid hf; have HG := Lib.hid hgood; have HP := Lib.hid hp
      clear he hf hf0 hgood hp
      go_enter Tryz.func8, Tryz.ntmps8
      go_wp2_with fail
      refine HA.out.mono ?_
      rintro e w1 ⟨rfl, l1⟩
      have L1 := Lib.hid l1
      have HA1 := Lib.hid (H.out.below l1)
      clear l1 HA
      go_wp2_with fail
      refine (rattempts_any w1 p n c l HA1.out.evs (by have := HA1.out.hn; omega)).mono ?_
      rintro e w2 ⟨v, rfl, hv, l2⟩
      obtain ⟨a3, c3, rfl, hc3, hz3, hi3⟩ := intsAt_open3 hv
      have L2 := Lib.hid (btrans L1.out (Nat.le_refl _) l2)
      have HI3 := Lib.hid hi3; have HZ3 := Lib.hid hz3
      obtain ⟨N, hN⟩ : ∃ N, (attL l).length = N := ⟨_, rfl⟩
      have HN := Lib.hid hN
      rw [hN] at HI3 HZ3 ⊢
      clear hv hi3 hz3 hc3 l2 hN
      by_cases h6 : 6 < N
      · have hx : R = (4, []) := by rw [← HR.out]; exact found_four HF.out HP.out (by rw [HN.out]; exact h6)
        have h6' : (6 : Int) < N := by omega
        subst hx
        go_wp2_with fail
        refine bodyPost_ret (v := .tuple #[.slice none 0 0, .int .i64 4]) ?_ rfl ?_; (focus (simp [results, Tryz.results8, go_sem, Nat.zero_le]; done))
        exact .mk L2.out none 0 rfl (Nat.le_refl _) ⟨rfl, .inl rfl⟩
      · have h6' : ¬ (6 : Int) < N := by omega
        have HX := Lib.hid (show R = tellL ((List.range (fct N)).findSome? fun k => okF l (oneOf l C) vs 0 (permL N (attL l) k)) by
          rw [← HR.out, found_look HF.out HP.out (by rw [HN.out]; exact h6), look_perm, HN.out])
        go_wp2_with fail
        go_loopw [10, 11] (fun mv i wr => ∃ j : Nat, i = .int .i64 j ∧ 2 ≤ j ∧ (j ≤ N + 1 ∨ j = 2) ∧ mv = .int .i64 (fct (j - 1) : Nat) ∧ w2 = wr) (fun _ i _ => N + 1 - (intOf i).toNat)
        case atStart => exact ⟨2, rfl, Nat.le_refl _, .inr rfl, rfl, rfl⟩
        case round =>
          obtain ⟨j, rfl, hj2, hjn, rfl, rfl⟩ := hrel
          by_cases hlt : j ≤ N
          · have hlt' : (j : Int) ≤ N := by omega
            have hfl := fct_le j (by omega)
            have hs := fct_step hj2
            have hw1 : IntKind.i64.wrap (((fct (j - 1) : Nat) : Int) * (j : Int)) = ((fct j : Nat) : Int) := by
              rw [← Int.natCast_mul, hs, IntKind.wrap_i64]
              omega
            have hw2 : IntKind.i64.wrap ((j : Int) + 1) = (j : Int) + 1 := by rw [IntKind.wrap_i64]; omega
            have HW1 := Lib.hid hw1
            clear hs hfl
            go_wp2_with fail
            exact ⟨⟨j + 1, by go_num, by omega, .inl (by omega), by first | rfl | (rw [HW1.out]; rfl), by first | exact rfl | exact trivial⟩, by simp [intOf]; omega⟩
          · have hmany : fct (j - 1) = fct N := by
              by_cases h2 : N < 2
              · obtain rfl : j = 2 := by omega
                rw [(fct_small h2).2]
                rfl
              · obtain rfl : j = N + 1 := by omega
                rfl
            rw [hmany]
            have hlt' : ¬ (j : Int) ≤ N := by omega
            have hfN := fct_le N (by omega)
            obtain ⟨Mx, hMx⟩ : ∃ Mx, fct N = Mx := ⟨_, rfl⟩
            rw [hMx] at hfN HX ⊢
            have HMX := Lib.hid hMx
            clear hmany hMx
            go_wp2_with fail
            go_loopw [12] (fun i wr => ∃ k : Nat, i = .int .i64 k ∧ k ≤ Mx ∧ ((List.range k).findSome? fun k => okF l (oneOf l C) vs 0 (permL N (attL l) k)) = none ∧ Below w2.heap.size w2 wr) (fun i _ => Mx - (intOf i).toNat)
            case atStart => exact ⟨0, rfl, Nat.zero_le _, rfl, Below.refl _ _⟩
            case round =>
              obtain ⟨k, rfl, hk, hno, hB⟩ := hrel
              have HNO := Lib.hid hno; have HB := Lib.hid hB
              clear hno hB
              have LB := Lib.hid (btrans L2.out (Nat.le_refl _) HB.out)
              by_cases hlk : k < Mx
              · have hlk' : (k : Int) < Mx := by omega
                have hwk : IntKind.i64.wrap ((k : Int) + 1) = (k : Int) + 1 := by rw [IntKind.wrap_i64]; omega
                have HT := Lib.hid (rturned_any wr a3 N c3 (attL l) k (HI3.out.below HB.out) (by omega) (by rw [HMX.out]; exact hlk) HZ3.out)
                have hpl : (permL N (attL l) k).length = N := by rw [(perm_mem N (attL l) k HN.out (by rw [HMX.out]; exact hlk)).length_eq, HN.out]
                obtain ⟨o, ho⟩ : ∃ o, permL N (attL l) k = o := ⟨_, rfl⟩
                rw [ho] at HT hpl
                have HOP := Lib.hid ho; have HPL := Lib.hid hpl
                clear ho hpl
                go_wp2_with fail
                refine HT.out.mono ?_
                rintro e w5 ⟨v5, rfl, hv5, l5⟩
                obtain ⟨ob, oc, rfl, hoc, _, hoi⟩ := intsAt_open3 hv5
                have L5 := Lib.hid (btrans LB.out (Nat.le_refl _) l5)
                have HB5 := Lib.hid (btrans HB.out (Nat.le_refl _) l5)
                have HOI := Lib.hid hoi; have HOC := Lib.hid hoc
                have HRU := Lib.hid (rrun_any (H.out.below L5.out) hm2 (fun t => oneOf_ok HG.out (by rw [H.out.evs.1]; have := H.out.hn; omega) C t) ob _ oc o hoi (by rw [HPL.out]; omega))
                have HOKF := Lib.hid (show okF l (oneOf l C) vs 0 o = if (firstL l (oneOf l C) o 0 vs).2.1 = 0 then some o else none from rfl)
                obtain ⟨Q, hQ⟩ : ∃ Q, firstL l (oneOf l C) o 0 vs = Q := ⟨_, rfl⟩
                rw [hQ] at HRU HOKF
                obtain ⟨Q1, Q2, Q3⟩ := Q
                clear hv5 l5 hoi hoc HT hQ
                go_wp2_with fail
                refine HRU.out.mono ?_
                rintro e w6 ⟨l6, ⟨hne, rfl⟩ | ⟨hz, v6, rfl, hv6⟩⟩
                · simp only at hne
                  have L6 := Lib.hid (btrans HB5.out (Nat.le_refl _) l6)
                  have HN2 := Lib.hid (range_snoc _ HNO.out (show okF l (oneOf l C) vs 0 (permL N (attL l) k) = none by rw [HOP.out, HOKF.out, if_neg hne]))
                  have hq : (Q2 == 0) = false := by simpa using hne
                  simp only
                  clear l6 hne HRU
                  go_wp2_with fail
                  exact ⟨⟨k + 1, by go_num, by omega, HN2.out, L6.out⟩, by simp [intOf]; omega⟩
                · simp only at hz
                  subst hz
                  have hx : R = (0, o) := by
                    rw [HX.out, range_at _ hlk HNO.out (show okF l (oneOf l C) vs 0 (permL N (attL l) k) = some o by rw [HOP.out, HOKF.out, if_pos rfl])]
                    rfl
                  subst hx
                  obtain ⟨vb, vc, rfl⟩ := ownsRow_slice hv6
                  have L6 := Lib.hid (btrans L5.out (Nat.le_refl _) l6)
                  have HOI6 := Lib.hid (HOI.out.below l6)
                  clear l6 hv6 HRU
                  go_wp2_with fail
                  refine bodyPost_ret (v := .tuple #[.slice ob o.length oc, .int .i64 0]) ?_ rfl ?_; (focus (simp [results, Tryz.results8, go_sem, Nat.zero_le]; done))
                  exact .mk L6.out ob oc rfl HOC.out HOI6.out
              · obtain rfl : k = Mx := by omega
                have hx : R = (5, []) := by rw [HX.out, HNO.out]; rfl
                subst hx
                go_wp2_with fail
                refine bodyPost_ret (v := .tuple #[.slice none 0 0, .int .i64 5]) ?_ rfl ?_; (focus (simp [results, Tryz.results8, go_sem, Nat.zero_le]; done))
                exact .mk LB.out none 0 rfl (Nat.le_refl _) ⟨rfl, .inl rfl⟩
    · rw [hp] at HA
      have hx : R = (2, []) := by rw [← HR.out]; exact found_two hf hp
      subst hx
      clear he hf hf0 hgood hp
      go_enter Tryz.func8, Tryz.ntmps8
      go_wp2_with fail
      refine HA.out.mono ?_
      rintro e w1 ⟨rfl, l1⟩
      have L1 := Lib.hid l1
      clear l1
      go_wp2_with fail
      refine bodyPost_ret (v := .tuple #[.slice none 0 0, .int .i64 2]) ?_ rfl ?_; (focus (simp [results, Tryz.results8, go_sem, Nat.zero_le]; done))
      exact .mk L1.out none 0 rfl (Nat.le_refl _) ⟨rfl, .inl rfl⟩
end Go.Proofs.YtganmdbhmihjpaaGreat.Opa
