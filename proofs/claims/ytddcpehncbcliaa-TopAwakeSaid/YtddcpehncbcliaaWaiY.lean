/- same, live. -/
import Derived.Test.YtddcpehncbcliaaWaiX
namespace Go.Proofs.Ytddcpehncbcliaa.Wai
open Go.RowKit
set_option linter.unusedSimpArgs false
set_option linter.unusedVariables false

theorem ths_len {ws : Ws} (h : WfW ws) : (ths ws).length ≤ 4 := by
  have := h.len
  unfold ths
  rw [List.length_map]
  exact this
set_option maxHeartbeats 1600000 in
theorem both_same {F : Nat → Prop} {w : World} {b rb n : Nat} {ws : Ws} (h : Both w b rb F n ws) : Calls Try.prog 16 #[ptr b, ptr rb] w fun e w' => e = .returned (.bool true) ∧ Below w.heap.size w w' := by
  have HB := Lib.hid h
  have hwf := h.l.wf
  have HM := Lib.hid (fun u => meetW_len hwf u)
  have HT := Lib.hid (ths_len hwf)
  clear h hwf
  go_enter Try.func16, Try.ntmps16
  go_wp2_with fail
  go_loopw [5] (fun i wr => ∃ k : Nat, i = .int .i64 ((k : Int) - 1) ∧ k ≤ 14 ∧ Below w.heap.size w wr) (fun i _ => (13 - intOf i).toNat)
  case atStart => exact ⟨0, rfl, Nat.zero_le _, Below.refl _ _⟩
  case round =>
    obtain ⟨k, rfl, hk, hL⟩ := hrel
    have HL := Lib.hid hL; clear hL
    have HW := Lib.hid (HB.out.below HL.out)
    by_cases hlt : k < 14
    · have hle : ((k : Int) - 1 ≤ 12) := by omega
      have hw : IntKind.i64.wrap ((k : Int) - 1 + 1) = (k : Int) := by rw [IntKind.wrap_i64]; omega
      go_wp2_with fail; refine (at_any _ b n ws HW.out.l _).mono ?_; rintro e w1 ⟨v1, rfl, i1, l1⟩; obtain ⟨a1, c1, rfl, n1⟩ := IntsAt.open i1; have N1 := Lib.hid n1; clear i1 n1; have HL9 := Lib.hid (btrans HL.out (Nat.le_refl _) l1); have HW9 := Lib.hid (HW.out.below l1); clear HL HW; have HL := HL9; have HW := HW9; clear HL9 HW9; clear l1; go_wp2_with fail; refine (rAt_any _ rb ws HW.out.r _).mono ?_; rintro e w2 ⟨v2, rfl, i2, l2⟩; obtain ⟨a2, c2, rfl, n2⟩ := IntsAt.open i2; have N2 := Lib.hid n2; have N1' := Lib.hid (N1.out.below l2); clear i2 n2 N1; have HL9 := Lib.hid (btrans HL.out (Nat.le_refl _) l2); have HW9 := Lib.hid (HW.out.below l2); clear HL HW; have HL := HL9; have HW := HW9; clear HL9 HW9; clear l2; go_wp2_with fail; refine (sameInts_any N1'.out N2.out (Nat.le_trans (HM.out _) (by decide))).mono ?_; rintro e w3 ⟨rfl, l3⟩; have HL9 := Lib.hid (btrans HL.out (Nat.le_refl _) l3); have HW9 := Lib.hid (HW.out.below l3); clear HL HW; have HL := HL9; have HW := HW9; clear HL9 HW9; clear l3 N1' N2
      go_wp2_with fail
      refine ⟨⟨k + 1, ?_, by omega, HL.out⟩, ?_⟩
      · simp [hw]
      · simp only [intOf, hw]; omega
    · have hle : ¬ ((k : Int) - 1 ≤ 12) := by omega
      clear hlt hk
      go_wp2_with fail
      go_loopw [6] (fun i wr => ∃ k : Nat, i = .int .i64 ((k : Int) - 1) ∧ k ≤ 6 ∧ Below w.heap.size w wr) (fun i _ => (5 - intOf i).toNat)
      case atStart => exact ⟨0, rfl, Nat.zero_le _, HL.out⟩
      case round =>
        clear HW HL
        obtain ⟨q, rfl, hk, hL⟩ := hrel
        have HL := Lib.hid hL; clear hL
        have HW := Lib.hid (HB.out.below HL.out)
        by_cases hlt : q < 6
        · have hle2 : ((q : Int) - 1 ≤ 4) := by omega
          have hw : IntKind.i64.wrap ((q : Int) - 1 + 1) = (q : Int) := by rw [IntKind.wrap_i64]; omega
          go_wp2_with fail; refine (of_any _ b n ws HW.out.l _).mono ?_; rintro e w1 ⟨v1, rfl, i1, l1⟩; obtain ⟨a1, c1, rfl, n1⟩ := IntsAt.open i1; have N1 := Lib.hid n1; clear i1 n1; have HL9 := Lib.hid (btrans HL.out (Nat.le_refl _) l1); have HW9 := Lib.hid (HW.out.below l1); clear HL HW; have HL := HL9; have HW := HW9; clear HL9 HW9; clear l1; go_wp2_with fail; refine (rof_any _ rb ws HW.out.r _).mono ?_; rintro e w2 ⟨v2, rfl, i2, l2⟩; obtain ⟨a2, c2, rfl, n2⟩ := IntsAt.open i2; have N2 := Lib.hid n2; have N1' := Lib.hid (N1.out.below l2); clear i2 n2 N1; have HL9 := Lib.hid (btrans HL.out (Nat.le_refl _) l2); have HW9 := Lib.hid (HW.out.below l2); clear HL HW; have HL := HL9; have HW := HW9; clear HL9 HW9; clear l2; go_wp2_with fail; refine (sameInts_any N1'.out N2.out (Nat.le_trans (bitsOf_len _ _) (by decide))).mono ?_; rintro e w3 ⟨rfl, l3⟩; have HL9 := Lib.hid (btrans HL.out (Nat.le_refl _) l3); have HW9 := Lib.hid (HW.out.below l3); clear HL HW; have HL := HL9; have HW := HW9; clear HL9 HW9; clear l3 N1' N2
          go_wp2_with fail
          refine (asleep_any _ b n ws HW.out.l _).mono ?_
          rintro e w4 ⟨rfl, l4⟩
          have HL9 := Lib.hid (btrans HL.out (Nat.le_refl _) l4); have HW9 := Lib.hid (HW.out.below l4); clear HL HW; have HL := HL9; have HW := HW9; clear HL9 HW9
          clear l4
          go_wp2_with fail
          refine (rasleep_any _ rb ws HW.out.r _).mono ?_
          rintro e w5 ⟨rfl, rfl⟩
          generalize gSl ws ((q : Int) - 1) = gs
          cases gs
          all_goals
            go_wp2_with fail
            refine ⟨⟨q + 1, ?_, by omega, HL.out⟩, ?_⟩
            · simp [hw]
            · simp only [intOf, hw]; omega
        · have hle2 : ¬ ((q : Int) - 1 ≤ 4) := by omega
          go_wp2_with fail; refine (waiting_any _ b n ws HW.out.l).mono ?_; rintro e w1 ⟨v1, rfl, i1, l1⟩; obtain ⟨a1, c1, rfl, n1⟩ := IntsAt.open i1; have N1 := Lib.hid n1; clear i1 n1; have HL9 := Lib.hid (btrans HL.out (Nat.le_refl _) l1); have HW9 := Lib.hid (HW.out.below l1); clear HL HW; have HL := HL9; have HW := HW9; clear HL9 HW9; clear l1; go_wp2_with fail; refine (rwaiting_any _ rb ws HW.out.r).mono ?_; rintro e w2 ⟨v2, rfl, i2, l2⟩; obtain ⟨a2, c2, rfl, n2⟩ := IntsAt.open i2; have N2 := Lib.hid n2; have N1' := Lib.hid (N1.out.below l2); clear i2 n2 N1; have HL9 := Lib.hid (btrans HL.out (Nat.le_refl _) l2); have HW9 := Lib.hid (HW.out.below l2); clear HL HW; have HL := HL9; have HW := HW9; clear HL9 HW9; clear l2; go_wp2_with fail; refine (sameInts_any N1'.out N2.out (Nat.le_trans HT.out (by decide))).mono ?_; rintro e w3 ⟨rfl, l3⟩; have HL9 := Lib.hid (btrans HL.out (Nat.le_refl _) l3); have HW9 := Lib.hid (HW.out.below l3); clear HL HW; have HL := HL9; have HW := HW9; clear HL9 HW9; clear l3 N1' N2
          go_wp2_with fail
          go_ret
          exact ⟨rfl, HL.out⟩
theorem two_in (w : World) (t s : Int) : IntsIn (w.alloc (.cells #[.int .i64 t, .int .i64 s] 3)) (some ⟨w.heap.size, 0, none⟩) 2 [t, s] := by
  refine ⟨rfl, .inr ⟨w.heap.size, 0, rfl, fun i hi => ?_⟩⟩
  have hb := blk_cell (blk_new w (.cells #[.int .i64 t, .int .i64 s] 3)) i
  rw [Nat.zero_add, hb]
  obtain rfl | rfl : i = 0 ∨ i = 1 := by omega
  · rfl
  · rfl
set_option maxHeartbeats 1600000 in
theorem live_any (w : World) : Calls Try.prog 11 #[] w fun e w' => e = .returned (.bool true) ∧ Below w.heap.size w w' := by
  go_enter Try.func11, Try.ntmps11
  go_wp2_with fail
  refine (new_any w).mono ?_
  rintro e w1 ⟨b, rfl, h1, l1⟩
  have l2 : Below w1.heap.size w1 (w1.alloc (.cells #[.int .i64 3, .int .i64 5] 3)) := by repeat (first | (with_reducible exact Below.refl _ _) | (with_reducible apply Below.drew) | (with_reducible refine below_drewN ?_ _) | (with_reducible refine below_alloc' ?_ ?_ _; (focus ((try simp) <;> omega))) | (with_reducible refine below_set' ?_ ?_ _; (focus ((try simp) <;> omega))))
  have HF1 := Lib.hid (show ∀ k, Grow (fun _ => False) w w1 k → w.heap.size ≤ k from fun k hk => by rcases hk with hk | hk; exact hk.elim; exact hk.1)
  generalize Grow (fun _ => False) w w1 = F at *
  have HR := Lib.hid (reg_any _ b 0 [] (h1.below l2) (by decide) 0 _ 2 2 [3, 5] (two_in w1 3 5) (by decide))
  have HL := Lib.hid (btrans l1 (Nat.le_refl _) l2)
  clear h1 l1 l2
  go_wp2_with fail
  refine HR.out.mono ?_
  rintro e w2 ⟨rfl, h2, o2⟩
  have hE : regE [] 0 [3, 5] = 0 := by decide
  have hS : regS [] 0 [3, 5] = [⟨0, 40, false⟩] := by unfold regS; rw [if_pos hE]; rfl
  rw [hS] at h2
  rw [hE]
  have HF2 := Lib.hid (grow_lo (w := w1.alloc (.cells #[.int .i64 3, .int .i64 5] 3)) (w' := w2) HF1.out HL.out.size)
  have HL2 := Lib.hid (HL.out.trans (Only.lo o2 HF1.out HL.out.size))
  generalize Grow F _ w2 = F2 at *
  have HS := Lib.hid (sleep_any _ b _ _ h2 (by decide) 0)
  clear hE hS h2 o2 HR HF1 HL
  go_wp2_with fail
  refine HS.out.mono ?_
  rintro e w3 ⟨rfl, h3, o3⟩
  have hE : sleepE [⟨0, 40, false⟩] 0 = 0 := by decide
  have hS : sleepS [⟨0, 40, false⟩] 0 = [⟨0, 40, true⟩] := by unfold sleepS; rw [if_pos hE]; rfl
  rw [hS] at h3
  rw [hE]
  have HF3 := Lib.hid (grow_lo (w := w2) (w' := w3) HF2.out HL2.out.size)
  have HL3 := Lib.hid (HL2.out.trans (Only.lo o3 HF2.out HL2.out.size))
  generalize Grow F2 _ w3 = F3 at *
  have H3 := Lib.hid h3
  clear hE hS h3 o3 HS HF2 HL2
  go_wp2_with fail
  refine (asleep_any _ b _ _ H3.out 0).mono ?_
  rintro e w4 ⟨rfl, l4⟩
  rw [show gSl [⟨0, 40, true⟩] 0 = true from rfl]
  have H4 := Lib.hid (H3.out.below l4); have HL4 := Lib.hid (btrans HL3.out (Nat.le_refl _) l4)
  clear l4 H3 HL3
  have l5 : Below w4.heap.size w4 (w4.alloc (.cells #[.int .i64 5] 3)) := by repeat (first | (with_reducible exact Below.refl _ _) | (with_reducible apply Below.drew) | (with_reducible refine below_drewN ?_ _) | (with_reducible refine below_alloc' ?_ ?_ _; (focus ((try simp) <;> omega))) | (with_reducible refine below_set' ?_ ?_ _; (focus ((try simp) <;> omega))))
  have HL5 := Lib.hid (btrans HL4.out (Nat.le_refl _) l5)
  have HK := Lib.hid (wake_any _ b _ _ (H4.out.below l5) _ 1 1 [5] (one_in w4 5) (by decide))
  clear l5 H4 HL4
  go_wp2_with fail
  refine HK.out.mono ?_
  rintro e w6 ⟨v, rfl, i6, _, h6, o6⟩
  have hM : meetW [⟨0, 40, true⟩] (wakeN [5]) = [0] := by decide
  have hS : wakeS [⟨0, 40, true⟩] (wakeN [5]) = [] := by rfl
  rw [hM] at i6
  rw [hS] at h6
  have HL6 := Lib.hid (HL5.out.trans (Only.lo o6 HF3.out HL5.out.size))
  obtain ⟨va, vc, rfl, hin⟩ := IntsAt.open i6
  obtain ⟨g, off, rfl, hc⟩ := hin.2.resolve_left (by decide)
  have c0 := hc 0 (by decide)
  rw [Nat.add_zero] at c0
  have H6 := Lib.hid h6
  clear hM hS i6 h6 o6 hin hc HK HL5 HF3
  simp only [List.length_cons, List.length_nil, Nat.zero_add, List.getD_cons_zero] at c0 ⊢
  go_wp2_with fail
  refine (asleep_any _ b _ _ H6.out 0).mono ?_
  rintro e w7 ⟨rfl, l7⟩
  rw [show gSl [] 0 = false from rfl]
  have H7 := Lib.hid (H6.out.below l7); have HL7 := Lib.hid (btrans HL6.out (Nat.le_refl _) l7)
  clear l7 H6 HL6
  go_wp2_with fail
  refine (waiting_any _ b _ _ H7.out).mono ?_
  rintro e w8 ⟨v8, rfl, i8, l8⟩
  have HL8 := Lib.hid (btrans HL7.out (Nat.le_refl _) l8)
  obtain ⟨va8, vc8, rfl, _⟩ := IntsAt.open i8
  clear i8 l8
  rw [show (ths []).length = 0 from rfl]
  go_wp2_with fail
  go_ret
  exact ⟨rfl, HL8.out⟩
end Go.Proofs.Ytddcpehncbcliaa.Wai
