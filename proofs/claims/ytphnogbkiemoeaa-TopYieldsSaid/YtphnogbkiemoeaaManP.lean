/- live; nobody waits for ever. -/
import Derived.Test.YtphnogbkiemoeaaManB
import Derived.Test.YtphnogbkiemoeaaRow
namespace Go.Proofs.Ytphnogbkiemoeaa.Man
open Go.RowKit
set_option linter.unusedSimpArgs false
set_option linter.unusedVariables false

/-- two that run, the first one has waited t times, the second one did m things -/
def two (m t : Int) : MSt := ⟨fun j => if j = 0 then ⟨true, false, t, 0, 1⟩ else if j = 1 then ⟨true, false, 0, m, 2⟩ else .zero, 2⟩
def one : MSt := ⟨fun j => if j = 0 then ⟨true, false, 0, 0, 1⟩ else .zero, 1⟩
theorem began0 : MSt.new.beganE 0 false = 0 ∧ MSt.new.beganS 0 false = one := by
  refine ⟨by decide, ?_⟩
  have h : MSt.new.beganE 0 false = 0 := by decide
  rw [MSt.beganS, if_pos h]
  rfl
theorem began1 : one.beganE 1 false = 0 ∧ one.beganS 1 false = two 0 0 := by
  refine ⟨by decide, ?_⟩
  have h : one.beganE 1 false = 0 := by decide
  rw [MSt.beganS, if_pos h]
  show (⟨upd one.T 1 ⟨true, false, 0, 0, 2⟩, 2⟩ : MSt) = two 0 0
  unfold two one
  congr 1
  funext j
  simp only [upd]
  split
  · subst_vars; rfl
  · rfl
theorem two_opened (m t : Int) (h : 0 ≤ m ∧ m < 1000) : (two m t).openedS 1 = two (m + 1) t := by
  rw [MSt.openedS, if_pos (by rfl)]
  unfold two MSt.put
  congr 1
  funext j
  simp only [upd]
  split
  · subst_vars
    simp
    omega
  · split <;> simp_all
theorem two_chooseE (m t : Int) : (two m t).chooseE 0 1 = 0 := by rfl
theorem two_kill1 (m t : Int) : (two m t).kill 1 0 1 = decide (4 ≤ t) := by rfl
theorem two_kill2 (m t : Int) : (two m t).kill 2 0 1 = decide (m < t) := by
  show decide (m < 0 + t) = decide (m < t)
  rw [Int.zero_add]
theorem two_waited (k : Nat) (hk : k = 1 ∨ k = 2) (m t : Int) : (two m t).put 0 (waited k ((two m t).T 0)) = two m (t + 1) := by
  unfold MSt.put two
  congr 1
  funext j
  simp only [upd]
  split
  · subst_vars
    rcases hk with rfl | rfl <;> rfl
  · split
    · simp_all
    · rfl
theorem two_passed (m t : Int) : (two m t).passedS 0 = two m 0 := by
  rw [MSt.passedS, if_pos (by rfl)]
  unfold two MSt.put
  congr 1
  funext j
  simp only [upd]
  split
  · subst_vars; rfl
  · split
    · simp_all
    · rfl
theorem two_tr (m t : Int) (ht : 0 ≤ t ∧ t ≤ 1000000) (i : Nat) : 0 ≤ ((two m t).T i).tries ∧ ((two m t).T i).tries ≤ 1000000 := by
  unfold two
  simp only
  split
  · exact ht
  · split <;> exact ⟨Int.le_refl 0, (by decide : (0 : Int) ≤ 1000000)⟩
theorem two_me (m t : Int) (hm : 0 ≤ m ∧ m ≤ 1000) (i : Nat) : 0 ≤ ((two m t).T i).merit ∧ ((two m t).T i).merit ≤ 1000 := by
  unfold two
  simp only
  split
  · exact ⟨Int.le_refl 0, (by decide : (0 : Int) ≤ 1000)⟩
  · split
    · exact hm
    · exact ⟨Int.le_refl 0, (by decide : (0 : Int) ≤ 1000)⟩
/-! ### the same contracts, at these states -/
theorem began0_to (w : World) (b : Nat) (h : Value) (H : MAt 58 w b h .new) : Calls Try.prog 9 #[ptr b, .int .i64 0, .bool false] w fun e w' => e = .returned (.int .i64 0) ∧ Only (fun k => k = b) w w' ∧ MAt 58 w' b h one := by
  have := began_any w b h _ H 0 false (by decide)
  rwa [began0.1, began0.2] at this
theorem began1_to (w : World) (b : Nat) (h : Value) (H : MAt 58 w b h one) : Calls Try.prog 9 #[ptr b, .int .i64 1, .bool false] w fun e w' => e = .returned (.int .i64 0) ∧ Only (fun k => k = b) w w' ∧ MAt 58 w' b h (two 0 0) := by
  have := began_any w b h _ H 1 false (by decide)
  rwa [began1.1, began1.2] at this
theorem wait_to (w : World) (b k : Nat) (hk : k = 1 ∨ k = 2) (m t : Int) (H : MAt 58 w b (pol k) (two m t)) (ht : 0 ≤ t ∧ t ≤ 1000000) (hm : 0 ≤ m ∧ m ≤ 1000) (hw : (two m t).kill k 0 1 = false) :
    Calls Try.prog 11 #[ptr b, .int .i64 0, .int .i64 1] w fun e w' => e = .returned (.tuple #[.int .u8 1, .int .i64 (if k = 1 then 2 ^ t.toNat else 1), .int .i64 0]) ∧ Only (fun k => k = b) w w' ∧ MAt 58 w' b (pol k) (two m (t + 1)) := by
  have := choose_any w b k (by omega) _ H 0 1 (two_tr m t ht) (two_me m t hm)
  rw [MSt.chooseC, MSt.chooseN, MSt.chooseS, two_chooseE, if_pos rfl, if_pos rfl, if_pos rfl, hw, show Int.toNat 0 = 0 from rfl, two_waited k hk] at this
  exact this
theorem kill_to (w : World) (b k : Nat) (hk : k = 1 ∨ k = 2) (m t : Int) (H : MAt 58 w b (pol k) (two m t)) (ht : 0 ≤ t ∧ t ≤ 1000000) (hm : 0 ≤ m ∧ m ≤ 1000) (hw : (two m t).kill k 0 1 = true) :
    Calls Try.prog 11 #[ptr b, .int .i64 0, .int .i64 1] w fun e w' => e = .returned (.tuple #[.int .u8 2, .int .i64 0, .int .i64 0]) ∧ Only (fun k => k = b) w w' ∧ MAt 58 w' b (pol k) (two m t) := by
  have := choose_any w b k (by omega) _ H 0 1 (two_tr m t ht) (two_me m t hm)
  rw [MSt.chooseC, MSt.chooseN, MSt.chooseS, two_chooseE, if_pos rfl, if_pos rfl, if_pos rfl, hw] at this
  exact this
theorem open_to (w : World) (b : Nat) (h : Value) (m : Int) (H : MAt 58 w b h (two m 0)) (hm : 0 ≤ m ∧ m < 1000) :
    Calls Try.prog 10 #[ptr b, .int .i64 1] w fun e w' => e = .returned (.int .i64 0) ∧ Only (fun k => k = b) w w' ∧ MAt 58 w' b h (two (m + 1) 0) := by
  have := opened_any w b h _ H 1 (two_me m 0 ⟨hm.1, by omega⟩)
  rwa [two_opened m 0 hm, show (two m 0).errRun 1 = 0 from rfl] at this
theorem pass_to (w : World) (b : Nat) (h : Value) (m t : Int) (H : MAt 58 w b h (two m t)) :
    Calls Try.prog 13 #[ptr b, .int .i64 0] w fun e w' => e = .returned (.int .i64 0) ∧ Only (fun k => k = b) w w' ∧ MAt 58 w' b h (two m 0) := by
  have := passed_any w b h _ H 0
  rwa [two_passed m t, show (two m t).errRun 0 = 0 from rfl] at this
/-- a new object, and a deed on it: nothing else is touched -/
theorem lo_only {B b : Nat} {w w1 w2 : World} (l : Below B w w1) (o : Only (fun k => k = b) w1 w2) (hb : B ≤ b) (hB : B ≤ w.heap.size) : Below B w w2 :=
  l.trans (o.below (Nat.le_trans hB l.size) fun k hk e => by omega)
theorem live_any (w : World) : Calls Try.prog 12 #[] w fun e w' => e = .returned (.bool true) ∧ Below w.heap.size w w' := by
  go_enter Try.func12, Try.ntmps12
  go_wp2_with fail
  refine (new_ok w 1 (.inl rfl)).mono ?_
  rintro e w1 ⟨rfl, h1, l1⟩
  have H1 := Lib.hid h1; have L1 := Lib.hid l1; clear h1 l1
  go_wp2_with fail
  refine (began0_to _ _ _ H1.out).mono ?_
  rintro e w2 ⟨rfl, o2, h2⟩
  have H2 := Lib.hid h2; have L2 := Lib.hid (lo_only L1.out o2 (Nat.le_refl _) (Nat.le_refl _)); clear h2 o2 H1 L1
  go_wp2_with fail
  refine (began1_to _ _ _ H2.out).mono ?_
  rintro e w3 ⟨rfl, o3, h3⟩
  have H3 := Lib.hid h3; have L3 := Lib.hid (lo_only L2.out o3 (Nat.le_refl _) (Nat.le_refl _)); clear h3 o3 H2 L2
  go_wp2_with fail
  refine (wait_to _ _ 1 (.inl rfl) _ _ H3.out (by decide) (by decide) (by rw [two_kill1]; decide)).mono ?_
  rintro e w4 ⟨rfl, o4, h4⟩
  have H4 := Lib.hid h4; have L4 := Lib.hid (lo_only L3.out o4 (Nat.le_refl _) (Nat.le_refl _)); clear h4 o4 H3 L3
  simp only [if_true, Int.toNat_zero, Int.pow_zero]
  go_wp2_with fail
  refine (wait_to _ _ 1 (.inl rfl) _ _ H4.out (by decide) (by decide) (by rw [two_kill1]; decide)).mono ?_
  rintro e w5 ⟨rfl, o5, h5⟩
  have H5 := Lib.hid h5; have L5 := Lib.hid (lo_only L4.out o5 (Nat.le_refl _) (Nat.le_refl _)); clear h5 o5 H4 L4
  rw [show (if (1 : Nat) = 1 then (2 : Int) ^ (0 + 1 : Int).toNat else 1) = 2 by decide]
  go_wp2_with fail
  refine (tries_any _ _ _ _ H5.out 0).mono ?_
  rintro e w6 ⟨rfl, l6⟩
  have H6 := Lib.hid (H5.out.below l6); have L6 := Lib.hid (btrans L5.out (Nat.le_refl _) l6); clear l6 H5 L5
  rw [show ((two 0 (0 + 1 + 1)).at 0).tries = 2 by decide]
  go_wp2_with fail
  refine (stamp_any _ _ _ _ H6.out 1).mono ?_
  rintro e w7 ⟨rfl, l7⟩
  have L7 := Lib.hid (btrans L6.out (Nat.le_refl _) l7); clear l7 H6 L6
  rw [show ((two 0 (0 + 1 + 1)).at 1).stamp = 2 by decide]
  go_wp2_with fail
  go_ret
  exact ⟨rfl, L7.out⟩

theorem patience1 (w : World) (m : Int) (hm0 : 0 ≤ m) (hm1 : m ≤ 255) : Calls Try.prog 3 #[.bool false, .int .u8 m] w fun e w' => e = .returned (.bool true) ∧ Below w.heap.size w w' := by
  have hcv : IntKind.i64.wrap m = m := by rw [IntKind.wrap_i64]; omega
  have hcv1 : IntKind.i64.wrap (m + 1) = m + 1 := by rw [IntKind.wrap_i64]; omega
  go_enter Try.func3, Try.ntmps3
  go_wp2_with fail
  refine (new_ok w 1 (by decide)).mono ?_
  rintro e w1 ⟨rfl, h1, l1⟩
  have H1 := Lib.hid h1; have L1 := Lib.hid l1; clear h1 l1
  go_wp2_with fail
  refine (began0_to _ _ _ H1.out).mono ?_
  rintro e w2 ⟨rfl, o2, h2⟩
  have H2 := Lib.hid h2; have L2 := Lib.hid (lo_only L1.out o2 (Nat.le_refl _) (Nat.le_refl _)); clear h2 o2 H1 L1
  go_wp2_with fail
  refine (began1_to _ _ _ H2.out).mono ?_
  rintro e w3 ⟨rfl, o3, h3⟩
  have H3 := Lib.hid h3; have L3 := Lib.hid (lo_only L2.out o3 (Nat.le_refl _) (Nat.le_refl _)); clear h3 o3 H2 L2
  go_wp2_with fail
  go_loopw [8] (fun i wr => ∃ q : Nat, i = .int .i64 q ∧ (q : Int) ≤ m ∧ MAt 58 wr w.heap.size (pol 1) (two q 0) ∧ Below w.heap.size w wr) (fun i _ => m.toNat - (intOf i).toNat)
  case atStart => exact ⟨0, rfl, hm0, H3.out, L3.out⟩
  case round =>
    obtain ⟨q, rfl, hq, hM, hL⟩ := hrel
    have HM := Lib.hid hM; have HL := Lib.hid hL
    clear hM hL
    by_cases hqm : (q : Int) < m
    · have hd : decide ((q : Int) < m) = true := by simpa using hqm
      go_wp2_with fail
      refine (open_to _ _ _ q HM.out (by omega)).mono ?_
      rintro e w4 ⟨rfl, o4, h4⟩
      have H4 := Lib.hid h4; have L4 := Lib.hid (lo_only HL.out o4 (Nat.le_refl _) (Nat.le_refl _)); clear h4 o4
      go_wp2_with fail
      refine ⟨⟨q + 1, by go_num, by omega, H4.out, L4.out⟩, by simp [intOf]; omega⟩
    · have hd : decide ((q : Int) < m) = false := by simpa using hqm
      obtain rfl : m = q := by omega
      clear hqm
      go_wp2_with fail
      go_loopw [9] (fun i wr => ∃ t : Nat, i = .int .i64 t ∧ (t : Int) ≤ 4 ∧ MAt 58 wr w.heap.size (pol 1) (two q t) ∧ Below w.heap.size w wr) (fun i _ => (4 : Int).toNat - (intOf i).toNat)
      case atStart => exact ⟨0, rfl, by omega, HM.out, HL.out⟩
      case round =>
        obtain ⟨t, rfl, ht, hM2, hL2⟩ := hrel
        have HM2 := Lib.hid hM2; have HL2 := Lib.hid hL2
        clear hM2 hL2 HM HL
        by_cases htw : (t : Int) < 4
        · have hd2 : decide ((t : Int) < 4) = true := by simpa using htw
          obtain ⟨r, hr, hr1, hr2⟩ : ∃ r : Int, (if (1 : Nat) = 1 then (2 : Int) ^ (t : Int).toNat else 1) = r ∧ decide (r < 1) = false ∧ True := by
            have h4 : t = 0 ∨ t = 1 ∨ t = 2 ∨ t = 3 := by omega
            rcases h4 with rfl | rfl | rfl | rfl
            · exact ⟨1, rfl, by decide, trivial⟩
            · exact ⟨2, rfl, by decide, trivial⟩
            · exact ⟨4, rfl, by decide, trivial⟩
            · exact ⟨8, rfl, by decide, trivial⟩
          have hwt := wait_to wr w.heap.size 1 (by decide) q t HM2.out (by omega) (by omega) (by rw [two_kill1]; simp; omega)
          rw [hr] at hwt
          have HW := Lib.hid hwt
          clear hwt hr
          go_wp2_with fail
          refine HW.out.mono ?_
          rintro e w4 ⟨rfl, o4, h4⟩
          have H4 := Lib.hid h4; have L4 := Lib.hid (lo_only HL2.out o4 (Nat.le_refl _) (Nat.le_refl _)); clear h4 o4
          go_wp2_with fail
          refine ⟨⟨t + 1, by go_num, by omega, H4.out, L4.out⟩, by simp [intOf]; omega⟩
        · have hd2 : decide ((t : Int) < 4) = false := by simpa using htw
          go_wp2_with fail
          refine (kill_to _ _ 1 (by decide) q t HM2.out (by omega) (by omega) (by rw [two_kill1]; simp; omega)).mono ?_
          rintro e w4 ⟨rfl, o4, h4⟩
          have H4 := Lib.hid h4; have L4 := Lib.hid (lo_only HL2.out o4 (Nat.le_refl _) (Nat.le_refl _)); clear h4 o4
          go_wp2_with fail
          refine (live_any _).mono ?_
          rintro e w5 ⟨rfl, l5⟩
          have H5 := Lib.hid (H4.out.below l5); have L5 := Lib.hid (btrans L4.out (Nat.le_refl _) l5); clear l5 H4 L4
          go_wp2_with fail
          refine (pass_to _ _ _ _ _ H5.out).mono ?_
          rintro e w6 ⟨rfl, o6, h6⟩
          have H6 := Lib.hid h6; have L6 := Lib.hid (lo_only L5.out o6 (Nat.le_refl _) (Nat.le_refl _)); clear h6 o6
          go_wp2_with fail
          refine (tries_any _ _ _ _ H6.out 0).mono ?_
          rintro e w7 ⟨rfl, l7⟩
          have L7 := Lib.hid (btrans L6.out (Nat.le_refl _) l7); clear l7
          rw [show ((two q 0).at 0).tries = 0 from rfl]
          go_wp2_with fail
          go_ret
          exact ⟨rfl, L7.out⟩

theorem patience2 (w : World) (m : Int) (hm0 : 0 ≤ m) (hm1 : m ≤ 255) : Calls Try.prog 3 #[.bool true, .int .u8 m] w fun e w' => e = .returned (.bool true) ∧ Below w.heap.size w w' := by
  have hcv : IntKind.i64.wrap m = m := by rw [IntKind.wrap_i64]; omega
  have hcv1 : IntKind.i64.wrap (m + 1) = m + 1 := by rw [IntKind.wrap_i64]; omega
  go_enter Try.func3, Try.ntmps3
  go_wp2_with fail
  refine (new_ok w 2 (by decide)).mono ?_
  rintro e w1 ⟨rfl, h1, l1⟩
  have H1 := Lib.hid h1; have L1 := Lib.hid l1; clear h1 l1
  go_wp2_with fail
  refine (began0_to _ _ _ H1.out).mono ?_
  rintro e w2 ⟨rfl, o2, h2⟩
  have H2 := Lib.hid h2; have L2 := Lib.hid (lo_only L1.out o2 (Nat.le_refl _) (Nat.le_refl _)); clear h2 o2 H1 L1
  go_wp2_with fail
  refine (began1_to _ _ _ H2.out).mono ?_
  rintro e w3 ⟨rfl, o3, h3⟩
  have H3 := Lib.hid h3; have L3 := Lib.hid (lo_only L2.out o3 (Nat.le_refl _) (Nat.le_refl _)); clear h3 o3 H2 L2
  go_wp2_with fail
  go_loopw [8] (fun i wr => ∃ q : Nat, i = .int .i64 q ∧ (q : Int) ≤ m ∧ MAt 58 wr w.heap.size (pol 2) (two q 0) ∧ Below w.heap.size w wr) (fun i _ => m.toNat - (intOf i).toNat)
  case atStart => exact ⟨0, rfl, hm0, H3.out, L3.out⟩
  case round =>
    obtain ⟨q, rfl, hq, hM, hL⟩ := hrel
    have HM := Lib.hid hM; have HL := Lib.hid hL
    clear hM hL
    by_cases hqm : (q : Int) < m
    · have hd : decide ((q : Int) < m) = true := by simpa using hqm
      go_wp2_with fail
      refine (open_to _ _ _ q HM.out (by omega)).mono ?_
      rintro e w4 ⟨rfl, o4, h4⟩
      have H4 := Lib.hid h4; have L4 := Lib.hid (lo_only HL.out o4 (Nat.le_refl _) (Nat.le_refl _)); clear h4 o4
      go_wp2_with fail
      refine ⟨⟨q + 1, by go_num, by omega, H4.out, L4.out⟩, by simp [intOf]; omega⟩
    · have hd : decide ((q : Int) < m) = false := by simpa using hqm
      obtain rfl : m = q := by omega
      clear hqm
      go_wp2_with fail
      go_loopw [9] (fun i wr => ∃ t : Nat, i = .int .i64 t ∧ (t : Int) ≤ (q : Int) + 1 ∧ MAt 58 wr w.heap.size (pol 2) (two q t) ∧ Below w.heap.size w wr) (fun i _ => ((q : Int) + 1 : Int).toNat - (intOf i).toNat)
      case atStart => exact ⟨0, rfl, by omega, HM.out, HL.out⟩
      case round =>
        obtain ⟨t, rfl, ht, hM2, hL2⟩ := hrel
        have HM2 := Lib.hid hM2; have HL2 := Lib.hid hL2
        clear hM2 hL2 HM HL
        by_cases htw : (t : Int) < (q : Int) + 1
        · have hd2 : decide ((t : Int) < (q : Int) + 1) = true := by simpa using htw
          obtain ⟨r, hr, hr1, hr2⟩ : ∃ r : Int, (if (2 : Nat) = 1 then (2 : Int) ^ (t : Int).toNat else 1) = r ∧ decide (r < 1) = false ∧ (r != 1) = false := by
            exact ⟨1, rfl, by decide, by decide⟩
          have hwt := wait_to wr w.heap.size 2 (by decide) q t HM2.out (by omega) (by omega) (by rw [two_kill2]; simp; omega)
          rw [hr] at hwt
          have HW := Lib.hid hwt
          clear hwt hr
          go_wp2_with fail
          refine HW.out.mono ?_
          rintro e w4 ⟨rfl, o4, h4⟩
          have H4 := Lib.hid h4; have L4 := Lib.hid (lo_only HL2.out o4 (Nat.le_refl _) (Nat.le_refl _)); clear h4 o4
          go_wp2_with fail
          refine ⟨⟨t + 1, by go_num, by omega, H4.out, L4.out⟩, by simp [intOf]; omega⟩
        · have hd2 : decide ((t : Int) < (q : Int) + 1) = false := by simpa using htw
          go_wp2_with fail
          refine (kill_to _ _ 2 (by decide) q t HM2.out (by omega) (by omega) (by rw [two_kill2]; simp; omega)).mono ?_
          rintro e w4 ⟨rfl, o4, h4⟩
          have H4 := Lib.hid h4; have L4 := Lib.hid (lo_only HL2.out o4 (Nat.le_refl _) (Nat.le_refl _)); clear h4 o4
          go_wp2_with fail
          refine (live_any _).mono ?_
          rintro e w5 ⟨rfl, l5⟩
          have H5 := Lib.hid (H4.out.below l5); have L5 := Lib.hid (btrans L4.out (Nat.le_refl _) l5); clear l5 H4 L4
          go_wp2_with fail
          refine (pass_to _ _ _ _ _ H5.out).mono ?_
          rintro e w6 ⟨rfl, o6, h6⟩
          have H6 := Lib.hid h6; have L6 := Lib.hid (lo_only L5.out o6 (Nat.le_refl _) (Nat.le_refl _)); clear h6 o6
          go_wp2_with fail
          refine (tries_any _ _ _ _ H6.out 0).mono ?_
          rintro e w7 ⟨rfl, l7⟩
          have L7 := Lib.hid (btrans L6.out (Nat.le_refl _) l7); clear l7
          rw [show ((two q 0).at 0).tries = 0 from rfl]
          go_wp2_with fail
          go_ret
          exact ⟨rfl, L7.out⟩
theorem patience {H : Type} (enc : TypeId × Value → H) (w : World) (karma : Bool) (m : Int) (hm : (Lit.int .u8 m).wf = true) :
    Calls Try.prog 3 #[.bool karma, .int .u8 m] w fun e w' => e = .returned (.bool true) ∧ Below w.heap.size w w' := by
  have hb := bounds_u8 hm
  cases karma
  · exact patience1 w m hb.1 hb.2
  · exact patience2 w m hb.1 hb.2
end Go.Proofs.Ytphnogbkiemoeaa.Man
