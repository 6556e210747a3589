/- The statement: of two greedy ones the older one is told to kill. -/
import Derived.Test.YtphnogbkiemoeaaManL
namespace Go.Proofs.Ytphnogbkiemoeaa.Man
open Go.RowKit
set_option linter.unusedSimpArgs false
set_option linter.unusedVariables false

def two01 : MSt := (MSt.new.beganS 0 false).beganS 1 false
def two10 : MSt := (MSt.new.beganS 1 false).beganS 0 false
theorem inv01 : Inv two01 2 := (Inv.new.began 0 false).began 1 false
theorem inv10 : Inv two10 2 := (Inv.new.began 1 false).began 0 false
/-- both are told: first x, then y -/
theorem told_any (w : World) (b : Nat) (s : MSt) (hI : Inv s 2) (x y : Int) (H : MAt 58 w b (pol 3) s) :
    Calls Try.prog 11 #[ptr b, .int .i64 x, .int .i64 y] w fun e w' => e = .returned (.tuple #[.int .u8 (s.chooseC 3 x y), .int .i64 (s.chooseN 3 x y), .int .i64 (s.chooseE x y)]) ∧ Only (fun k => k = b) w w' ∧ MAt 58 w' b (pol 3) (s.chooseS 3 x y) :=
  choose_any w b 3 (.inr (.inr rfl)) s H x y (fun i => ⟨(hI.tr i).1, by have := (hI.tr i).2; omega⟩) hI.me
theorem told_two (w : World) (b : Nat) (s : MSt) (hI : Inv s 3) (x y : Int) (H : MAt 58 w b (pol 3) s) :
    Calls Try.prog 11 #[ptr b, .int .i64 x, .int .i64 y] w fun e w' => e = .returned (.tuple #[.int .u8 (s.chooseC 3 x y), .int .i64 (s.chooseN 3 x y), .int .i64 (s.chooseE x y)]) ∧ Only (fun k => k = b) w w' ∧ MAt 58 w' b (pol 3) (s.chooseS 3 x y) :=
  choose_any w b 3 (.inr (.inr rfl)) s H x y (fun i => ⟨(hI.tr i).1, by have := (hI.tr i).2; omega⟩) hI.me
theorem lo_only' {B b : Nat} {w w1 w2 : World} (l : Below B w w1) (o : Only (fun k => k = b) w1 w2) (hb : B ≤ b) (hB : B ≤ w.heap.size) : Below B w w2 :=
  l.trans (o.below (Nat.le_trans hB l.size) fun k hk e => by omega)
set_option maxHeartbeats 1600000 in
theorem yields_any (w : World) (swap late : Bool) : Calls Try.prog 7 #[.bool swap, .bool late] w fun e w' => e = .returned (.bool true) ∧ Below w.heap.size w w' := by
  have f1 : MSt.new.beganE 0 false = 0 := by decide
  have f2 : (MSt.new.beganS 0 false).beganE 1 false = 0 := by decide
  have f3 : MSt.new.beganE 1 false = 0 := by decide
  have f4 : (MSt.new.beganS 1 false).beganE 0 false = 0 := by decide
  have F1 := Lib.hid f1; have F2 := Lib.hid f2; have F3 := Lib.hid f3; have F4 := Lib.hid f4
  clear f1 f2 f3 f4
  have B0 : 0 ≤ MSt.new.last ∧ MSt.new.last ≤ 1000000 := by decide
  have B1 : 0 ≤ (MSt.new.beganS 0 false).last ∧ (MSt.new.beganS 0 false).last ≤ 1000000 := by decide
  have B2 : 0 ≤ (MSt.new.beganS 1 false).last ∧ (MSt.new.beganS 1 false).last ≤ 1000000 := by decide
  have K0 := Lib.hid B0; have K1 := Lib.hid B1; have K2 := Lib.hid B2
  clear B0 B1 B2
  cases swap
  · have e1 : two01.chooseC 3 0 1 = 2 := by decide
    have e2 : two01.chooseE 0 1 = 0 := by decide
    have e3 : (two01.chooseS 3 0 1).chooseC 3 1 0 = 1 := by decide
    have e4 : (two01.chooseS 3 0 1).chooseE 1 0 = 0 := by decide
    have d1 : two01.chooseC 3 1 0 = 1 := by decide
    have d2 : two01.chooseE 1 0 = 0 := by decide
    have d3 : (two01.chooseS 3 1 0).chooseC 3 0 1 = 2 := by decide
    have d4 : (two01.chooseS 3 1 0).chooseE 0 1 = 0 := by decide
    have E := Lib.hid (show _ ∧ _ ∧ _ ∧ _ from ⟨e1, e2, e3, e4⟩); have D := Lib.hid (show _ ∧ _ ∧ _ ∧ _ from ⟨d1, d2, d3, d4⟩)
    clear e1 e2 e3 e4 d1 d2 d3 d4
    cases late
    all_goals
      go_enter Try.func7, Try.ntmps7; go_wp2_with fail; refine (new_ok w 3 (.inr (.inr rfl))).mono ?_; rintro e w1 ⟨rfl, h1, l1⟩; have M1 := Lib.hid h1; have L1 := Lib.hid l1; have hb : w.heap.size ≤ w.heap.size := Nat.le_refl _; clear h1 l1; go_wp2_with fail
      refine (began_any _ w.heap.size (pol 3) _ M1.out 0 false K0.out).mono ?_
      rw [F1.out]
      rintro e w2 ⟨rfl, o, m⟩
      have M2 := Lib.hid m; have L2 := Lib.hid (lo_only' L1.out o hb (Nat.le_refl _)); clear o m
      go_wp2_with fail
      refine (began_any _ w.heap.size (pol 3) _ M2.out 1 false K1.out).mono ?_
      rw [F2.out]
      rintro e w3 ⟨rfl, o, m⟩
      have M3 := Lib.hid (show MAt 58 w3 w.heap.size (pol 3) two01 from m); have L3 := Lib.hid (lo_only' L2.out o hb (Nat.le_refl _)); clear o m
      go_wp2_with fail
      refine (told_any _ w.heap.size _ inv01 _ _ M3.out).mono ?_
      first | rw [E.out.1, E.out.2.1] | rw [D.out.1, D.out.2.1]
      rintro e w4 ⟨rfl, o, m⟩
      have M4 := Lib.hid m; have L4 := Lib.hid (lo_only' L3.out o hb (Nat.le_refl _)); clear o m
      go_wp2_with fail
      refine (told_two _ w.heap.size _ (inv01.choose 3 _ _) _ _ M4.out).mono ?_
      first | rw [E.out.2.2.1, E.out.2.2.2] | rw [D.out.2.2.1, D.out.2.2.2]
      rintro e w5 ⟨rfl, o, m⟩
      have L5 := Lib.hid (lo_only' L4.out o hb (Nat.le_refl _)); clear o m
      go_wp2_with fail
      go_ret
      exact ⟨rfl, L5.out⟩
  · have e1 : two10.chooseC 3 1 0 = 2 := by decide
    have e2 : two10.chooseE 1 0 = 0 := by decide
    have e3 : (two10.chooseS 3 1 0).chooseC 3 0 1 = 1 := by decide
    have e4 : (two10.chooseS 3 1 0).chooseE 0 1 = 0 := by decide
    have d1 : two10.chooseC 3 0 1 = 1 := by decide
    have d2 : two10.chooseE 0 1 = 0 := by decide
    have d3 : (two10.chooseS 3 0 1).chooseC 3 1 0 = 2 := by decide
    have d4 : (two10.chooseS 3 0 1).chooseE 1 0 = 0 := by decide
    have E := Lib.hid (show _ ∧ _ ∧ _ ∧ _ from ⟨e1, e2, e3, e4⟩); have D := Lib.hid (show _ ∧ _ ∧ _ ∧ _ from ⟨d1, d2, d3, d4⟩)
    clear e1 e2 e3 e4 d1 d2 d3 d4
    cases late
    all_goals
      go_enter Try.func7, Try.ntmps7; go_wp2_with fail; refine (new_ok w 3 (.inr (.inr rfl))).mono ?_; rintro e w1 ⟨rfl, h1, l1⟩; have M1 := Lib.hid h1; have L1 := Lib.hid l1; have hb : w.heap.size ≤ w.heap.size := Nat.le_refl _; clear h1 l1; go_wp2_with fail
      refine (began_any _ w.heap.size (pol 3) _ M1.out 1 false K0.out).mono ?_
      rw [F3.out]
      rintro e w2 ⟨rfl, o, m⟩
      have M2 := Lib.hid m; have L2 := Lib.hid (lo_only' L1.out o hb (Nat.le_refl _)); clear o m
      go_wp2_with fail
      refine (began_any _ w.heap.size (pol 3) _ M2.out 0 false K2.out).mono ?_
      rw [F4.out]
      rintro e w3 ⟨rfl, o, m⟩
      have M3 := Lib.hid (show MAt 58 w3 w.heap.size (pol 3) two10 from m); have L3 := Lib.hid (lo_only' L2.out o hb (Nat.le_refl _)); clear o m
      go_wp2_with fail
      refine (told_any _ w.heap.size _ inv10 _ _ M3.out).mono ?_
      first | rw [E.out.1, E.out.2.1] | rw [D.out.1, D.out.2.1]
      rintro e w4 ⟨rfl, o, m⟩
      have M4 := Lib.hid m; have L4 := Lib.hid (lo_only' L3.out o hb (Nat.le_refl _)); clear o m
      go_wp2_with fail
      refine (told_two _ w.heap.size _ (inv10.choose 3 _ _) _ _ M4.out).mono ?_
      first | rw [E.out.2.2.1, E.out.2.2.2] | rw [D.out.2.2.1, D.out.2.2.2]
      rintro e w5 ⟨rfl, o, m⟩
      have L5 := Lib.hid (lo_only' L4.out o hb (Nat.le_refl _)); clear o m
      go_wp2_with fail
      go_ret
      exact ⟨rfl, L5.out⟩
theorem yields_law {H : Type} (enc : TypeId × Value → H) (w : World) (swap late : Bool) : Calls Try.prog 7 #[.bool swap, .bool late] w fun e w' => e = .returned (.bool true) ∧ Below w.heap.size w w' := yields_any w swap late
end Go.Proofs.Ytphnogbkiemoeaa.Man
