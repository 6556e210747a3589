/- live; a nil log. -/
import Derived.Test.YtmhlemgchlencaaWriE
import Derived.Test.YtmhlemgchlencaaRow
namespace Go.Proofs.Ytmhlemgchlencaa.Wri
open Go.RowKit
set_option linter.unusedSimpArgs false
set_option linter.unusedVariables false

theorem lput_any (w : World) (b : Nat) (xs : Frs) (h : LogAt w b xs) (hx9 : ∀ x ∈ xs, x.2.length ≤ 900) (t v : Int) (hv : 0 ≤ v ∧ v < 18446744073709551616) : Calls Try.prog 13 #[ptr b, .int .i64 t, .int .u64 v] w (PutPost w b xs t v) := by
  have hblt : b < w.heap.size := by obtain ⟨o, hb, _⟩ := h; exact blk_lt hb
  by_cases ht : okT t
  · cases hr : rightVal v
    · have hE : putE xs t v = 3 := by unfold putE; rw [if_neg (by simpa using ht), if_pos hr]
      refine (put_form w b t v ht hv hr).mono ?_
      rintro e w' ⟨rfl, rfl⟩
      exact ⟨by rw [hE], Only.refl _ _, fun _ => h, fun h0 => by rw [hE] at h0; cases h0⟩
    · cases xs with
      | nil => obtain ⟨_, _, _, h1, _⟩ := h; simp at h1
      | cons x r =>
        have hE : putE (x :: r) t v = if getF x.2 t = none ∧ 16 ≤ lenAll (x :: r) then 4 else 0 := by unfold putE; rw [if_neg (by simpa using ht), if_neg (by rw [hr]; decide)]
        by_cases hs : getF x.2 t = none ∧ 16 ≤ lenAll (x :: r)
        · rw [if_pos hs] at hE
          refine (put_space w b x r t v h ht hv hr hs.1 hs.2).mono ?_
          rintro e w' ⟨rfl, hl⟩
          exact ⟨by rw [hE], Only.of_below hl (fun k hk h => by omega), fun _ => h.below hl, fun h0 => by rw [hE] at h0; cases h0⟩
        · rw [if_neg hs] at hE
          refine (put_done w b x r t v h (hx9 x (by simp)) ht hv hr hs).mono ?_
          rintro e w' ⟨rfl, ho, u, hL⟩
          refine ⟨by rw [hE], ho, fun h0 => absurd hE h0, fun _ y s hy => ?_⟩
          injection hy with h1 h2
          subst h1 h2
          exact ⟨u, hL⟩
  · have hE : putE xs t v = 2 := by unfold putE; rw [if_pos ht]
    refine (put_range w b t v ht).mono ?_
    rintro e w' ⟨rfl, rfl⟩
    exact ⟨by rw [hE], Only.refl _ _, fun _ => h, fun h0 => by rw [hE] at h0; cases h0⟩
theorem lput_to (w : World) (b : Nat) (x : Value × Frm) (r : Frs) (h : LogAt w b (x :: r)) (hx9 : ∀ y ∈ x :: r, y.2.length ≤ 900) (t v : Int) (hv : 0 ≤ v ∧ v < 18446744073709551616) (f : Frm) (hE : putE (x :: r) t v = 0) (hf : putF x.2 t v = f) :
    Calls Try.prog 13 #[ptr b, .int .i64 t, .int .u64 v] w fun e w' => ∃ u, e = .returned (.int .i64 0) ∧ Only (fun k => k = b) w w' ∧ LogAt w' b ((u, f) :: r) := by
  refine (lput_any w b _ h hx9 t v hv).mono ?_
  rintro e w' ⟨rfl, ho, _, hL⟩
  obtain ⟨u, hL⟩ := hL hE x r rfl
  exact ⟨u, by rw [hE], ho, hf ▸ hL⟩
theorem lo_only {B b : Nat} {w w1 w2 : World} (l : Below B w w1) (o : Only (fun k => k = b) w1 w2) (hb : B ≤ b) (hB : B ≤ w.heap.size) : Below B w w2 :=
  l.trans (o.below (Nat.le_trans hB l.size) fun k hk e => by omega)
theorem live_any (w : World) : Calls Try.prog 10 #[] w fun e w' => e = .returned (.bool true) ∧ Below w.heap.size w w' := by
  go_enter Try.func10, Try.ntmps10
  go_wp2_with fail
  refine (new_any w).mono ?_
  rintro e w1 ⟨b, rfl, hb, h1, l1⟩
  have H1 := Lib.hid h1; have L1 := Lib.hid l1; clear h1 l1
  go_wp2_with fail
  refine (lput_to w1 b nilF [] H1.out (by simp) 1 5 (by decide) [(1, 5)] (by decide) rfl).mono ?_
  rintro e w2 ⟨u2, rfl, o2, h2⟩
  have H2 := Lib.hid h2; have L2 := Lib.hid (lo_only L1.out o2 hb (Nat.le_refl _)); clear h2 o2 H1 L1
  go_wp2_with fail
  have hP := lpush_any w2 b _ H2.out
  unfold PushPost at hP
  simp only [List.length_cons, List.length_nil, Nat.reduceAdd, Nat.reduceLeDiff, if_false] at hP
  refine hP.mono ?_
  rintro e w3 ⟨rfl, o3, h3⟩
  have H3 := Lib.hid h3; have L3 := Lib.hid (lo_only L2.out o3 hb (Nat.le_refl _)); clear h3 o3 H2 L2 hP
  go_wp2_with fail
  refine (lput_to w3 b nilF _ H3.out (by simp) 1 6 (by decide) [(1, 6)] (by rfl) rfl).mono ?_
  rintro e w4 ⟨u4, rfl, o4, h4⟩
  have H4 := Lib.hid h4; have L4 := Lib.hid (lo_only L3.out o4 hb (Nat.le_refl _)); clear h4 o4 H3 L3
  go_wp2_with fail
  have hG := lget_any w4 b _ H4.out 1
  rw [show getS [(u4, [(1, 6)]), (u2, [(1, 5)])] 1 = some 6 from rfl] at hG
  refine hG.mono ?_
  rintro e w5 ⟨rfl, l5⟩
  have H5 := Lib.hid (H4.out.below l5); have L5 := Lib.hid (btrans L4.out (Nat.le_refl _) l5); clear l5 H4 L4 hG
  simp only [Option.getD_some, Option.isSome_some]
  go_wp2_with fail
  have hD := drop_any w5 b _ H5.out
  unfold DropPost at hD
  simp only [List.length_cons, List.length_nil, Nat.reduceAdd, Nat.reduceLeDiff, if_false, List.tail_cons] at hD
  refine hD.mono ?_
  rintro e w6 ⟨rfl, o6, h6⟩
  have H6 := Lib.hid h6; have L6 := Lib.hid (lo_only L5.out o6 hb (Nat.le_refl _)); clear h6 o6 H5 L5 hD
  go_wp2_with fail
  have hG := lget_any w6 b _ H6.out 1
  rw [show getS [(u2, [(1, 5)])] 1 = some 5 from rfl] at hG
  refine hG.mono ?_
  rintro e w7 ⟨rfl, l7⟩
  have H7 := Lib.hid (H6.out.below l7); have L7 := Lib.hid (btrans L6.out (Nat.le_refl _) l7); clear l7 H6 L6 hG
  simp only [Option.getD_some, Option.isSome_some]
  go_wp2_with fail
  have hD := drop_any w7 b _ H7.out
  unfold DropPost at hD
  simp only [List.length_cons, List.length_nil, Nat.reduceAdd, Nat.le_refl, if_true] at hD
  refine hD.mono ?_
  rintro e w8 ⟨rfl, rfl⟩
  go_wp2_with fail
  go_ret
  exact ⟨rfl, L7.out⟩
theorem all_nil (w : World) : Calls Try.prog 11 #[.pointer none] w fun e w' => e = .returned (.slice none 0 0) ∧ Below w.heap.size w w' := by
  go_enter Try.func11, Try.ntmps11
  go_wp2_with fail
  go_loopw [3, 7] (fun s i wr => ∃ k : Nat, i = .int .i64 k ∧ s = .slice none 0 0 ∧ k ≤ 12 ∧ Below w.heap.size w wr) (fun _ i _ => 12 - (intOf i).toNat)
  case atStart => exact ⟨0, rfl, rfl, by decide, Below.refl _ _⟩
  case round =>
    obtain ⟨k, rfl, rfl, hk, hB⟩ := hrel
    have HB := Lib.hid hB; clear hB
    by_cases hlt : k < 12
    · go_wp2_with fail
      refine (lget_nil wr k).mono ?_
      rintro e w1 ⟨rfl, l1⟩
      have HL := Lib.hid (btrans HB.out (Nat.le_refl _) l1); clear l1
      go_wp2_with fail
      exact ⟨⟨k + 1, by go_num, rfl, by omega, HL.out⟩, by simp [intOf]; omega⟩
    · go_wp2_with fail
      go_ret
      exact ⟨rfl, HB.out⟩
end Go.Proofs.Ytmhlemgchlencaa.Wri
