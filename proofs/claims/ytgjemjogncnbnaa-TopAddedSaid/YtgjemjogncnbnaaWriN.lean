/- live; a nil log. -/
import Derived.Test.YtgjemjogncnbnaaWriE
import Derived.Test.YtgjemjogncnbnaaRow
namespace Go.Proofs.Ytgjemjogncnbnaa.Wri
open Go.RowKit
set_option linter.unusedSimpArgs false
set_option linter.unusedVariables false
set_option maxRecDepth 50000

theorem lput_any (w : World) (b : Nat) (xs : Frs) (h : LogAt w b xs) (hx9 : ∀ x ∈ xs, x.2.length ≤ 900) (t v : Int) (hv : 0 ≤ v ∧ v < 18446744073709551616) : Calls Try.prog 51 #[ptr b, .int .i64 t, .int .u64 v] w (PutPost w b xs t v) := by
  have hblt : b < w.heap.size := by obtain ⟨o, hb, _⟩ := h; exact blk_lt hb
  by_cases ht : okT t
  · cases hr : rightVal v
    · have hE : putE xs t v = 3 := by unfold putE; rw [if_neg (by simpa using ht), if_pos hr]
      refine (put_form w b t v ht hv hr).mono ?_
      rintro e w' ⟨rfl, rfl⟩
      exact ⟨by rw [hE], Only.refl _ _, fun _ => h, fun h0 => by rw [hE] at h0; cases h0⟩
    · cases xs with
      | nil => obtain ⟨_, _, _, h1, _⟩ := h; simp at h1
      | cons x r =>
        have hE : putE (x :: r) t v = if getF x.2 t = none ∧ 16 ≤ lenAll (x :: r) then 4 else 0 := by unfold putE; rw [if_neg (by simpa using ht), if_neg (by rw [hr]; decide)]
        by_cases hs : getF x.2 t = none ∧ 16 ≤ lenAll (x :: r)
        · rw [if_pos hs] at hE
          refine (put_space w b x r t v h ht hv hr hs.1 hs.2).mono ?_
          rintro e w' ⟨rfl, hl⟩
          exact ⟨by rw [hE], Only.of_below hl (fun k hk h => by omega), fun _ => h.below hl, fun h0 => by rw [hE] at h0; cases h0⟩
        · rw [if_neg hs] at hE
          refine (put_done w b x r t v h (hx9 x (by simp)) ht hv hr hs).mono ?_
          rintro e w' ⟨rfl, ho, u, hL⟩
          refine ⟨by rw [hE], ho, fun h0 => absurd hE h0, fun _ y s hy => ?_⟩
          injection hy with h1 h2
          subst h1 h2
          exact ⟨u, hL⟩
  · have hE : putE xs t v = 2 := by unfold putE; rw [if_pos ht]
    refine (put_range w b t v ht).mono ?_
    rintro e w' ⟨rfl, rfl⟩
    exact ⟨by rw [hE], Only.refl _ _, fun _ => h, fun h0 => by rw [hE] at h0; cases h0⟩
theorem lput_to (w : World) (b : Nat) (x : Value × Frm) (r : Frs) (h : LogAt w b (x :: r)) (hx9 : ∀ y ∈ x :: r, y.2.length ≤ 900) (t v : Int) (hv : 0 ≤ v ∧ v < 18446744073709551616) (f : Frm) (hE : putE (x :: r) t v = 0) (hf : putF x.2 t v = f) :
    Calls Try.prog 51 #[ptr b, .int .i64 t, .int .u64 v] w fun e w' => ∃ u, e = .returned (.int .i64 0) ∧ Only (fun k => k = b) w w' ∧ LogAt w' b ((u, f) :: r) := by
  refine (lput_any w b _ h hx9 t v hv).mono ?_
  rintro e w' ⟨rfl, ho, _, hL⟩
  obtain ⟨u, hL, _⟩ := hL hE x r rfl
  exact ⟨u, by rw [hE], ho, hf ▸ hL⟩
theorem lo_only {B b : Nat} {w w1 w2 : World} (l : Below B w w1) (o : Only (fun k => k = b) w1 w2) (hb : B ≤ b) (hB : B ≤ w.heap.size) : Below B w w2 :=
  l.trans (o.below (Nat.le_trans hB l.size) fun k hk e => by omega)
theorem all_nil (w : World) : Calls Try.prog 39 #[.pointer none] w fun e w' => e = .returned (.slice none 0 0) ∧ Below w.heap.size w w' := by
  go_enter Try.func39, Try.ntmps39
  go_wp2_with fail
  go_loopw [3, 7] (fun s i wr => ∃ k : Nat, i = .int .i64 k ∧ s = .slice none 0 0 ∧ k ≤ 12 ∧ Below w.heap.size w wr) (fun _ i _ => 12 - (intOf i).toNat)
  case atStart => exact ⟨0, rfl, rfl, by decide, Below.refl _ _⟩
  case round =>
    obtain ⟨k, rfl, rfl, hk, hB⟩ := hrel
    have HB := Lib.hid hB; clear hB
    by_cases hlt : k < 12
    · go_wp2_with fail
      refine (lget_nil wr k).mono ?_
      rintro e w1 ⟨rfl, l1⟩
      have HL := Lib.hid (btrans HB.out (Nat.le_refl _) l1); clear l1
      go_wp2_with fail
      exact ⟨⟨k + 1, by go_num, rfl, by omega, HL.out⟩, by simp [intOf]; omega⟩
    · go_wp2_with fail
      go_ret
      exact ⟨rfl, HB.out⟩
end Go.Proofs.Ytgjemjogncnbnaa.Wri
