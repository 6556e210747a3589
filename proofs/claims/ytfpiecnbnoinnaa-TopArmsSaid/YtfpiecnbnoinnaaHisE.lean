/- StateOf, on both sides. -/
import Derived.Test.YtfpiecnbnoinnaaHisD
namespace Go.Proofs.Ytfpiecnbnoinnaa.His
open Go.RowKit
set_option linter.unusedSimpArgs false
set_option linter.unusedVariables false
set_option maxRecDepth 50000

set_option maxHeartbeats 1600000 in
theorem rstate_any (w : World) (p : Option Addr) (n c : Nat) (l : List Ev) (h : EvsIn w p n l) (hn : n ≤ 1000000) (a : Int) :
    Calls Try.prog 16 #[.slice p n c, .int .i64 a] w fun e w' => e = .returned (.int .u8 (stateL l a)) ∧ w = w' := by
  have H := Lib.hid h
  have HL := Lib.hid h.1
  have HS1 := Lib.hid (seen_any w p n c l h hn n (Nat.le_refl _) a 1)
  rw [List.take_of_length_le (by rw [h.1]; exact Nat.le_refl _)] at HS1
  obtain ⟨r, hr⟩ : ∃ r, stateL l a = r := ⟨_, rfl⟩
  have HR := Lib.hid hr
  rw [hr]
  clear h hr
  go_enter Try.func16, Try.ntmps16
  go_wp2_with fail
  refine HS1.out.mono ?_
  rintro e w1 ⟨rfl, rfl⟩
  cases hb : hasK l a 1
  · have hr : r = 0 := by rw [← HR.out]; unfold stateL; rw [hb]; rfl
    go_wp2_with fail
    go_ret
    exact ⟨by first | rfl | (rw [hr]; rfl), rfl⟩
  · have HRR := Lib.hid (show stFold (cutL l a) = r by rw [← HR.out]; unfold stateL; rw [hb]; rfl)
    clear hb
    go_wp2_with fail
    go_loopw [5, 6] (fun v i wr => ∃ k : Nat, i = .int .i64 k ∧ k ≤ n ∧ v = .int .u8 (stFold (cutL (l.take k) a)) ∧ w = wr) (fun _ i _ => n - (intOf i).toNat)
    case atStart => exact ⟨0, rfl, Nat.zero_le _, rfl, rfl⟩
    case round =>
      obtain ⟨k, rfl, hk, rfl, rfl⟩ := hrel
      by_cases hlt : k < n
      · obtain ⟨g, off, rfl, hc⟩ := H.out.2.resolve_left (by omega)
        obtain ⟨x, hx, c0, c1, c2, c3⟩ := hc k hlt
        have HS := Lib.hid (show cutL (l.take (k + 1)) a = cutL (l.take k) a ++ (if x.a = a then [x] else []) by rw [take_at hx, cutL_snoc])
        obtain ⟨xk, xa, xt, xv⟩ := x
        simp only at c0 c1 c2 c3
        clear hc hx c2 c3
        cases f1 : (xa == a)
        · have HS2 := Lib.hid (show cutL (l.take (k + 1)) a = cutL (l.take k) a by rw [HS.out, if_neg (by simpa using f1), List.append_nil])
          go_wp2_with fail
          exact ⟨⟨k + 1, by go_num, by omega, by rw [HS2.out], trivial⟩, by simp [intOf]; omega⟩
        · have HS2 := Lib.hid (show stFold (cutL (l.take (k + 1)) a) = stStep (stFold (cutL (l.take k) a)) ⟨xk, xa, xt, xv⟩ by rw [HS.out, if_pos (by simpa using f1), stFold_snoc])
          generalize stFold (cutL (l.take k) a) = s at *
          cases k7 : (xk == 7)
          · cases k8 : (xk == 8)
            · cases k9 : (xk == 9)
              · have HS3 := Lib.hid (show stFold (cutL (l.take (k + 1)) a) = s by rw [HS2.out]; unfold stStep; rw [if_neg (by simpa using k7), if_neg (by simpa using k8), if_neg (by simpa using k9)])
                go_wp2_with fail
                exact ⟨⟨k + 1, by go_num, by omega, by rw [HS3.out], trivial⟩, by simp [intOf]; omega⟩
              · have HS3 := Lib.hid (show stFold (cutL (l.take (k + 1)) a) = 4 by rw [HS2.out]; unfold stStep; rw [if_neg (by simpa using k7), if_neg (by simpa using k8), if_pos (by simpa using k9)])
                go_wp2_with fail
                exact ⟨⟨k + 1, by go_num, by omega, by rw [HS3.out], trivial⟩, by simp [intOf]; omega⟩
            · have HS3 := Lib.hid (show stFold (cutL (l.take (k + 1)) a) = 3 by rw [HS2.out]; unfold stStep; rw [if_neg (by simpa using k7), if_pos (by simpa using k8)])
              go_wp2_with fail
              exact ⟨⟨k + 1, by go_num, by omega, by rw [HS3.out], trivial⟩, by simp [intOf]; omega⟩
          · have HS3 := Lib.hid (show stFold (cutL (l.take (k + 1)) a) = 2 by rw [HS2.out]; unfold stStep; rw [if_pos (by simpa using k7)])
            go_wp2_with fail
            exact ⟨⟨k + 1, by go_num, by omega, by rw [HS3.out], trivial⟩, by simp [intOf]; omega⟩
      · obtain rfl : k = n := by omega
        have hr : r = stFold (cutL (l.take k) a) := by rw [← HRR.out, List.take_of_length_le (by rw [HL.out]; exact Nat.le_refl _)]
        go_wp2_with fail
        go_ret
        exact ⟨by first | rfl | (rw [hr]; rfl), rfl⟩
end Go.Proofs.Ytfpiecnbnoinnaa.His
