/- StateOf of the real side. -/
import Derived.Test.YtfpiecnbnoinnaaHisE
namespace Go.Proofs.Ytfpiecnbnoinnaa.His
open Go.RowKit
set_option linter.unusedSimpArgs false
set_option linter.unusedVariables false
set_option maxRecDepth 50000

theorem hasK_any (l : List Ev) (a k : Int) : hasK l a k = (cutL l a).any fun x => x.k == k := by
  unfold hasK cutL
  rw [List.any_filter]
set_option maxHeartbeats 1600000 in
theorem state_any (w : World) (p : Option Addr) (n c : Nat) (l : List Ev) (h : EvsIn w p n l) (hn : n ≤ 1000000) (a : Int) :
    Calls Try.prog 13 #[.slice p n c, .int .i64 a] w fun e w' => e = .returned (.int .u8 (stateL l a)) ∧ Below w.heap.size w w' := by
  have HCUT := Lib.hid (cut_any w p n c l h hn a)
  have hcl : (cutL l a).length ≤ n := by
    have := cutL_len l a n
    rwa [List.take_of_length_le (by rw [h.1]; exact Nat.le_refl _)] at this
  have HST := Lib.hid (show stateL l a = if (cutL l a).any (fun x => x.k == 1) then stFold (cutL l a) else 0 by unfold stateL; rw [hasK_any])
  obtain ⟨r, hr⟩ : ∃ r, stateL l a = r := ⟨_, rfl⟩
  rw [hr] at HST ⊢
  generalize cutL l a = C at *
  obtain ⟨m, hm⟩ : ∃ m, C.length = m := ⟨_, rfl⟩
  have HM := Lib.hid hm
  rw [hm] at hcl
  clear h hr hm
  go_enter Try.func13, Try.ntmps13
  go_wp2_with fail
  refine HCUT.out.mono ?_
  rintro e w1 ⟨v, rfl, hv, l1⟩
  obtain ⟨va, vc, rfl, hin⟩ := EvsAt.open hv
  have HIN := Lib.hid hin; have L1 := Lib.hid l1
  rw [HM.out] at HIN ⊢
  clear hv l1 hin HCUT
  go_wp2_with fail
  go_loopw [5, 6, 13] (fun b s i wr => ∃ (k : Nat) (e : Bool), i = .int .i64 k ∧ b = .bool e ∧ k ≤ m ∧ s = .int .u8 (stFold (C.take k)) ∧ (C.take k).any (fun x => x.k == 1) = e ∧ Below w1.heap.size w1 wr) (fun _ _ i _ => m - (intOf i).toNat)
  case atStart => exact ⟨0, false, rfl, rfl, Nat.zero_le _, rfl, rfl, Below.refl _ _⟩
  case round =>
    obtain ⟨k, e, rfl, rfl, hk, rfl, hE, hB⟩ := hrel
    have HB := Lib.hid hB; have HE := Lib.hid hE
    clear hB hE
    by_cases hlt : k < m
    · obtain ⟨g, off, rfl, hc⟩ := HIN.out.2.resolve_left (by omega)
      obtain ⟨x, hx, c0, c1, c2, c3⟩ := hc k hlt
      replace c0 := bkeep HB.out c0; replace c1 := bkeep HB.out c1; replace c2 := bkeep HB.out c2; replace c3 := bkeep HB.out c3
      have HS := Lib.hid (show stFold (C.take (k + 1)) = stStep (stFold (C.take k)) x by rw [take_at hx, stFold_snoc])
      have HA := Lib.hid (show (C.take (k + 1)).any (fun x => x.k == 1) = (e || x.k == 1) by rw [take_at hx, List.any_append, HE.out]; simp)
      have hw1 : IntKind.i64.wrap ((k : Int) + 1) = (k : Int) + 1 := by rw [IntKind.wrap_i64]; omega
      obtain ⟨xk, xa, xt, xv⟩ := x
      simp only at c0 c1 c2 c3
      generalize stFold (C.take k) = s at *
      clear hc hx HE
      cases k1 : (xk == 1)
      · have HA2 := Lib.hid (show (C.take (k + 1)).any (fun x => x.k == 1) = e by rw [HA.out]; show (e || xk == 1) = e; rw [k1, Bool.or_false])
        cases k7 : (xk == 7)
        · cases k8 : (xk == 8)
          · cases k9 : (xk == 9)
            · have HS3 := Lib.hid (show stFold (C.take (k + 1)) = s by rw [HS.out]; unfold stStep; rw [if_neg (by simpa using k7), if_neg (by simpa using k8), if_neg (by simpa using k9)])
              go_wp2_with fail; exact ⟨⟨k + 1, e, by go_num, rfl, by omega, by rw [HS3.out], HA2.out, btrans HB.out (Nat.le_refl _) (by repeat (first | (with_reducible exact Below.refl _ _) | (with_reducible apply Below.drew) | (with_reducible refine below_drewN ?_ _) | (with_reducible refine below_alloc' ?_ ?_ _; (focus ((try simp) <;> omega))) | (with_reducible refine below_set' ?_ ?_ _; (focus ((try simp) <;> omega)))))⟩, by simp [intOf]; omega⟩
            · have HS3 := Lib.hid (show stFold (C.take (k + 1)) = 4 by rw [HS.out]; unfold stStep; rw [if_neg (by simpa using k7), if_neg (by simpa using k8), if_pos (by simpa using k9)])
              go_wp2_with fail; exact ⟨⟨k + 1, e, by go_num, rfl, by omega, by rw [HS3.out], HA2.out, btrans HB.out (Nat.le_refl _) (by repeat (first | (with_reducible exact Below.refl _ _) | (with_reducible apply Below.drew) | (with_reducible refine below_drewN ?_ _) | (with_reducible refine below_alloc' ?_ ?_ _; (focus ((try simp) <;> omega))) | (with_reducible refine below_set' ?_ ?_ _; (focus ((try simp) <;> omega)))))⟩, by simp [intOf]; omega⟩
          · have HS3 := Lib.hid (show stFold (C.take (k + 1)) = 3 by rw [HS.out]; unfold stStep; rw [if_neg (by simpa using k7), if_pos (by simpa using k8)])
            go_wp2_with fail; exact ⟨⟨k + 1, e, by go_num, rfl, by omega, by rw [HS3.out], HA2.out, btrans HB.out (Nat.le_refl _) (by repeat (first | (with_reducible exact Below.refl _ _) | (with_reducible apply Below.drew) | (with_reducible refine below_drewN ?_ _) | (with_reducible refine below_alloc' ?_ ?_ _; (focus ((try simp) <;> omega))) | (with_reducible refine below_set' ?_ ?_ _; (focus ((try simp) <;> omega)))))⟩, by simp [intOf]; omega⟩
        · have HS3 := Lib.hid (show stFold (C.take (k + 1)) = 2 by rw [HS.out]; unfold stStep; rw [if_pos (by simpa using k7)])
          go_wp2_with fail; exact ⟨⟨k + 1, e, by go_num, rfl, by omega, by rw [HS3.out], HA2.out, btrans HB.out (Nat.le_refl _) (by repeat (first | (with_reducible exact Below.refl _ _) | (with_reducible apply Below.drew) | (with_reducible refine below_drewN ?_ _) | (with_reducible refine below_alloc' ?_ ?_ _; (focus ((try simp) <;> omega))) | (with_reducible refine below_set' ?_ ?_ _; (focus ((try simp) <;> omega)))))⟩, by simp [intOf]; omega⟩
      · have HA2 := Lib.hid (show (C.take (k + 1)).any (fun x => x.k == 1) = true by rw [HA.out]; show (e || xk == 1) = true; rw [k1, Bool.or_true])
        obtain rfl : xk = 1 := by simpa using k1
        have HS3 := Lib.hid (show stFold (C.take (k + 1)) = s by rw [HS.out]; rfl)
        go_wp2_with fail; exact ⟨⟨k + 1, true, by go_num, rfl, by omega, by rw [HS3.out], HA2.out, btrans HB.out (Nat.le_refl _) (by repeat (first | (with_reducible exact Below.refl _ _) | (with_reducible apply Below.drew) | (with_reducible refine below_drewN ?_ _) | (with_reducible refine below_alloc' ?_ ?_ _; (focus ((try simp) <;> omega))) | (with_reducible refine below_set' ?_ ?_ _; (focus ((try simp) <;> omega)))))⟩, by simp [intOf]; omega⟩
    · obtain rfl : k = m := by omega
      have he := HE.out
      have hst := HST.out
      rw [List.take_of_length_le (by rw [HM.out]; exact Nat.le_refl _)] at he ⊢
      rw [he] at hst
      have HSF := Lib.hid hst
      clear hst he
      cases e
      · go_wp2_with fail
        go_ret
        exact ⟨by rw [HSF.out]; rfl, btrans L1.out (Nat.le_refl _) HB.out⟩
      · go_wp2_with fail
        go_ret
        exact ⟨by rw [HSF.out]; rfl, btrans L1.out (Nat.le_refl _) HB.out⟩
end Go.Proofs.Ytfpiecnbnoinnaa.His
