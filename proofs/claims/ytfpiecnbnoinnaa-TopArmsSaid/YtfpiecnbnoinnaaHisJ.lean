/- Attempts of the real side. -/
import Derived.Test.YtfpiecnbnoinnaaHisI
namespace Go.Proofs.Ytfpiecnbnoinnaa.His
open Go.RowKit
set_option linter.unusedSimpArgs false
set_option linter.unusedVariables false
set_option maxRecDepth 50000

set_option maxHeartbeats 1600000 in
theorem attempts_any (w : World) (p : Option Addr) (n c : Nat) (l : List Ev) (h : EvsIn w p n l) (hn : n ≤ 1000000) :
    Calls Try.prog 21 #[.slice p n c] w fun e w' => ∃ v, e = .returned v ∧ IntsAt w.heap.size w' v (attL l) ∧ Below w.heap.size w w' := by
  obtain ⟨i0, hi, hz0, hz1, hz2⟩ := info_parts infoI
  have H := Lib.hid h
  have HL := Lib.hid h.1
  clear h
  go_enter Try.func21, Try.ntmps21
  go_wp2_with fail
  go_loopw [3, 8] (fun v i wr => ∃ k : Nat, i = .int .i64 k ∧ k ≤ n ∧ IntsAt w.heap.size wr v (attL (l.take k)) ∧ Below w.heap.size w wr) (fun _ i _ => n - (intOf i).toNat)
  case atStart => exact ⟨0, rfl, Nat.zero_le _, World.ownsRow_nil _ _ _ _, Below.refl _ _⟩
  case round =>
    obtain ⟨k, rfl, hk, hV, hB⟩ := hrel
    have HV := Lib.hid hV; have HB := Lib.hid hB
    have hsz := hB.size
    clear hV hB
    by_cases hlt : k < n
    · obtain ⟨g, off, rfl, hc⟩ := H.out.2.resolve_left (by omega)
      obtain ⟨x, hx, c0, c1, c2, c3⟩ := hc k hlt
      replace c0 := bkeep HB.out c0; replace c1 := bkeep HB.out c1; replace c2 := bkeep HB.out c2; replace c3 := bkeep HB.out c3
      have HS := Lib.hid (show attL (l.take (k + 1)) = attF (attL (l.take k)) x by rw [take_at hx, attL_snoc])
      have hml : (attL (l.take k)).length ≤ k := by
        have := attL_len (l.take k) []
        rw [List.length_take] at this
        simp at this
        unfold attL
        omega
      have hw1 : IntKind.i64.wrap ((k : Int) + 1) = (k : Int) + 1 := by rw [IntKind.wrap_i64]; omega
      obtain ⟨xk, xa, xt, xv⟩ := x
      simp only at c0 c1 c2 c3
      clear hc hx
      have lX : Below wr.heap.size wr (wr.alloc (.cells #[.int .u8 xk, .int .i64 xa, .int .i64 xt, .int .u64 xv] 52)) := by repeat (first | (with_reducible exact Below.refl _ _) | (with_reducible apply Below.drew) | (with_reducible refine below_drewN ?_ _) | (with_reducible refine below_alloc' ?_ ?_ _; (focus ((try simp) <;> omega))) | (with_reducible refine below_set' ?_ ?_ _; (focus ((try simp) <;> omega))))
      have HVX := Lib.hid (ownsRow_only HV.out (Only.empty lX (Nat.le_refl _)) (fun _ _ h => h))
      have HBX := Lib.hid (btrans HB.out (Nat.le_refl _) lX)
      clear lX
      cases f1 : (xk == 1)
      · have HS2 := Lib.hid (show attL (l.take (k + 1)) = attL (l.take k) by rw [HS.out]; unfold attF; rw [if_neg (fun hh => by have := hh.1; simp at f1; exact f1 this)])
        go_wp2_with fail
        exact ⟨⟨k + 1, by go_num, by omega, by rw [HS2.out]; exact HVX.out, HBX.out⟩, by simp [intOf]; omega⟩
      · have F1 := Lib.hid f1
        obtain ⟨va, vc, rfl, hin⟩ := IntsAt.open HVX.out
        have HC := Lib.hid (contains_any _ va _ vc _ xa hin (by omega))
        clear hin
        go_wp2_with fail
        refine HC.out.mono ?_
        rintro e w5 ⟨rfl, rfl⟩
        cases hs : decide (xa ∈ attL (l.take k))
        · have HS2 := Lib.hid (show attL (l.take (k + 1)) = attL (l.take k) ++ [xa] by
            rw [HS.out]; unfold attF
            rw [if_pos ⟨by simpa using F1.out, by simpa using hs⟩])
          clear hs
          go_wp2_with (at_builtin; refine wpList_append_own _ rfl _ _ 39 rfl w.heap.size 3 i0 (.int .i64 0) 1 8 Try.underlying39 hi hz0 hz1 hz2 rfl (by decide) _ _ ((attL (l.take k)).map fun t => .int .i64 t) rfl (ownsRow_only HVX.out (Only.empty (show Below (wr.alloc (.cells #[.int .u8 xk, .int .i64 xa, .int .i64 xt, .int .u64 xv] 52)).heap.size (wr.alloc (.cells #[.int .u8 xk, .int .i64 xa, .int .i64 xt, .int .u64 xv] 52)) ((wr.alloc (.cells #[.int .u8 xk, .int .i64 xa, .int .i64 xt, .int .u64 xv] 52)).alloc (.cells #[.int .i64 xa] 3)) from by repeat (first | (with_reducible exact Below.refl _ _) | (with_reducible apply Below.drew) | (with_reducible refine below_drewN ?_ _) | (with_reducible refine below_alloc' ?_ ?_ _; (focus ((try simp) <;> omega))) | (with_reducible refine below_set' ?_ ?_ _; (focus ((try simp) <;> omega))))) (Nat.le_refl _)) (fun _ _ h => h)) ⟨wr.heap.size + 1, 0, none⟩ 1 1 [.int .i64 xa] rfl rfl ?_ ?_ ?_ ?_ ?_ ?_)
          rotate_right
          · intro v' w2 hown hgr _
            have hB2 : Below w.heap.size w w2 := (HBX.out.alloc HBX.out.size _).grown hgr (by simp; omega) (fun k hk => (World.ownsRow.lt HVX.out k hk).1)
            have HB2 := Lib.hid hB2
            have HP2 := Lib.hid (show IntsAt w.heap.size w2 v' (attL (l.take (k + 1))) from by rw [HS2.out]; unfold IntsAt; rw [List.map_append, List.length_append]; exact hown)
            clear hown hgr hB2
            go_wp2_with fail
            exact ⟨⟨k + 1, by go_num, by omega, HP2.out, HB2.out⟩, by simp [intOf]; omega⟩
          all_goals (first | (intro j u hu; rw [Addr.add_lit]; have hnw := blk_cell (blk_new (wr.alloc (.cells #[.int .u8 xk, .int .i64 xa, .int .i64 xt, .int .u64 xv] 52)) (.cells #[.int .i64 xa] 3)) j; rw [show (wr.alloc (.cells #[.int .u8 xk, .int .i64 xa, .int .i64 xt, .int .u64 xv] 52)).heap.size = wr.heap.size + 1 by simp] at hnw; rw [Nat.zero_add, hnw]; simpa using hu) | (simp [Value.oneCell']; done) | (unfold maxLen; omega) | omega | (simp; omega))
        · have HS2 := Lib.hid (show attL (l.take (k + 1)) = attL (l.take k) by rw [HS.out]; unfold attF; rw [if_neg (fun hh => hh.2 (by simpa using hs))])
          clear hs
          go_wp2_with fail
          exact ⟨⟨k + 1, by go_num, by omega, by rw [HS2.out]; exact HVX.out, HBX.out⟩, by simp [intOf]; omega⟩
    · obtain rfl : k = n := by omega
      have hv := HV.out
      rw [List.take_of_length_le (by rw [HL.out]; exact Nat.le_refl _)] at hv
      have HV2 := Lib.hid hv
      clear hv
      go_wp2_with fail
      go_ret
      exact ⟨_, rfl, HV2.out, HB.out⟩
end Go.Proofs.Ytfpiecnbnoinnaa.His
