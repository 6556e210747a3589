/- Cut of the real side; StateOf of the document's side. -/
import Derived.Test.YtfpiecnbnoinnaaHisC
namespace Go.Proofs.Ytfpiecnbnoinnaa.His
open Go.RowKit
set_option linter.unusedSimpArgs false
set_option linter.unusedVariables false
set_option maxRecDepth 50000

set_option maxHeartbeats 1600000 in
theorem cut_any (w : World) (p : Option Addr) (n c : Nat) (l : List Ev) (h : EvsIn w p n l) (hn : n ≤ 1000000) (a : Int) :
    Calls Try.prog 12 #[.slice p n c, .int .i64 a] w fun e w' => ∃ v, e = .returned v ∧ EvsAt w.heap.size w' v (cutL l a) ∧ Below w.heap.size w w' := by
  obtain ⟨i0, hi, hz0, hz1, hz2⟩ := info_parts infoE
  have H := Lib.hid h
  have HL := Lib.hid h.1
  clear h
  go_enter Try.func12, Try.ntmps12
  go_wp2_with fail
  go_loopw [5, 10] (fun v i wr => ∃ k : Nat, i = .int .i64 k ∧ k ≤ n ∧ EvsAt w.heap.size wr v (cutL (l.take k) a) ∧ Below w.heap.size w wr) (fun _ i _ => n - (intOf i).toNat)
  case atStart => exact ⟨0, rfl, Nat.zero_le _, World.ownsRow_nil _ _ _ _, Below.refl _ _⟩
  case round =>
    obtain ⟨k, rfl, hk, hV, hB⟩ := hrel
    have HV := Lib.hid hV; have HB := Lib.hid hB
    have hsz := hB.size
    clear hV hB
    by_cases hlt : k < n
    · obtain ⟨g, off, rfl, hc⟩ := H.out.2.resolve_left (by omega)
      obtain ⟨x, hx, c0, c1, c2, c3⟩ := hc k hlt
      replace c0 := bkeep HB.out c0; replace c1 := bkeep HB.out c1; replace c2 := bkeep HB.out c2; replace c3 := bkeep HB.out c3
      have HS := Lib.hid (show cutL (l.take (k + 1)) a = cutL (l.take k) a ++ (if x.a = a then [x] else []) by rw [take_at hx, cutL_snoc])
      have hml := cutL_len l a k
      have hw1 : IntKind.i64.wrap ((k : Int) + 1) = (k : Int) + 1 := by rw [IntKind.wrap_i64]; omega
      obtain ⟨xk, xa, xt, xv⟩ := x
      simp only at c0 c1 c2 c3
      clear hc hx
      cases f1 : (xa == a)
      · have HS2 := Lib.hid (show cutL (l.take (k + 1)) a = cutL (l.take k) a by rw [HS.out, if_neg (by simpa using f1), List.append_nil])
        go_wp2_with fail
        exact ⟨⟨k + 1, by go_num, by omega, by rw [HS2.out]; exact ownsRow_only HV.out (Only.empty (show Below wr.heap.size wr _ from by repeat (first | (with_reducible exact Below.refl _ _) | (with_reducible apply Below.drew) | (with_reducible refine below_drewN ?_ _) | (with_reducible refine below_alloc' ?_ ?_ _; (focus ((try simp) <;> omega))) | (with_reducible refine below_set' ?_ ?_ _; (focus ((try simp) <;> omega))))) (Nat.le_refl _)) (fun _ _ h => h), btrans HB.out (Nat.le_refl _) (by repeat (first | (with_reducible exact Below.refl _ _) | (with_reducible apply Below.drew) | (with_reducible refine below_drewN ?_ _) | (with_reducible refine below_alloc' ?_ ?_ _; (focus ((try simp) <;> omega))) | (with_reducible refine below_set' ?_ ?_ _; (focus ((try simp) <;> omega)))))⟩, by simp [intOf]; omega⟩
      · have HS2 := Lib.hid (show cutL (l.take (k + 1)) a = cutL (l.take k) a ++ [⟨xk, xa, xt, xv⟩] by rw [HS.out, if_pos (by simpa using f1)])
        go_wp2_with (at_builtin; refine wpList_append_own _ rfl _ _ 22 rfl w.heap.size 52 i0 (.agg #[.int .u8 0, .int .i64 0, .int .i64 0, .int .u64 0]) 4 32 Try.underlying22 hi hz0 hz1 hz2 rfl (by decide) _ _ (evVals (cutL (l.take k) a)) rfl (ownsRow_only HV.out (Only.empty (show Below wr.heap.size wr ((wr.alloc (.cells #[.int .u8 xk, .int .i64 xa, .int .i64 xt, .int .u64 xv] 52)).alloc (.cells #[.int .u8 xk, .int .i64 xa, .int .i64 xt, .int .u64 xv] 52)) from by repeat (first | (with_reducible exact Below.refl _ _) | (with_reducible apply Below.drew) | (with_reducible refine below_drewN ?_ _) | (with_reducible refine below_alloc' ?_ ?_ _; (focus ((try simp) <;> omega))) | (with_reducible refine below_set' ?_ ?_ _; (focus ((try simp) <;> omega))))) (Nat.le_refl _)) (fun _ _ h => h)) ⟨wr.heap.size + 1, 0, none⟩ 1 1 [.int .u8 xk, .int .i64 xa, .int .i64 xt, .int .u64 xv] rfl rfl ?_ ?_ ?_ ?_ ?_ ?_)
        rotate_right
        · intro v' w2 hown hgr _
          have hB2 : Below w.heap.size w w2 := ((HB.out.alloc hsz _).alloc (by simp; omega) _).grown hgr (by simp; omega) (fun k hk => (World.ownsRow.lt HV.out k hk).1)
          have HB2 := Lib.hid hB2
          have HP2 := Lib.hid (show EvsAt w.heap.size w2 v' (cutL (l.take (k + 1)) a) from by rw [HS2.out]; unfold EvsAt; rw [evVals_snoc, List.length_append]; exact hown)
          clear hown hgr hB2
          go_wp2_with fail
          exact ⟨⟨k + 1, by go_num, by omega, HP2.out, HB2.out⟩, by simp [intOf]; omega⟩
        all_goals (first | (intro j u hu; rw [Addr.add_lit]; have hnw := blk_cell (blk_new (wr.alloc (.cells #[.int .u8 xk, .int .i64 xa, .int .i64 xt, .int .u64 xv] 52)) (.cells #[.int .u8 xk, .int .i64 xa, .int .i64 xt, .int .u64 xv] 52)) j; rw [show (wr.alloc (.cells #[.int .u8 xk, .int .i64 xa, .int .i64 xt, .int .u64 xv] 52)).heap.size = wr.heap.size + 1 by simp] at hnw; rw [Nat.zero_add, hnw]; simpa using hu) | (simp [Value.oneCell']; done) | (unfold maxLen; omega) | omega | (simp; omega))
    · obtain rfl : k = n := by omega
      have hv := HV.out
      rw [List.take_of_length_le (by rw [HL.out]; exact Nat.le_refl _)] at hv
      have HV2 := Lib.hid hv
      clear hv
      go_wp2_with fail
      go_ret
      exact ⟨_, rfl, HV2.out, HB.out⟩
end Go.Proofs.Ytfpiecnbnoinnaa.His
