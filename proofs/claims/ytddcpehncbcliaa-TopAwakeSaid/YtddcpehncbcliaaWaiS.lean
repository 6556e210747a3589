/- The other side: Of, At, Waiting. -/
import Derived.Test.YtddcpehncbcliaaWaiR
namespace Go.Proofs.Ytddcpehncbcliaa.Wai
open Go.RowKit
set_option linter.unusedSimpArgs false
set_option linter.unusedVariables false

set_option maxHeartbeats 1600000 in
theorem rof_any (w : World) (b : Nat) (ws : Ws) (h : RAt w b ws) (th : Int) :
    Calls Try.prog 33 #[ptr b, .int .i64 th] w fun e w' => ∃ v, e = .returned v ∧ IntsAt w.heap.size w' v (bitsOf (gOf ws th) 12) ∧ Below w.heap.size w w' := by
  obtain ⟨i0, hi, hz0, hz1, hz2⟩ := info_parts infoI
  have HA := Lib.hid (rat_any w b ws h th)
  obtain ⟨la, lc, hb, ho, hwf⟩ := h
  have b0 := blk_cell hb 0
  simp only [List.getElem?_toArray, List.getElem?_cons_zero, List.getElem?_cons_succ] at b0
  have HO := Lib.hid ho; have B0 := Lib.hid b0
  clear hb ho hwf
  go_enter Try.func33, Try.ntmps33
  go_wp2_with fail
  refine HA.out.mono ?_
  rintro e w0 ⟨rfl, ⟨hf, rfl⟩ | ⟨k, x, hx, hf, rfl⟩⟩
  · have HS := Lib.hid (show gOf ws th = 0 by unfold gOf; rw [hf]; rfl)
    clear hf HA
    go_wp2_with fail
    go_loopw [5, 7] (fun v i wr => i = .int .i64 0 ∧ v = .slice none 0 0 ∧ wr = w) (fun _ _ _ => 0)
    case atStart => exact ⟨rfl, rfl, rfl⟩
    case round =>
      obtain ⟨rfl, rfl, rfl⟩ := hrel
      go_wp2_with fail
      go_ret
      exact ⟨_, rfl, by rw [HS.out, show bitsOf 0 12 = [] by decide]; exact World.ownsRow_nil _ _ _ _, Below.refl _ _⟩
  · have hkl : k < ws.length := (List.getElem?_eq_some_iff.1 hx).1
    rcases HO.out.2 with ⟨h0, h1⟩ | ⟨g, cap, cur, h0, _⟩
    · omega
    injection h0 with h0 hmid h2
    clear hmid
    subst h0 h2
    obtain ⟨_, cof, _⟩ := row_at HO.out hx
    have HS := Lib.hid (show gOf ws th = x.of by unfold gOf; rw [hf]; rfl)
    have HCO := Lib.hid cof
    have hkl' : (k : Int) < ws.length := by omega
    clear hf hx HA cof b0
    generalize x.of = s at *
    go_wp2_with fail
    go_loopw [5, 7] (fun v i wr => ∃ j : Nat, i = .int .i64 j ∧ j ≤ 12 ∧ IntsAt w.heap.size wr v (bitsOf s j) ∧ Below w.heap.size w wr) (fun _ i _ => 12 - (intOf i).toNat)
    case atStart => exact ⟨0, rfl, by decide, World.ownsRow_nil _ _ _ _, Below.refl _ _⟩
    case round =>
      obtain ⟨j, rfl, hj, hR, hB⟩ := hrel
      have HR := Lib.hid hR; have HB := Lib.hid hB
      have hlen := bitsOf_len s j
      clear hR hB
      by_cases hlt : j < 12
      · have hj12 : (j : Int) < 12 := by omega
        have b0 := bkeep HB.out B0.out
        have c0 := bkeep HB.out (HCO.out j hlt)
        have hsz := HB.out.size
        cases hbt : s.testBit j
        · rw [hbt] at c0
          have HBS := Lib.hid (show bitsOf s (j + 1) = bitsOf s j by simp [bitsOf, hbt])
          clear hbt
          go_wp2_with fail
          exact ⟨⟨j + 1, by go_num, by omega, by rw [HBS.out]; exact HR.out, HB.out⟩, by simp [intOf]; omega⟩
        · rw [hbt] at c0
          have HBS := Lib.hid (show bitsOf s (j + 1) = bitsOf s j ++ [(j : Int)] by simp [bitsOf, hbt])
          clear hbt
          go_wp2_with (at_builtin; refine wpList_append_own _ rfl _ _ 28 rfl w.heap.size 3 i0 (.int .i64 0) 1 8 Try.underlying28 hi hz0 hz1 hz2 rfl (by decide) _ _ ((bitsOf s j).map fun t => .int .i64 t) rfl (HR.out.below ((Below.refl wr.heap.size wr).alloc (Nat.le_refl _) _)) ⟨wr.heap.size, 0, none⟩ 1 1 [.int .i64 (j : Int)] rfl rfl ?_ ?_ ?_ ?_ ?_ ?_); rotate_right; (intro v' w2 hown hgr _; have hB2 : Below w.heap.size w w2 := (HB.out.alloc hsz _).grown hgr (by simp; omega) (fun k hk => (World.ownsRow.lt HR.out k hk).1); have HB2 := Lib.hid hB2; have HP2 := Lib.hid (show IntsAt w.heap.size w2 v' (bitsOf s j ++ [(j : Int)]) from (by unfold IntsAt; rw [List.map_append, List.length_append]; exact hown)); clear hown hgr hB2; go_wp2_with fail; exact ⟨⟨j + 1, by go_num, by omega, by rw [HBS.out]; exact HP2.out, HB2.out⟩, by simp [intOf]; omega⟩); all_goals (first | (intro jj vv hv; rw [Addr.add_lit]; have hnw := blk_cell (blk_new wr (.cells #[.int .i64 (j : Int)] 3)) jj; rw [Nat.zero_add, hnw]; simpa using hv) | (simp [Value.oneCell']; done) | (unfold maxLen; omega) | omega | (simp; omega))
      · obtain rfl : j = 12 := by omega
        go_wp2_with fail
        go_ret
        exact ⟨_, rfl, by rw [HS.out]; exact HR.out, HB.out⟩
theorem meets_one {x : Wt} (h : x.of < 4096) (t : Int) : meets (setR [t]) x = (okB t && x.of.testBit t.toNat) := by
  unfold meets setR
  cases ho : okB t
  · simp [ho]
  · have h1 := okB_iff.1 ho
    have hs : setN [t] = 2 ^ t.toNat := by simp [setN]
    simp only [List.all_cons, List.all_nil, ho, Bool.and_true, if_true, Bool.true_and, hs]
    cases hb : x.of.testBit t.toNat
    · have : x.of &&& 2 ^ t.toNat = 0 := by
        apply Nat.eq_of_testBit_eq
        intro i
        rw [Nat.testBit_and, Nat.testBit_two_pow, Nat.zero_testBit]
        by_cases hi : t.toNat = i
        · subst hi; rw [hb]; rfl
        · simp [hi]
      simp [this]
    · have : (x.of &&& 2 ^ t.toNat).testBit t.toNat = true := by rw [Nat.testBit_and, hb, Nat.testBit_two_pow]; simp
      have h0 : x.of &&& 2 ^ t.toNat ≠ 0 := fun e => by rw [e] at this; simp at this
      simpa using h0
theorem meetW_len' (ws : Ws) (u k : Nat) : (meetW (ws.take k) u).length ≤ k := by
  unfold meetW ths
  rw [List.length_map]
  have h1 := List.length_filter_le (meets u) (ws.take k)
  have h2 : (ws.take k).length ≤ k := by rw [List.length_take]; omega
  omega
set_option maxHeartbeats 1600000 in
theorem rAt_any (w : World) (b : Nat) (ws : Ws) (h : RAt w b ws) (t : Int) :
    Calls Try.prog 32 #[ptr b, .int .i64 t] w fun e w' => ∃ v, e = .returned v ∧ IntsAt w.heap.size w' v (meetW ws (setR [t])) ∧ Below w.heap.size w w' := by
  obtain ⟨i0, hi, hz0, hz1, hz2⟩ := info_parts infoI
  obtain ⟨la, lc, hb, ho, hwf⟩ := h
  have hlen := hwf.len
  have b0 := blk_cell hb 0
  simp only [List.getElem?_toArray, List.getElem?_cons_zero, List.getElem?_cons_succ] at b0
  have HO := Lib.hid ho; have B0 := Lib.hid b0; have HWF := Lib.hid hwf
  obtain ⟨u, hu⟩ : ∃ u, setR [t] = u := ⟨_, rfl⟩
  have HU := Lib.hid hu
  rw [hu]
  clear hb ho hwf hu
  by_cases ht : okB t = true
  · have h1 := okB_iff.1 ht
    obtain ⟨q, rfl⟩ : ∃ q : Nat, t = q := ⟨t.toNat, by omega⟩
    have hq : q < 12 := by omega
    have hq12 : (q : Int) < 12 := by omega
    have hq0 : (0 : Int) ≤ q := by omega
    have HMO := Lib.hid (show ∀ x ∈ ws, meets u x = x.of.testBit q from fun x hx => by
      rw [← HU.out, meets_one (HWF.out.ok x hx).2.1, ht]; simp)
    clear ht h1
    go_enter Try.func32, Try.ntmps32
    go_wp2_with fail
    go_loopw [5, 6] (fun v i wr => ∃ k : Nat, i = .int .i64 k ∧ k ≤ ws.length ∧ IntsAt w.heap.size wr v (meetW (ws.take k) u) ∧ Below w.heap.size w wr) (fun _ i _ => ws.length - (intOf i).toNat)
    case atStart => exact ⟨0, rfl, Nat.zero_le _, World.ownsRow_nil _ _ _ _, Below.refl _ _⟩
    case round =>
      obtain ⟨k, rfl, hk, hR, hB⟩ := hrel
      have HR := Lib.hid hR; have HB := Lib.hid hB
      clear hR hB
      replace b0 := bkeep HB.out B0.out
      by_cases hlt : k < ws.length
      · obtain ⟨x, hx⟩ : ∃ x, ws[k]? = some x := ⟨ws[k], List.getElem?_eq_getElem hlt⟩
        rcases HO.out.2 with ⟨h0, h1⟩ | ⟨g, cap, cur, h0, _⟩
        · omega
        injection h0 with h0 hmid h2
        clear hmid
        subst h0 h2
        obtain ⟨c0, cof, _⟩ := row_at HO.out hx
        replace c0 := bkeep HB.out c0
        have c1 := bkeep HB.out (cof q hq)
        have hmo := HMO.out x (List.mem_of_getElem? hx)
        have hs := meetW_snoc ws u k x hx
        rw [hmo] at hs
        have hml := meetW_len' ws u k
        have hsz := HB.out.size
        obtain ⟨xt, xo, xs⟩ := x
        simp only at c0 c1 hs hmo
        cases hbt : xo.testBit q
        · rw [hbt] at c1 hs
          have HS2 := Lib.hid (show meetW (ws.take (k + 1)) u = meetW (ws.take k) u by simpa using hs)
          clear hbt hs hx cof hmo
          go_wp2_with fail
          exact ⟨⟨k + 1, by go_num, by omega, by rw [HS2.out]; exact HR.out, HB.out⟩, by simp [intOf]; omega⟩
        · rw [hbt] at c1 hs
          have HS2 := Lib.hid (show meetW (ws.take (k + 1)) u = meetW (ws.take k) u ++ [xt] by simpa using hs)
          clear hbt hs hx cof hmo
          go_wp2_with (at_builtin; refine wpList_append_own _ rfl _ _ 28 rfl w.heap.size 3 i0 (.int .i64 0) 1 8 Try.underlying28 hi hz0 hz1 hz2 rfl (by decide) _ _ ((meetW (ws.take k) u).map fun t => .int .i64 t) rfl (HR.out.below ((Below.refl wr.heap.size wr).alloc (Nat.le_refl _) _)) ⟨wr.heap.size, 0, none⟩ 1 1 [.int .i64 xt] rfl rfl ?_ ?_ ?_ ?_ ?_ ?_); rotate_right; (intro v' w2 hown hgr _; have hB2 : Below w.heap.size w w2 := (HB.out.alloc hsz _).grown hgr (by simp; omega) (fun k hk => (World.ownsRow.lt HR.out k hk).1); have HB2 := Lib.hid hB2; have HP2 := Lib.hid (show IntsAt w.heap.size w2 v' (meetW (ws.take k) u ++ [xt]) from (by unfold IntsAt; rw [List.map_append, List.length_append]; exact hown)); clear hown hgr hB2; go_wp2_with fail; exact ⟨⟨k + 1, by go_num, by omega, by rw [HS2.out]; exact HP2.out, HB2.out⟩, by simp [intOf]; omega⟩); all_goals (first | (intro jj vv hv; rw [Addr.add_lit]; have hnw := blk_cell (blk_new wr (.cells #[.int .i64 xt] 3)) jj; rw [Nat.zero_add, hnw]; simpa using hv) | (simp [Value.oneCell']; done) | (unfold maxLen; omega) | omega | (simp; omega))
      · obtain rfl : k = ws.length := by omega
        have hR := HR.out
        rw [List.take_of_length_le (Nat.le_refl _)] at hR
        have HR2 := Lib.hid hR
        clear hR HR
        go_wp2_with fail
        go_ret
        exact ⟨_, rfl, HR2.out, HB.out⟩
  · have hob : okB t = false := by cases h : okB t; rfl; exact absurd h ht
    have hmw : meetW ws u = [] := by
      unfold meetW ths
      rw [List.filter_eq_nil_iff.2]
      · rfl
      · intro x hx
        rw [← HU.out, meets_one (HWF.out.ok x hx).2.1, hob]
        simp
    have HMW := Lib.hid hmw
    by_cases h0 : 0 ≤ t
    · have d1 : decide (0 ≤ t) = true := by simpa using h0
      have d2 : decide (t < 12) = false := by
        have : ¬ (0 ≤ t ∧ t < 12) := fun h => ht (okB_iff.2 h)
        simp; omega
      clear ht hob hmw h0
      go_enter Try.func32, Try.ntmps32
      go_wp2_with fail
      go_loopw [5, 6] (fun v i wr => i = .int .i64 0 ∧ v = .slice none 0 0 ∧ wr = w) (fun _ _ _ => 0)
      case atStart => exact ⟨rfl, rfl, rfl⟩
      case round =>
        obtain ⟨rfl, rfl, rfl⟩ := hrel
        go_wp2_with fail
        go_ret
        exact ⟨_, rfl, by rw [HMW.out]; exact World.ownsRow_nil _ _ _ _, Below.refl _ _⟩
    · have d1 : decide (0 ≤ t) = false := by simpa using h0
      clear ht hob hmw h0
      go_enter Try.func32, Try.ntmps32
      go_wp2_with fail
      go_loopw [5, 6] (fun v i wr => i = .int .i64 0 ∧ v = .slice none 0 0 ∧ wr = w) (fun _ _ _ => 0)
      case atStart => exact ⟨rfl, rfl, rfl⟩
      case round =>
        obtain ⟨rfl, rfl, rfl⟩ := hrel
        go_wp2_with fail
        go_ret
        exact ⟨_, rfl, by rw [HMW.out]; exact World.ownsRow_nil _ _ _ _, Below.refl _ _⟩
set_option maxHeartbeats 1600000 in
theorem rwaiting_any (w : World) (b : Nat) (ws : Ws) (h : RAt w b ws) :
    Calls Try.prog 35 #[ptr b] w fun e w' => ∃ v, e = .returned v ∧ IntsAt w.heap.size w' v (ths ws) ∧ Below w.heap.size w w' := by
  obtain ⟨i0, hi, hz0, hz1, hz2⟩ := info_parts infoI
  obtain ⟨la, lc, hb, ho, hwf⟩ := h
  have hlen := hwf.len
  have b0 := blk_cell hb 0
  simp only [List.getElem?_toArray, List.getElem?_cons_zero, List.getElem?_cons_succ] at b0
  have HO := Lib.hid ho; have B0 := Lib.hid b0
  clear hb ho hwf
  go_enter Try.func35, Try.ntmps35
  go_wp2_with fail
  go_loopw [3, 4] (fun v i wr => ∃ k : Nat, i = .int .i64 k ∧ k ≤ ws.length ∧ IntsAt w.heap.size wr v (ths (ws.take k)) ∧ Below w.heap.size w wr) (fun _ i _ => ws.length - (intOf i).toNat)
  case atStart => exact ⟨0, rfl, Nat.zero_le _, World.ownsRow_nil _ _ _ _, Below.refl _ _⟩
  case round =>
    obtain ⟨k, rfl, hk, hR, hB⟩ := hrel
    have HR := Lib.hid hR; have HB := Lib.hid hB
    clear hR hB
    replace b0 := bkeep HB.out B0.out
    by_cases hlt : k < ws.length
    · obtain ⟨x, hx⟩ : ∃ x, ws[k]? = some x := ⟨ws[k], List.getElem?_eq_getElem hlt⟩
      rcases HO.out.2 with ⟨h0, h1⟩ | ⟨g, cap, cur, h0, _⟩
      · omega
      injection h0 with h0 hmid h2
      clear hmid
      subst h0 h2
      obtain ⟨c0, _, _⟩ := row_at HO.out hx
      replace c0 := bkeep HB.out c0
      have hsz := HB.out.size
      have hml : (ths (ws.take k)).length ≤ k := by unfold ths; rw [List.length_map, List.length_take]; omega
      have HS2 := Lib.hid (show ths (ws.take (k + 1)) = ths (ws.take k) ++ [x.th] by unfold ths; rw [List.take_add_one, hx, List.map_append]; rfl)
      clear hx
      generalize x.th = xt at *
      go_wp2_with (at_builtin; refine wpList_append_own _ rfl _ _ 28 rfl w.heap.size 3 i0 (.int .i64 0) 1 8 Try.underlying28 hi hz0 hz1 hz2 rfl (by decide) _ _ ((ths (ws.take k)).map fun t => .int .i64 t) rfl (HR.out.below ((Below.refl wr.heap.size wr).alloc (Nat.le_refl _) _)) ⟨wr.heap.size, 0, none⟩ 1 1 [.int .i64 xt] rfl rfl ?_ ?_ ?_ ?_ ?_ ?_); rotate_right; (intro v' w2 hown hgr _; have hB2 : Below w.heap.size w w2 := (HB.out.alloc hsz _).grown hgr (by simp; omega) (fun k hk => (World.ownsRow.lt HR.out k hk).1); have HB2 := Lib.hid hB2; have HP2 := Lib.hid (show IntsAt w.heap.size w2 v' (ths (ws.take k) ++ [xt]) from (by unfold IntsAt; rw [List.map_append, List.length_append]; exact hown)); clear hown hgr hB2; go_wp2_with fail; exact ⟨⟨k + 1, by go_num, by omega, by rw [HS2.out]; exact HP2.out, HB2.out⟩, by simp [intOf]; omega⟩); all_goals (first | (intro jj vv hv; rw [Addr.add_lit]; have hnw := blk_cell (blk_new wr (.cells #[.int .i64 xt] 3)) jj; rw [Nat.zero_add, hnw]; simpa using hv) | (simp [Value.oneCell']; done) | (unfold maxLen; omega) | omega | (simp; omega))
    · obtain rfl : k = ws.length := by omega
      have hR := HR.out
      rw [List.take_of_length_le (Nat.le_refl _)] at hR
      have HR2 := Lib.hid hR
      clear hR HR
      go_wp2_with fail
      go_ret
      exact ⟨_, rfl, HR2.out, HB.out⟩
end Go.Proofs.Ytddcpehncbcliaa.Wai
