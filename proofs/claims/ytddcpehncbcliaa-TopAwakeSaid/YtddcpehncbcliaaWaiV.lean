/- The other side: Wake. -/
import Derived.Test.YtddcpehncbcliaaWaiU
import Derived.Maps.AppendAt
namespace Go.Proofs.Ytddcpehncbcliaa.Wai
open Go.RowKit
set_option linter.unusedSimpArgs false
set_option linter.unusedVariables false

theorem meets_or (a b : Nat) (x : Wt) : meets (a ||| b) x = (meets a x || meets b x) := by
  unfold meets
  rw [Nat.and_or_distrib_left]
  cases h1 : (x.of &&& a) <;> cases h2 : (x.of &&& b) <;> simp [Nat.or_eq_zero_iff]
theorem wakeS_snoc (ws : Ws) (u k : Nat) (x : Wt) (h : ws[k]? = some x) : wakeS (ws.take (k + 1)) u = wakeS (ws.take k) u ++ (if meets u x then [] else [x]) := by
  unfold wakeS
  rw [List.take_add_one, h, Option.toList_some, List.filter_append]
  congr 1
  cases hm : meets u x <;> simp [hm]
theorem wakeS_len (ws : Ws) (u k : Nat) : (wakeS (ws.take k) u).length ≤ k := by
  unfold wakeS
  have h1 := List.length_filter_le (fun x => !meets u x) (ws.take k)
  have h2 : (ws.take k).length ≤ k := by rw [List.length_take]; omega
  omega
def RWakePost (w : World) (b : Nat) (ws : Ws) (u : Nat) (e : Ending) (w' : World) : Prop :=
  ∃ v, e = .returned v ∧ IntsAt w.heap.size w' v (meetW ws u) ∧ (RAt w' b (wakeS ws u) ∧ Fresh w w' b) ∧ Only (fun k => k = b) w w'
set_option maxRecDepth 50000 in
set_option maxHeartbeats 6400000 in
theorem rwake_any (w : World) (b : Nat) (ws : Ws) (h : RAt w b ws) (a : Option Addr) (m c : Nat) (ts : List Int) (hts : IntsIn w a m ts) (hm : m ≤ 1000000) :
    Calls Try.prog 43 #[ptr b, .slice a m c] w (RWakePost w b ws (wakeN ts)) := by
  obtain ⟨i0, hi, hz0, hz1, hz2⟩ := info_parts infoI
  obtain ⟨i1, hi1, hy0, hy1, hy2⟩ := info_parts infoO
  have HTS := Lib.hid hts
  have HL := Lib.hid hts.1
  obtain ⟨la, lc, hb, ho, hwf⟩ := h
  have hlen := hwf.len
  have b0 := blk_cell hb 0
  simp only [List.getElem?_toArray, List.getElem?_cons_zero, List.getElem?_cons_succ] at b0
  have HO := Lib.hid ho; have B0 := Lib.hid b0; have HWF := Lib.hid hwf; have HBB := Lib.hid hb
  have hblt := blk_lt hb
  obtain ⟨u, hU⟩ : ∃ u, wakeN ts = u := ⟨_, rfl⟩
  rw [hU]
  have HU := Lib.hid hU
  obtain ⟨n, hn⟩ : ∃ n, ws.length = n := ⟨_, rfl⟩
  have HN := Lib.hid hn
  rw [hn] at HBB HO B0 b0 hlen
  clear hts hwf hU hb ho hn
  unfold RWakePost
  go_enter Try.func43, Try.ntmps43
  go_wp2_with fail
  go_loopw [5, 6, 7] (fun v kv i wr => ∃ k : Nat, i = .int .i64 k ∧ k ≤ n ∧ IntsAt w.heap.size wr v (meetW (ws.take k) u) ∧ wr.ownsRow w.heap.size 76 14 kv (wakeS (ws.take k) u).length (rowW (wakeS (ws.take k) u)) ∧ (∀ q, v.ownBlock = some q → kv.ownBlock = some q → False) ∧ Below w.heap.size w wr) (fun _ _ i _ => n - (intOf i).toNat)
  case atStart => exact ⟨0, rfl, Nat.zero_le _, World.ownsRow_nil _ _ _ _, World.ownsRow_nil _ _ _ _, (fun q hq => by cases hq), Below.refl _ _⟩
  case round =>
    obtain ⟨k, rfl, hk, hV, hKV, hD, hB⟩ := hrel
    have HV := Lib.hid hV; have HKV := Lib.hid hKV; have HD := Lib.hid hD; have HB := Lib.hid hB
    replace b0 := bkeep hB B0.out
    clear hV hKV hD hB
    by_cases hlt : k < n
    · obtain ⟨x, hx⟩ : ∃ x, ws[k]? = some x := ⟨ws[k]'(by rw [HN.out]; exact hlt), List.getElem?_eq_getElem _⟩
      rcases HO.out.2 with ⟨h0, h1⟩ | ⟨g, cap, cur, h0, _⟩
      · omega
      injection h0 with h0 hmid h2
      clear hmid
      subst h0 h2
      have hml := meetW_len' ws u k
      have hwl := wakeS_len ws u k
      have HXO := Lib.hid (HWF.out.ok x (List.mem_of_getElem? hx)).2.1
      have HX := Lib.hid hx
      have HMS := Lib.hid (meetW_snoc ws u k x hx)
      have HWS := Lib.hid (wakeS_snoc ws u k x hx)
      clear hx
      go_wp2_with fail
      obtain ⟨wo, rfl⟩ : ∃ wo, wo = wr := ⟨wr, rfl⟩
      go_loopw [8, 9] (fun hit j wq => ∃ q : Nat, j = .int .i64 q ∧ q ≤ m ∧ hit = .bool (meets (wakeN (ts.take q)) x) ∧ Below wo.heap.size wo wq) (fun _ j _ => m - (intOf j).toNat)
      case atStart => exact ⟨0, rfl, Nat.zero_le _, by simp [wakeN, meets], Below.refl _ _⟩
      case round =>
        obtain ⟨q, rfl, hq, rfl, hB2⟩ := hrel
        have HB2 := Lib.hid hB2
        replace b0 := bkeep hB2 b0
        clear hB2
        by_cases hqm : q < m
        · obtain ⟨gt, off, rfl, hc⟩ := HTS.out.2.resolve_left (by omega)
          have c0 := bkeep HB2.out (bkeep HB.out (hc q hqm))
          have hT := take_snoc ts q (by rw [HL.out]; exact hqm)
          have hw := wakeN_snoc (ts.take q) (ts.getD q 0)
          rw [← hT] at hw
          have HW := Lib.hid (show meets (wakeN (ts.take (q + 1))) x = (meets (wakeN (ts.take q)) x || (okB (ts.getD q 0) && x.of.testBit (ts.getD q 0).toNat)) by rw [hw, meets_or, meets_one HXO.out])
          clear hc hT hw
          generalize ts.getD q 0 = t at *
          cases hh : meets (wakeN (ts.take q)) x
          · have HW2 := Lib.hid (show meets (wakeN (ts.take (q + 1))) x = (okB t && x.of.testBit t.toNat) by rw [HW.out, hh]; rfl)
            by_cases ht0 : 0 ≤ t
            · have d1 : decide (0 ≤ t) = true := by simpa using ht0
              by_cases ht12 : t < 12
              · have d2 : decide (t < 12) = true := by simpa using ht12
                have d3 : okB t = true := okB_iff.2 ⟨ht0, ht12⟩
                have HW3 := Lib.hid (show meets (wakeN (ts.take (q + 1))) x = x.of.testBit t.toNat by rw [HW2.out, d3]; rfl)
                obtain ⟨r, rfl⟩ : ∃ r : Nat, t = r := ⟨t.toNat, by omega⟩
                have hr : r < 12 := by omega
                have hr12 : (r : Int) < 12 := by omega
                have c1 := bkeep HB2.out (bkeep HB.out ((row_at HO.out HX.out).2.1 r hr))
                have HW4 := Lib.hid (show meets (wakeN (ts.take (q + 1))) x = x.of.testBit r from HW3.out)
                clear hh d3 ht0 ht12
                generalize x.of.testBit r = bb at *
                go_wp2_with fail
                have hS0 := And.intro c0 (And.intro b0 c1)
                go_region_held3 (fun w' => w'.cell? ⟨gt, off + q, none⟩ = some (.int .i64 r) ∧ w'.cell? ⟨b, 0, none⟩ = some (.slice (some ⟨g, 0, none⟩) n lc) ∧ w'.cell? ⟨g, k * 14 + 1 + r, none⟩ = some (.bool bb)) (exact hS0) (fail)
                go_wp2_with fail
                exact ⟨⟨q + 1, by go_num, by omega, by rw [HW4.out], by first | exact HB2.out | exact HB2.out.drew | exact btrans HB2.out (Nat.le_refl _) (by repeat (first | (with_reducible exact Below.refl _ _) | (with_reducible apply Below.drew) | (with_reducible refine below_drewN ?_ _) | (with_reducible refine below_alloc' ?_ ?_ _; (focus ((try simp) <;> omega))) | (with_reducible refine below_set' ?_ ?_ _; (focus ((try simp) <;> omega)))))⟩, by simp [intOf]; omega⟩
              · have d2 : decide (t < 12) = false := by simpa using ht12
                have HW3 := Lib.hid (show meets (wakeN (ts.take (q + 1))) x = false by rw [HW2.out]; simp [okB, ht12])
                clear hh ht0 ht12
                go_wp2_with fail
                skip
                refine wp_region_tail 30 (by kernel_rfl) (by kernel_rfl) ?_; simp only [List.take_succ_cons, List.take_zero, List.drop_succ_cons, List.drop_zero]; (repeat (first | (with_reducible refine wpStill_skip ?_ ?_; (focus (first | (simp [Region.wanted, yielded]; done) | (rfl) | (simp [Region.wanted, yielded, undef]; done))); simp only [Act.put, List.setIfInBounds_toArray, List.set_cons_succ, List.set_cons_zero]) | (with_reducible refine wpStill_step (fun KK hKK => ?_); go_simp; refine hKK _ ?_; clear hKK KK))); with_reducible refine wpStill_nil ?_
                go_wp2_with fail
                exact ⟨⟨q + 1, by go_num, by omega, by rw [HW3.out], by first | exact HB2.out | exact HB2.out.drew | exact btrans HB2.out (Nat.le_refl _) (by repeat (first | (with_reducible exact Below.refl _ _) | (with_reducible apply Below.drew) | (with_reducible refine below_drewN ?_ _) | (with_reducible refine below_alloc' ?_ ?_ _; (focus ((try simp) <;> omega))) | (with_reducible refine below_set' ?_ ?_ _; (focus ((try simp) <;> omega)))))⟩, by simp [intOf]; omega⟩
            · have d1 : decide (0 ≤ t) = false := by simpa using ht0
              have HW3 := Lib.hid (show meets (wakeN (ts.take (q + 1))) x = false by rw [HW2.out]; simp [okB, ht0])
              clear hh ht0
              go_wp2_with fail
              skip
              refine wp_region_tail 30 (by kernel_rfl) (by kernel_rfl) ?_; simp only [List.take_succ_cons, List.take_zero, List.drop_succ_cons, List.drop_zero]; (repeat (first | (with_reducible refine wpStill_skip ?_ ?_; (focus (first | (simp [Region.wanted, yielded]; done) | (rfl) | (simp [Region.wanted, yielded, undef]; done))); simp only [Act.put, List.setIfInBounds_toArray, List.set_cons_succ, List.set_cons_zero]) | (with_reducible refine wpStill_step (fun KK hKK => ?_); go_simp; refine hKK _ ?_; clear hKK KK))); with_reducible refine wpStill_nil ?_
              go_wp2_with fail
              exact ⟨⟨q + 1, by go_num, by omega, by rw [HW3.out], by first | exact HB2.out | exact HB2.out.drew | exact btrans HB2.out (Nat.le_refl _) (by repeat (first | (with_reducible exact Below.refl _ _) | (with_reducible apply Below.drew) | (with_reducible refine below_drewN ?_ _) | (with_reducible refine below_alloc' ?_ ?_ _; (focus ((try simp) <;> omega))) | (with_reducible refine below_set' ?_ ?_ _; (focus ((try simp) <;> omega)))))⟩, by simp [intOf]; omega⟩
          · have HW2 := Lib.hid (show meets (wakeN (ts.take (q + 1))) x = true by rw [HW.out, hh]; rfl)
            clear hh
            go_wp2_with fail
            skip
            refine wp_region_tail 30 (by kernel_rfl) (by kernel_rfl) ?_; simp only [List.take_succ_cons, List.take_zero, List.drop_succ_cons, List.drop_zero]; (repeat (first | (with_reducible refine wpStill_skip ?_ ?_; (focus (first | (simp [Region.wanted, yielded]; done) | (rfl) | (simp [Region.wanted, yielded, undef]; done))); simp only [Act.put, List.setIfInBounds_toArray, List.set_cons_succ, List.set_cons_zero]) | (with_reducible refine wpStill_step (fun KK hKK => ?_); go_simp; refine hKK _ ?_; clear hKK KK))); with_reducible refine wpStill_nil ?_
            go_wp2_with fail
            exact ⟨⟨q + 1, by go_num, by omega, by rw [HW2.out], by first | exact HB2.out | exact HB2.out.drew | exact btrans HB2.out (Nat.le_refl _) (by repeat (first | (with_reducible exact Below.refl _ _) | (with_reducible apply Below.drew) | (with_reducible refine below_drewN ?_ _) | (with_reducible refine below_alloc' ?_ ?_ _; (focus ((try simp) <;> omega))) | (with_reducible refine below_set' ?_ ?_ _; (focus ((try simp) <;> omega)))))⟩, by simp [intOf]; omega⟩
        · obtain rfl : q = m := by omega
          rw [List.take_of_length_le (by rw [HL.out]; exact Nat.le_refl _), HU.out]
          have HBQ := Lib.hid (show Below w.heap.size w wr from btrans HB.out (Nat.le_refl _) HB2.out)
          have HV2 := Lib.hid (HV.out.below HB2.out)
          have HKV2 := Lib.hid (ownsRow_only HKV.out (Only.empty HB2.out (Nat.le_refl _)) (fun _ _ h => h))
          have hsz := HBQ.out.size
          have HT := Lib.hid (show wr.rangeAt g (k * 14) (rcW x) from fun j v hv => bkeep HBQ.out (by
            have hj : j < 14 := by have := (List.getElem?_eq_some_iff.1 hv).1; rwa [rcW_len] at this
            have := HO.out.cells (g := g) rfl (k * 14 + j) v (by rw [rowW_get _ _ _ hj, HX.out]; exact hv)
            rwa [Addr.add_lit, Nat.zero_add] at this))
          obtain ⟨c0, _, _⟩ := row_at HO.out HX.out
          replace c0 := bkeep HBQ.out c0
          cases hh : meets u x
          · have HMS2 := Lib.hid (show meetW (ws.take (k + 1)) u = meetW (ws.take k) u by rw [HMS.out, hh]; simp)
            have HWS2 := Lib.hid (show wakeS (ws.take (k + 1)) u = wakeS (ws.take k) u ++ [x] by rw [HWS.out, hh]; rfl)
            obtain ⟨A, hA⟩ : ∃ A, (rcW x).toArray = A := ⟨_, rfl⟩
            have EA := Lib.hid hA
            have EAL := Lib.hid (show A.toList = rcW x by rw [← hA])
            have hfold := fold_one x
            rw [hA] at hfold
            have hsz14 : A.size = 14 := by rw [← hA]; simp [rcW_len]
            have HWN := Lib.hid (WfW.wake HWF.out u)
            clear hh hA
            go_wp2_with (first | (refine wpList_load_mid rfl 76 _ rfl g (k * 14) rfl (rcW x) _ HT.out Try.underlying76 rfl (by rw [sizeO, rcW_len]) ?_; rw [EA.out]) | (at_builtin; refine wpList_append_own_at _ rfl _ _ 69 rfl w.heap.size 76 i1 (.agg (rcW ⟨0, 0, false⟩).toArray) 14 24 Try.underlying69 hi1 hy0 hy1 hy2 zO (by decide) _ _ (rowW (wakeS (ws.take k) u)) rfl (ownsRow_only HKV2.out (Only.empty (show Below wr.heap.size wr (wr.alloc (.cells A 76)) from by repeat (first | (with_reducible exact Below.refl _ _) | (with_reducible apply Below.drew) | (with_reducible refine below_drewN ?_ _) | (with_reducible refine below_alloc' ?_ ?_ _; (focus ((try simp) <;> omega))) | (with_reducible refine below_set' ?_ ?_ _; (focus ((try simp) <;> omega))))) (Nat.le_refl _)) (fun _ _ h => h)) ⟨wr.heap.size, 0, none⟩ 1 1 (rcW x) rfl (by rw [rcW_len]) (blk_news (blk_new wr (.cells A 76)) EAL.out) (rcW_one x) (by unfold maxLen; omega) (by omega) (by simp; omega) ?_))
            intro v' w2 hown hgr _ hat
            have lA : Below wr.heap.size wr (wr.alloc (.cells A 76)) := by repeat (first | (with_reducible exact Below.refl _ _) | (with_reducible apply Below.drew) | (with_reducible refine below_drewN ?_ _) | (with_reducible refine below_alloc' ?_ ?_ _; (focus ((try simp) <;> omega))) | (with_reducible refine below_set' ?_ ?_ _; (focus ((try simp) <;> omega))))
            have hB3 : Below w.heap.size w w2 := (HBQ.out.alloc hsz _).grown hgr (by simp; omega) (fun k hk => (World.ownsRow.lt HKV2.out k hk).1)
            have HB3 := Lib.hid hB3
            have HV3 := Lib.hid (show IntsAt w.heap.size w2 u5 (meetW (ws.take (k + 1)) u) from by
              rw [HMS2.out]; exact ownsRow_only (HV2.out.below lA) (Only.of_grown (S := fun k => u6.ownBlock = some k) hgr (fun k h => h)) (fun q hq h => HD.out q hq h))
            have HKV3 := Lib.hid (show w2.ownsRow w.heap.size 76 14 v' (wakeS (ws.take (k + 1)) u).length (rowW (wakeS (ws.take (k + 1)) u)) from by
              rw [HWS2.out, List.length_append, rowW_append]
              have e : rowW [x] = rcW x := by simp [rowW]
              rw [e]; exact hown)
            have HD3 := Lib.hid (show ∀ q, u5.ownBlock = some q → v'.ownBlock = some q → False from fun q hq hq' => by
              rcases hat with h | h
              · exact HD.out q hq (h ▸ hq')
              · have := h.symm.trans hq'
                have h2 := (World.ownsRow.lt HV2.out q hq).2
                simp at this
                omega)
            clear hown hgr hat hB3 lA
            go_wp2_with fail
            exact ⟨⟨k + 1, by go_num, by omega, HV3.out, HKV3.out, HD3.out, HB3.out⟩, by simp [intOf]; omega⟩
          · have HMS2 := Lib.hid (show meetW (ws.take (k + 1)) u = meetW (ws.take k) u ++ [x.th] by rw [HMS.out, hh]; rfl)
            have HWS2 := Lib.hid (show wakeS (ws.take (k + 1)) u = wakeS (ws.take k) u by rw [HWS.out, hh]; simp)
            clear hh
            generalize x.th = xt at *
            go_wp2_with (at_builtin; refine wpList_append_own_at _ rfl _ _ 28 rfl w.heap.size 3 i0 (.int .i64 0) 1 8 Try.underlying28 hi hz0 hz1 hz2 rfl (by decide) _ _ ((meetW (ws.take k) u).map fun t => .int .i64 t) rfl (ownsRow_only HV2.out (Only.empty (show Below wr.heap.size wr (wr.alloc (.cells #[.int .i64 xt] 3)) from by repeat (first | (with_reducible exact Below.refl _ _) | (with_reducible apply Below.drew) | (with_reducible refine below_drewN ?_ _) | (with_reducible refine below_alloc' ?_ ?_ _; (focus ((try simp) <;> omega))) | (with_reducible refine below_set' ?_ ?_ _; (focus ((try simp) <;> omega))))) (Nat.le_refl _)) (fun _ _ h => h)) ⟨wr.heap.size, 0, none⟩ 1 1 [.int .i64 xt] rfl rfl (fun j u hu => by rw [Addr.add_lit]; have hnw := blk_cell (blk_new wr (.cells #[.int .i64 xt] 3)) j; rw [Nat.zero_add, hnw]; simpa using hu) (by simp [Value.oneCell']) (by unfold maxLen; omega) (by omega) (by simp; omega) ?_)
            intro v' w2 hown hgr _ hat
            have lA : Below wr.heap.size wr (wr.alloc (.cells #[.int .i64 xt] 3)) := by repeat (first | (with_reducible exact Below.refl _ _) | (with_reducible apply Below.drew) | (with_reducible refine below_drewN ?_ _) | (with_reducible refine below_alloc' ?_ ?_ _; (focus ((try simp) <;> omega))) | (with_reducible refine below_set' ?_ ?_ _; (focus ((try simp) <;> omega))))
            have hB3 : Below w.heap.size w w2 := (HBQ.out.alloc hsz _).grown hgr (by simp; omega) (fun k hk => (World.ownsRow.lt HV2.out k hk).1)
            have HB3 := Lib.hid hB3
            have HV3 := Lib.hid (show IntsAt w.heap.size w2 v' (meetW (ws.take (k + 1)) u) from by
              unfold IntsAt; rw [HMS2.out, List.map_append, List.length_append]; exact hown)
            have HKV3 := Lib.hid (show w2.ownsRow w.heap.size 76 14 u6 (wakeS (ws.take (k + 1)) u).length (rowW (wakeS (ws.take (k + 1)) u)) from by
              rw [HWS2.out]
              exact ownsRow_only (ownsRow_only HKV2.out (Only.empty lA (Nat.le_refl _)) (fun _ _ h => h)) (Only.of_grown (S := fun k => u5.ownBlock = some k) hgr (fun k h => h)) (fun q hq h => HD.out q h hq))
            have HD3 := Lib.hid (show ∀ q, v'.ownBlock = some q → u6.ownBlock = some q → False from fun q hq hq' => by
              rcases hat with h | h
              · exact HD.out q (h ▸ hq) hq'
              · have := h.symm.trans hq
                have h2 := (World.ownsRow.lt HKV2.out q hq').2
                simp at this
                omega)
            clear hown hgr hat hB3 lA
            go_wp2_with fail
            exact ⟨⟨k + 1, by go_num, by omega, HV3.out, HKV3.out, HD3.out, HB3.out⟩, by simp [intOf]; omega⟩
    · obtain rfl : k = n := by omega
      have hv := HV.out
      have hkv := HKV.out
      rw [List.take_of_length_le (by rw [HN.out]; exact Nat.le_refl _)] at hv hkv
      obtain ⟨va, vc, rfl⟩ := ownsRow_slice hkv
      have HV2 := Lib.hid hv; have HKV2 := Lib.hid hkv
      have hf := blk_free (bblk HB.out HBB.out) 0
      clear hv hkv
      go_wp2_with fail
      go_ret
      have hnd := row_end HBB.out HB.out HKV2.out rfl (WfW.wake HWF.out u)
      refine ⟨_, rfl, ?_, hnd.2, hnd.1⟩
      refine ownsRow_only HV2.out ((Only.refl (fun q => q = b) wr).setCell (p := ⟨b, 0, none⟩) (.inr rfl) _) (fun q hq e => ?_)
      have := (World.ownsRow.lt HV2.out q hq).1
      omega
end Go.Proofs.Ytddcpehncbcliaa.Wai
