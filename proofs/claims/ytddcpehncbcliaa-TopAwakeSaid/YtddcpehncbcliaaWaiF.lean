/- meet, Wake, At, Of, Asleep, Waiting. -/
import Derived.Test.YtddcpehncbcliaaWaiE
namespace Go.Proofs.Ytddcpehncbcliaa.Wai
open Go.RowKit
set_option linter.unusedSimpArgs false
set_option linter.unusedVariables false

theorem meetW_snoc (ws : Ws) (u k : Nat) (x : Wt) (h : ws[k]? = some x) : meetW (ws.take (k + 1)) u = meetW (ws.take k) u ++ (if meets u x then [x.th] else []) := by
  unfold meetW ths
  rw [List.take_add_one, h, List.filter_append, List.map_append]
  congr 1
  cases hm : meets u x <;> simp [hm]
set_option maxHeartbeats 1600000 in
theorem meet_any {F : Nat → Prop} (w : World) (b n : Nat) (ws : Ws) (h : ListsAt w b F n ws) (u : Nat) (hu : u < 4294967296) :
    Calls Try.prog 37 #[ptr b, .int .u32 u] w fun e w' => ∃ v, e = .returned v ∧ IntsAt w.heap.size w' v (meetW ws u) ∧ Below w.heap.size w w' := by
  obtain ⟨i0, hi, hz0, hz1, hz2⟩ := info_parts infoI
  have hlen := h.wf.len
  obtain ⟨ov, bm, hb, ho, hm, _, _, _, _, hwf⟩ := h
  obtain ⟨oa, oc, rfl⟩ := ownsRow_slice ho
  have b0 := blk_cell hb 0; have b1 := blk_cell hb 1
  simp only [List.getElem?_toArray, List.getElem?_cons_zero, List.getElem?_cons_succ] at b0 b1
  have HWF := Lib.hid hwf; have HM := Lib.hid hm; have HO := Lib.hid ho
  obtain ⟨m, hmm⟩ : ∃ m, ws.length = m := ⟨_, rfl⟩
  have HN := Lib.hid hmm
  rw [hmm] at b0 HO hlen
  have B1 := Lib.hid b1
  clear hb hwf hm ho hmm
  go_enter Try.func37, Try.ntmps37
  go_wp2_with fail
  go_loopw [5, 13] (fun s i wr => ∃ k : Nat, i = .int .i64 k ∧ k ≤ m ∧ IntsAt w.heap.size wr s (meetW (ws.take k) u) ∧ Below w.heap.size w wr) (fun _ i _ => m - (intOf i).toNat)
  case atStart => exact ⟨0, rfl, Nat.zero_le _, World.ownsRow_nil _ _ _ _, Below.refl _ _⟩
  case round =>
    obtain ⟨k, rfl, hk, hR, hB⟩ := hrel
    have HB := Lib.hid hB; have HR := Lib.hid hR
    clear hB hR
    by_cases hlt : k < m
    · obtain ⟨x, hx⟩ : ∃ x, ws[k]? = some x := ⟨ws[k]'(by rw [HN.out]; exact hlt), List.getElem?_eq_getElem _⟩
      have hmem := List.mem_of_getElem? hx
      obtain ⟨hok, hlt4, _⟩ := HWF.out.ok x hmem
      have hlook := (HM.out.below HB.out).look (by kernel_rfl) Try.underlying55 (zeroW _) (okTh_in hok)
      have hfw : mapW ws x.th = some (wV x) := by unfold mapW; rw [findW_at HWF.out.nodup hmem]; rfl
      rw [hfw] at hlook
      have hs := meetW_snoc ws u k x hx
      have hand := u32_and_nat x.of u (by omega) hu
      rcases HO.out.2 with ⟨h0, h1⟩ | ⟨g, cap, cur, h0, _⟩
      · omega
      injection h0 with h0 hmid h2
      clear hmid
      subst h0 h2
      have hcell := bkeep HB.out (row_cell1 (v := .nilFunc) HO.out (show ((ths ws).map fun t => Value.int .i64 t)[k]? = some (.int .i64 x.th) by simp [ths, hx]))
      have cb1 := bkeep HB.out B1.out
      have hmlen : (meetW (ws.take k) u).length ≤ k := by
        unfold meetW ths
        rw [List.length_map]
        have h1 := List.length_filter_le (meets u) (ws.take k)
        have h2 : (ws.take k).length ≤ k := by rw [List.length_take]; omega
        omega
      have HS := Lib.hid hs
      have hsz := HB.out.size
      obtain ⟨xt, xo, xs⟩ := x
      simp only [Option.getD_some, wV] at hlook hcell hand
      have hfield : (Instr.field 61 (.agg #[.int .u32 xo, .bool xs]) 0).run Try.prog wr = .ok (.int .u32 xo) wr := by kernel_rfl
      have hme : meets u ⟨xt, xo, xs⟩ = (xo &&& u != 0) := rfl
      clear hx hmem hok hs b0 b1 hfw
      cases hq : (xo &&& u != 0)
      · have hz : xo &&& u = 0 := by simpa using hq
        rw [hz] at hand
        have HS2 := Lib.hid (show meetW (ws.take (k + 1)) u = meetW (ws.take k) u by have h := HS.out; simp only [hme, hq] at h; simpa using h)
        clear hq hz HS hme
        go_wp2_with fail
        exact ⟨⟨k + 1, by go_num, by omega, by rw [HS2.out]; exact HR.out, HB.out⟩, by simp [intOf]; omega⟩
      · have hz : ¬ xo &&& u = 0 := by simpa using hq
        have hzb : (((xo &&& u : Nat) : Int) == 0) = false := by simp; omega
        have HS2 := Lib.hid (show meetW (ws.take (k + 1)) u = meetW (ws.take k) u ++ [xt] by have h := HS.out; simp only [hme, hq] at h; simpa using h)
        clear hq hz HS hme
        generalize xo &&& u = xu at *
        go_wp2_with (at_builtin; refine wpList_append_own _ rfl _ _ 28 rfl w.heap.size 3 i0 (.int .i64 0) 1 8 Try.underlying28 hi hz0 hz1 hz2 rfl (by decide) _ _ ((meetW (ws.take k) u).map fun t => .int .i64 t) rfl (HR.out.below ((Below.refl wr.heap.size wr).alloc (Nat.le_refl _) _)) ⟨wr.heap.size, 0, none⟩ 1 1 [.int .i64 xt] rfl rfl ?c1 ?c2 ?c3 ?c4 ?c5 ?_)
        case c2 => simp [Value.oneCell']
        case c3 => unfold maxLen; omega
        case c4 => omega
        case c5 => (try simp) <;> omega
        intro v' w2 hown hgr _
        have hB2 : Below w.heap.size w w2 := (HB.out.alloc hsz _).grown hgr (by simp; omega) (fun k hk => (World.ownsRow.lt HR.out k hk).1)
        have HB2 := Lib.hid hB2
        have HP2 := Lib.hid (show IntsAt w.heap.size w2 v' (meetW (ws.take (k + 1)) u) from by unfold IntsAt; rw [HS2.out, List.map_append, List.length_append]; exact hown)
        clear hown hgr hB2 hlook hcell cb1
        go_wp2_with fail
        exact ⟨⟨k + 1, by go_num, by omega, HP2.out, HB2.out⟩, by simp [intOf]; omega⟩
    · obtain rfl : k = m := by omega
      have hR := HR.out
      rw [List.take_of_length_le (by rw [HN.out]; exact Nat.le_refl _)] at hR
      have HR2 := Lib.hid hR
      clear hR HR
      go_wp2_with fail
      go_ret
      exact ⟨_, rfl, HR2.out, HB.out⟩
/-! ### Asleep, Of, At, Waiting -/
theorem asleep_any {F : Nat → Prop} (w : World) (b n : Nat) (ws : Ws) (h : ListsAt w b F n ws) (th : Int) :
    Calls Try.prog 13 #[ptr b, .int .i64 th] w fun e w' => e = .returned (.bool (gSl ws th)) ∧ Below w.heap.size w w' := by
  have HGET := Lib.hid (get_any w b n ws h th)
  clear h
  go_enter Try.func13, Try.ntmps13
  go_wp2_with fail
  refine HGET.out.mono ?_
  rintro e w1 ⟨rfl, l1⟩
  have L1 := Lib.hid l1
  clear l1
  go_wp2_with fail
  go_ret
  exact ⟨rfl, btrans L1.out (Nat.le_refl _) (by repeat (first | (with_reducible exact Below.refl _ _) | (with_reducible apply Below.drew) | (with_reducible refine below_drewN ?_ _) | (with_reducible refine below_alloc' ?_ ?_ _; (focus ((try simp) <;> omega))) | (with_reducible refine below_set' ?_ ?_ _; (focus ((try simp) <;> omega)))))⟩
theorem gOf_lt {ws : Ws} (h : WfW ws) (th : Int) : gOf ws th < 4096 := by
  unfold gOf
  cases hf : findW ws th with
  | none => decide
  | some x => exact (h.ok x (findW_some hf).1).2.1
theorem of_any {F : Nat → Prop} (w : World) (b n : Nat) (ws : Ws) (h : ListsAt w b F n ws) (th : Int) :
    Calls Try.prog 15 #[ptr b, .int .i64 th] w fun e w' => ∃ v, e = .returned v ∧ IntsAt w.heap.size w' v (bitsOf (gOf ws th) 12) ∧ Below w.heap.size w w' := by
  have HGET := Lib.hid (get_any w b n ws h th)
  have hlt := gOf_lt h.wf th
  clear h
  generalize gOf ws th = s at *
  go_enter Try.func15, Try.ntmps15
  go_wp2_with fail
  refine HGET.out.mono ?_
  rintro e w1 ⟨rfl, l1⟩
  have L1 := Lib.hid l1
  clear l1
  go_wp2_with fail
  obtain ⟨W2, hW2⟩ : ∃ W2, w1.alloc (.cells #[.int .u32 s, .bool (gSl ws th)] 61) = W2 := ⟨_, rfl⟩
  have L2 := Lib.hid (show Below w.heap.size w W2 from btrans L1.out (Nat.le_refl _) (by rw [← hW2]; repeat (first | (with_reducible exact Below.refl _ _) | (with_reducible apply Below.drew) | (with_reducible refine below_drewN ?_ _) | (with_reducible refine below_alloc' ?_ ?_ _; (focus ((try simp) <;> omega))) | (with_reducible refine below_set' ?_ ?_ _; (focus ((try simp) <;> omega))))))
  rw [hW2]
  clear hW2
  refine (list_any W2 s hlt).mono ?_
  rintro e w3 ⟨v, rfl, h3, l3⟩
  have H3 := Lib.hid h3; have L3 := Lib.hid l3
  clear h3 l3
  go_wp2_with fail
  go_ret
  exact ⟨_, rfl, ownsRow_base H3.out (fun k hk => Nat.le_trans L2.out.size (H3.out.lt k hk).1), btrans L2.out (Nat.le_refl _) L3.out⟩
theorem waiting_any {F : Nat → Prop} (w : World) (b n : Nat) (ws : Ws) (h : ListsAt w b F n ws) :
    Calls Try.prog 12 #[ptr b] w fun e w' => ∃ v, e = .returned v ∧ IntsAt w.heap.size w' v (ths ws) ∧ Below w.heap.size w w' := by
  have hlen := h.wf.len
  obtain ⟨ov, bm, hb, ho, hm, _, _, _, _, hwf⟩ := h
  have b0 := blk_cell hb 0
  simp only [List.getElem?_toArray, List.getElem?_cons_zero, List.getElem?_cons_succ] at b0
  have HC := Lib.hid (cloneI_any w ov ws.length _ ho (by omega) (fun u hu => by obtain ⟨t, _, rfl⟩ := List.mem_map.1 hu; rfl))
  clear hb ho hm hwf
  go_enter Try.func12, Try.ntmps12
  go_wp2_with fail
  refine HC.out.mono ?_
  rintro e w1 ⟨v, rfl, h1, l1⟩
  have H1 := Lib.hid h1; have L1 := Lib.hid l1
  clear h1 l1
  go_wp2_with fail
  go_ret
  exact ⟨_, rfl, by unfold IntsAt; rw [show (ths ws).length = ws.length by simp [ths]]; exact H1.out, L1.out⟩
theorem setR_lt (ts : List Int) : setR ts < 4096 := by
  unfold setR
  split
  · rename_i h; exact setN_lt (List.all_eq_true.1 h)
  · decide
theorem one_in (w : World) (t : Int) : IntsIn (w.alloc (.cells #[.int .i64 t] 3)) (some ⟨w.heap.size, 0, none⟩) 1 [t] := by
  refine ⟨rfl, .inr ⟨w.heap.size, 0, rfl, fun i hi => ?_⟩⟩
  obtain rfl : i = 0 := by omega
  exact blk_cell (blk_new w (.cells #[.int .i64 t] 3)) 0
theorem at_any {F : Nat → Prop} (w : World) (b n : Nat) (ws : Ws) (h : ListsAt w b F n ws) (t : Int) :
    Calls Try.prog 19 #[ptr b, .int .i64 t] w fun e w' => ∃ v, e = .returned v ∧ IntsAt w.heap.size w' v (meetW ws (setR [t])) ∧ Below w.heap.size w w' := by
  have hlt := setR_lt [t]
  obtain ⟨W2, hW2⟩ : ∃ W2, w.alloc (.cells #[.int .i64 t] 3) = W2 := ⟨_, rfl⟩
  have L2 := Lib.hid (show Below w.heap.size w W2 from by rw [← hW2]; repeat (first | (with_reducible exact Below.refl _ _) | (with_reducible apply Below.drew) | (with_reducible refine below_drewN ?_ _) | (with_reducible refine below_alloc' ?_ ?_ _; (focus ((try simp) <;> omega))) | (with_reducible refine below_set' ?_ ?_ _; (focus ((try simp) <;> omega)))))
  have hone := one_in w t
  rw [hW2] at hone
  have HS := Lib.hid (setOf_any W2 _ 1 1 [t] hone (by decide))
  have HM := Lib.hid (meet_any W2 b n ws (h.below L2.out) (setR [t]) (by omega))
  have HW := Lib.hid hW2
  clear h hone hW2
  generalize setR [t] = s at *
  go_enter Try.func19, Try.ntmps19
  go_wp2_with fail
  rw [HW.out]
  refine HS.out.mono ?_
  rintro e w0 ⟨rfl, rfl⟩
  go_wp2_with fail
  refine HM.out.mono ?_
  rintro e w3 ⟨v, rfl, h3, l3⟩
  have H3 := Lib.hid h3; have L3 := Lib.hid l3
  clear h3 l3
  go_wp2_with fail
  go_ret
  exact ⟨_, rfl, ownsRow_base H3.out (fun k hk => Nat.le_trans L2.out.size (H3.out.lt k hk).1), btrans L2.out (Nat.le_refl _) L3.out⟩
end Go.Proofs.Ytddcpehncbcliaa.Wai
