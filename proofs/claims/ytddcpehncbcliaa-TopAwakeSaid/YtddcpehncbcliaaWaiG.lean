/- Wake; Fork. -/
import Derived.Test.YtddcpehncbcliaaWaiF
import Derived.Laws.Externs
import Derived.Shelf.SlMaps.Clone
namespace Go.Proofs.Ytddcpehncbcliaa.Wai
open Go.RowKit
set_option linter.unusedSimpArgs false
set_option linter.unusedVariables false

theorem wakeN_snoc (ts : List Int) (t : Int) : wakeN (ts ++ [t]) = wakeN ts ||| setR [t] := by
  unfold wakeN setR
  rw [List.foldl_append]
  show _ ||| (if okB t then 2 ^ t.toNat else 0) = _ ||| (if [t].all okB = true then setN [t] else 0)
  have : setN [t] = 2 ^ t.toNat := by simp [setN]
  simp [this]
theorem wakeN_lt (ts : List Int) : wakeN ts < 4096 := by
  have h : ∀ (ts : List Int) (s : Nat), s < 4096 → ts.foldl (fun s t => s ||| (if okB t then 2 ^ t.toNat else 0)) s < 4096 := by
    intro ts
    induction ts with
    | nil => exact fun s h => h
    | cons t ts ih =>
      intro s hs
      refine ih _ (Nat.or_lt_two_pow (n := 12) hs ?_)
      split
      · rename_i ho
        have := okB_iff.1 ho
        exact Nat.pow_lt_pow_right (by decide) (by omega)
      · decide
  exact h ts 0 (by decide)
/-- out one by one -/
def outs (ws : Ws) (l : List Int) : Ws := l.foldl without ws
theorem outs_snoc (ws : Ws) (l : List Int) (th : Int) : outs ws (l ++ [th]) = without (outs ws l) th := by simp [outs]
theorem outs_eq (l : List Int) : ∀ ws, outs ws l = ws.filter fun x => decide (x.th ∉ l) := by
  induction l with
  | nil => intro ws; exact (List.filter_eq_self.2 fun x _ => by simp).symm
  | cons t l ih =>
    intro ws
    show outs (without ws t) l = _
    rw [ih]
    unfold without
    rw [List.filter_filter]
    refine List.filter_congr fun x _ => ?_
    by_cases h1 : x.th = t <;> by_cases h2 : x.th ∈ l <;> simp [h1, h2]
theorem outs_wake {ws : Ws} (h : WfW ws) (u : Nat) : outs ws (meetW ws u) = wakeS ws u := by
  rw [outs_eq]
  unfold wakeS
  refine List.filter_congr fun x hx => ?_
  have : x.th ∈ meetW ws u ↔ meets u x = true := by
    unfold meetW ths
    rw [List.mem_map]
    constructor
    · rintro ⟨y, hy, he⟩
      have h1 := (List.mem_filter.1 hy)
      have h2 := findW_at h.nodup h1.1
      have h3 := findW_at h.nodup hx
      rw [he, h3] at h2
      injection h2 with h2
      rw [h2]; exact h1.2
    · intro hm
      exact ⟨x, List.mem_filter.2 ⟨hx, hm⟩, rfl⟩
  cases hm : meets u x
  · have hn : x.th ∉ meetW ws u := fun e => by rw [this.1 e] at hm; cases hm
    simp [hn]
  · have hn : x.th ∈ meetW ws u := this.2 hm
    simp [hn]
theorem meetW_len {ws : Ws} (h : WfW ws) (u : Nat) : (meetW ws u).length ≤ 4 := by
  have h1 := h.len
  have h2 := List.length_filter_le (meets u) ws
  unfold meetW ths
  rw [List.length_map]
  omega
theorem meetW_ok {ws : Ws} (h : WfW ws) (u : Nat) : ∀ t ∈ meetW ws u, okTh t := by
  intro t ht
  unfold meetW ths at ht
  obtain ⟨x, hx, rfl⟩ := List.mem_map.1 ht
  exact (h.ok x (List.mem_filter.1 hx).1).1
def WakePost (w : World) (b : Nat) (F : Nat → Prop) (n : Nat) (ws : Ws) (u : Nat) (e : Ending) (w' : World) : Prop :=
  ∃ v, e = .returned v ∧ IntsAt w.heap.size w' v (meetW ws u) ∧ (∀ k, v.ownBlock = some k → ¬ F k) ∧ ListsAt w' b (Grow F w w') n (wakeS ws u) ∧ Only F w w'
set_option maxHeartbeats 3200000 in
theorem wake_any {F : Nat → Prop} (w : World) (b n : Nat) (ws : Ws) (h : ListsAt w b F n ws) (a : Option Addr) (m c : Nat) (ts : List Int) (hts : IntsIn w a m ts) (hm : m ≤ 1000000) :
    Calls Try.prog 17 #[ptr b, .slice a m c] w (WakePost w b F n ws (wakeN ts)) := by
  have H := Lib.hid h; have HT := Lib.hid hts
  have hwf := h.wf
  have HWF := Lib.hid hwf
  have HL := Lib.hid hts.1
  obtain ⟨u, hU⟩ : ∃ u, wakeN ts = u := ⟨_, rfl⟩
  rw [hU]
  have HU := Lib.hid hU
  clear h hts hwf hU
  unfold WakePost
  go_enter Try.func17, Try.ntmps17
  go_wp2_with fail
  go_loopw [5, 17] (fun s i wr => ∃ k : Nat, i = .int .i64 k ∧ k ≤ m ∧ s = .int .u32 (wakeN (ts.take k)) ∧ Below w.heap.size w wr) (fun _ i _ => m - (intOf i).toNat)
  case atStart => exact ⟨0, rfl, Nat.zero_le _, rfl, Below.refl _ _⟩
  case round =>
    obtain ⟨k, rfl, hk, rfl, hB⟩ := hrel
    have HB := Lib.hid hB
    clear hB
    by_cases hlt : k < m
    · obtain ⟨g, off, rfl, hc⟩ := HT.out.2.resolve_left (by omega)
      have c0 := bkeep HB.out (hc k hlt)
      have hT := take_snoc ts k (by rw [HL.out]; exact hlt)
      have hw := wakeN_snoc (ts.take k) (ts.getD k 0)
      rw [← hT] at hw
      have l1 := wakeN_lt (ts.take k)
      have l2 := setR_lt [ts.getD k 0]
      have hor := u32_or_nat (wakeN (ts.take k)) (setR [ts.getD k 0]) (by omega) (by omega)
      rw [← hw] at hor
      have HOR := Lib.hid hor
      have HSET := Lib.hid (setOf_any (wr.alloc (.cells #[.int .i64 (ts.getD k 0)] 3)) _ 1 1 [ts.getD k 0] (one_in wr (ts.getD k 0)) (by decide))
      clear hc hT hw l1 l2 hor
      generalize ts.getD k 0 = t at *
      go_wp2_with fail
      refine HSET.out.mono ?_
      rintro e w1 ⟨rfl, rfl⟩
      go_wp2_with fail
      exact ⟨⟨k + 1, by go_num, by omega, by rw [HOR.out], btrans HB.out (Nat.le_refl _) (by repeat (first | (with_reducible exact Below.refl _ _) | (with_reducible apply Below.drew) | (with_reducible refine below_drewN ?_ _) | (with_reducible refine below_alloc' ?_ ?_ _; (focus ((try simp) <;> omega))) | (with_reducible refine below_set' ?_ ?_ _; (focus ((try simp) <;> omega)))))⟩, by simp [intOf]; omega⟩
    · obtain rfl : k = m := by omega
      rw [List.take_of_length_le (by rw [HL.out]; exact Nat.le_refl _), HU.out]
      have hu := wakeN_lt ts
      rw [HU.out] at hu
      have HME := Lib.hid (meet_any wr b n ws (H.out.below HB.out) u (by omega))
      have hml := meetW_len HWF.out u
      go_wp2_with fail
      refine HME.out.mono ?_
      rintro e w2 ⟨v, rfl, h2, l2⟩
      have HL2 := Lib.hid (btrans HB.out (Nat.le_refl _) l2)
      obtain ⟨va, vc, rfl, hin⟩ := h2.open
      have HI2 := Lib.hid h2; have HIN := Lib.hid hin
      obtain ⟨q, hq⟩ : ∃ q, (meetW ws u).length = q := ⟨_, rfl⟩
      have HQ := Lib.hid hq
      rw [hq] at hml HIN ⊢
      have hvb : ∀ k, (Value.slice va q vc).ownBlock = some k → wr.heap.size ≤ k ∧ k < w2.heap.size := fun k hk => by
        rw [← hq] at hk
        exact World.ownsRow.lt h2 k hk
      have HVB := Lib.hid hvb
      have HLS := Lib.hid (H.out.below HL2.out)
      have HFW := Lib.hid H.out.within
      have hszr := HB.out.size
      have hszl := l2.size
      clear h2 l2 hin hq hvb
      go_wp2_with fail
      go_loopw [36] (fun i wq => ∃ (j : Nat) (F' : Nat → Prop), i = .int .i64 j ∧ j ≤ q ∧ ListsAt wq b F' n (outs ws ((meetW ws u).take j)) ∧ (∀ k, F' k → F k ∨ w2.heap.size ≤ k) ∧ Only F w2 wq) (fun i _ => q - (intOf i).toNat)
      case atStart => exact ⟨0, F, rfl, Nat.zero_le _, HLS.out, fun k hk => .inl hk, Only.refl _ _⟩
      case round =>
        obtain ⟨j, F', rfl, hj, hL, hF, hO⟩ := hrel
        have HLQ := Lib.hid hL; have HFQ := Lib.hid hF; have HOQ := Lib.hid hO
        clear hL hF hO
        by_cases hlt2 : j < q
        · obtain ⟨g, off, rfl, hc⟩ := HIN.out.2.resolve_left (by omega)
          have c0 := hc j hlt2
          have hg : g < w2.heap.size ∧ ¬ F g := by
            rcases HI2.out.2 with ⟨h0, _⟩ | ⟨g', cap', cur, h0, _⟩
            · cases h0
            · injection h0 with h0 _ _
              injection h0 with h0
              injection h0 with h0 _ _
              have := HVB.out g (by subst h0; rfl)
              exact ⟨this.2, fun hf => by have := HFW.out g hf; omega⟩
          replace c0 := HOQ.out.cell c0 hg.2
          have hT := take_snoc (meetW ws u) j (by rw [HQ.out]; exact hlt2)
          have hmem : (meetW ws u).getD j 0 ∈ meetW ws u := by rw [List.getD_eq_getElem?_getD, List.getElem?_eq_getElem (by rw [HQ.out]; exact hlt2)]; exact List.getElem_mem _
          have hok := meetW_ok HWF.out u _ hmem
          have hos := outs_snoc ws ((meetW ws u).take j) ((meetW ws u).getD j 0)
          rw [← hT] at hos
          have HOS := Lib.hid hos
          have HOUT := Lib.hid (out_any _ b n _ HLQ.out ((meetW ws u).getD j 0) hok)
          rw [← HOS.out] at HOUT
          clear hc hg hT hmem hok hos
          generalize (meetW ws u).getD j 0 = t at *
          go_wp2_with fail
          refine HOUT.out.mono ?_
          rintro e w5 ⟨rfl, h5, o5⟩
          have hs5 := HOQ.out.size
          have HL5 := Lib.hid h5
          have HF5 := Lib.hid (show ∀ k, Grow F' wr w5 k → F k ∨ w2.heap.size ≤ k from fun k hk => by
            rcases hk with hk | ⟨hk, _⟩
            · exact HFQ.out k hk
            · exact .inr (Nat.le_trans hs5 hk))
          have HO5 := Lib.hid (HOQ.out.after o5 (fun i hi h => (HFQ.out i h).resolve_right (by omega)))
          clear h5 o5 c0
          go_wp2_with fail
          exact ⟨⟨j + 1, _, by go_num, by omega, HL5.out, HF5.out, HO5.out⟩, by simp [intOf]; omega⟩
        · obtain rfl : j = q := by omega
          have hL := HLQ.out
          rw [List.take_of_length_le (by rw [HQ.out]; exact Nat.le_refl _), outs_wake HWF.out] at hL
          have HL9 := Lib.hid hL
          clear hL HLQ
          go_wp2_with fail
          go_ret
          have hnf : ∀ k, (Value.slice va j vc).ownBlock = some k → ¬ F k := fun k hk hf => by
            have h1 := HVB.out k hk
            have h2 := HFW.out k hf
            omega
          have hw2 := HL2.out.size
          have hr := HI2.out
          unfold IntsAt at hr ⊢
          rw [HQ.out] at hr ⊢
          refine ⟨_, rfl, ownsRow_base (ownsRow_only hr HOQ.out hnf) (fun k hk => by have := HVB.out k hk; omega), hnf, ?_, (Only.of_below (B := w.heap.size) (S := F) HL2.out (fun q hq h => absurd hq (Nat.not_lt.2 h))).trans HOQ.out⟩
          refine HL9.out.into (fun k hk => ?_) ?_
          · rcases HFQ.out k hk with h | h
            · exact .inl h
            · exact .inr ⟨by omega, HL9.out.within k hk⟩
          · exact HFW.out.grow (Nat.le_trans hw2 HOQ.out.size)
/-! ### Fork -/
set_option maxRecDepth 50000 in
theorem cloneM_any (w : World) (r n : Nat) (m : Int → Option Value) (h : MapIs Try.prog 3 w r n m) :
    Calls Try.prog 39 #[.map (some r)] w fun e w' => e = .returned (.map (some w.heap.size)) ∧ MapIs Try.prog 3 w' w.heap.size n m ∧ Below w.heap.size w w' := by
  have hres : ∀ W es c, W.heap[r]? = some (.map es c) → (callFunc 47 #[.iface 55 (.map (some r))]).run Try.prog W = .ok (.value (.iface 55 (.map (some W.heap.size)))) (W.alloc (.map es c)) := by
    intro W es c hb
    rw [run_callFunc_extern (fn := Try.f47) Try.func47 (by kernel_rfl) (by kernel_rfl) (by kernel_rfl) (e := Extern.MapsClone.clone) (by kernel_rfl), run_maps_clone_sl W 55 hb]
    rfl
  obtain ⟨D, ⟨es, c, hb, hF, hs, hD⟩, hm⟩ := h
  have hq := fun W => run_eql_map_nil_sl (P := Try.prog) W 55 _ _ (some r) Try.underlying55
  have hta := fun W => run_typeAssert_map_sl (P := Try.prog) W 55 20 _ _ (.map (some w.heap.size)) Try.underlying55
  have hr := hres w es c hb
  have hB : Below w.heap.size w (w.alloc (.map es c)) := by repeat (first | (with_reducible exact Below.refl _ _) | (with_reducible apply Below.drew) | (with_reducible refine below_drewN ?_ _) | (with_reducible refine below_alloc' ?_ ?_ _; (focus ((try simp) <;> omega))) | (with_reducible refine below_set' ?_ ?_ _; (focus ((try simp) <;> omega))))
  have HRES := Lib.hid (show MapIs Try.prog 3 (w.alloc (.map es c)) w.heap.size n m from ⟨D, ⟨es, c, blk_new _ _, hF, hs, hD⟩, hm⟩)
  have HB := Lib.hid hB
  clear hres hb hF hs hD hm hB
  go_enter Try.func39, Try.ntmps39
  go_wp2_with fail
  go_ret
  exact ⟨rfl, HRES.out, HB.out⟩
set_option maxHeartbeats 1600000 in
theorem fork_any {F : Nat → Prop} (w : World) (b n : Nat) (ws : Ws) (h : ListsAt w b F n ws) :
    Calls Try.prog 22 #[ptr b] w fun e w' => ∃ b', e = .returned (ptr b') ∧ ListsAt w' b' (Grow (fun _ => False) w w') n ws ∧ Below w.heap.size w w' := by
  have hlen := h.wf.len
  obtain ⟨ov, bm, hb, ho, hm, f1, f2, f3, f4, hwf⟩ := h
  have hblt := blk_lt hb
  have KW := Lib.hid (show ∀ w', Below w.heap.size w w' → (w'.cell? ⟨b, 0, none⟩ = some ov ∧ w'.cell? ⟨b, 1, none⟩ = some (.map (some bm))) from fun w' l => ⟨blk_cell (bblk l hb) 0, blk_cell (bblk l hb) 1⟩)
  have HO := Lib.hid ho; have HM := Lib.hid hm; have HWF := Lib.hid hwf
  have HC := Lib.hid (show ∀ W, Below w.heap.size w W → _ from fun W l => cloneI_any W ov ws.length _ (ownsRow_only ho (Only.empty l (Nat.le_refl _)) (fun _ _ h => h)) (by omega) (fun u hu => by obtain ⟨t, _, rfl⟩ := List.mem_map.1 hu; rfl))
  have HCM := Lib.hid (show ∀ W, Below w.heap.size w W → _ from fun W l => cloneM_any W bm n _ (hm.below l))
  have hS0 := KW.out w.drew (Below.refl _ _).drew
  have L0 : Below w.heap.size w w.drew := (Below.refl _ _).drew
  clear hb ho hm hwf f1 f2 f3 f4
  go_enter Try.func22, Try.ntmps22
  go_wp2_with fail
  refine wp_region_F (fun w' => w'.cell? ⟨b, 0, none⟩ = some ov ∧ w'.cell? ⟨b, 1, none⟩ = some (.map (some bm))) 12 (by kernel_rfl) ?_
  refine wpAnyF_take (i := 0) (v := ?_) rfl (by kernel_rfl) (by kernel_rfl) (by kernel_rfl) (by kernel_rfl) (fun _ _ _ h => h) (Or.inl ⟨by rfl, ?_⟩) (by assumption) ?_; rotate_left; (focus (intro w hSw; (skip); (first | (go_simp; done) | (go_simp; with_reducible rfl)))); try simp only [Act.put, List.setIfInBounds_toArray, List.set_cons_zero, List.set_cons_succ]
  refine wpAnyF_take (i := 1) (v := ?_) rfl (by kernel_rfl) (by kernel_rfl) (by kernel_rfl) (by kernel_rfl) (fun _ _ _ h => h) (Or.inl ⟨by rfl, ?_⟩) (by assumption) ?_; rotate_left; (focus (intro w hSw; (skip); (first | (go_simp; done) | (go_simp; with_reducible rfl)))); try simp only [Act.put, List.setIfInBounds_toArray, List.set_cons_zero, List.set_cons_succ]
  refine wpAnyF_take (i := 2) (v := ?_) rfl (by kernel_rfl) (by kernel_rfl) (by kernel_rfl) (by kernel_rfl) (fun _ _ _ h => h) (Or.inl ⟨by rfl, ?_⟩) (by assumption) ?_; rotate_left; (focus (intro w hSw; (skip); (first | (go_simp; done) | (go_simp; with_reducible rfl)))); try simp only [Act.put, List.setIfInBounds_toArray, List.set_cons_zero, List.set_cons_succ]
  refine wpAnyF_take (i := 3) (v := ?_) rfl (by kernel_rfl) (by kernel_rfl) (by kernel_rfl) (by kernel_rfl) (fun _ _ _ h => h) (Or.inl ⟨by rfl, ?_⟩) (by assumption) ?_; rotate_left; (focus (intro w hSw; (obtain ⟨q0, q1⟩ := hSw); (first | (go_simp; done) | (go_simp; with_reducible rfl)))); try simp only [Act.put, List.setIfInBounds_toArray, List.set_cons_zero, List.set_cons_succ]
  refine wpAnyF_take (i := 5) (v := ?_) rfl (by kernel_rfl) (by kernel_rfl) (by kernel_rfl) (by kernel_rfl) (fun _ _ _ h => h) (Or.inl ⟨by rfl, ?_⟩) (by assumption) ?_; rotate_left; (focus (intro w hSw; (skip); (first | (go_simp; done) | (go_simp; with_reducible rfl)))); try simp only [Act.put, List.setIfInBounds_toArray, List.set_cons_zero, List.set_cons_succ]
  refine wpAnyF_take (i := 6) (v := ?_) rfl (by kernel_rfl) (by kernel_rfl) (by kernel_rfl) (by kernel_rfl) (fun _ _ _ h => h) (Or.inl ⟨by rfl, ?_⟩) (by assumption) ?_; rotate_left; (focus (intro w hSw; (skip); (first | (go_simp; done) | (go_simp; with_reducible rfl)))); try simp only [Act.put, List.setIfInBounds_toArray, List.set_cons_zero, List.set_cons_succ]
  refine wpAnyF_take (i := 7) (v := ?_) rfl (by kernel_rfl) (by kernel_rfl) (by kernel_rfl) (by kernel_rfl) (fun _ _ _ h => h) (Or.inl ⟨by rfl, ?_⟩) (by assumption) ?_; rotate_left; (focus (intro w hSw; (skip); (first | (go_simp; done) | (go_simp; with_reducible rfl)))); try simp only [Act.put, List.setIfInBounds_toArray, List.set_cons_zero, List.set_cons_succ]
  refine wpAnyF_take (i := 8) (v := ?_) rfl (by kernel_rfl) (by kernel_rfl) (by kernel_rfl) (by kernel_rfl) (fun _ _ _ h => h) (Or.inl ⟨by rfl, ?_⟩) (by assumption) ?_; rotate_left; (focus (intro w hSw; (obtain ⟨q0, q1⟩ := hSw); (first | (go_simp; done) | (go_simp; with_reducible rfl)))); try simp only [Act.put, List.setIfInBounds_toArray, List.set_cons_zero, List.set_cons_succ]
  refine wpAnyF_ready (rs := [4]) (by kernel_rfl) (by simp) ?_
  refine AllF.cons rfl (fun K hK => ?_) AllF.nil
  go_simp
  refine (HC.out _ L0).mono ?_
  rintro e w1 ⟨v, rfl, h1, l1⟩
  obtain ⟨va, vc, rfl⟩ := ownsRow_slice h1
  have L1 := btrans L0 (Nat.le_refl _) l1
  dsimp only
  refine hK.out _ _ (fun _ => KW.out _ L1) ?_; clear hK K; (try simp only [Act.put, List.setIfInBounds_toArray, List.set_cons_zero, List.set_cons_succ])
  refine wpAnyF_ready (rs := [9]) (by kernel_rfl) (by simp) ?_
  refine AllF.cons rfl (fun K hK => ?_) AllF.nil
  go_simp
  refine (HCM.out _ L1).mono ?_
  rintro e w2 ⟨rfl, h2, l2⟩
  have L2 := btrans L1 (Nat.le_refl _) l2
  dsimp only
  refine hK.out _ _ (fun _ => KW.out _ L2) ?_; clear hK K; (try simp only [Act.put, List.setIfInBounds_toArray, List.set_cons_zero, List.set_cons_succ])
  refine wpAnyF_ready (rs := [10]) (by kernel_rfl) (by simp) ?_
  refine AllF.cons rfl (fun K hK => ?_) AllF.nil
  go_simp
  refine hK.out _ _ (fun _ => KW.out _ L2) ?_; clear hK K; (try simp only [Act.put, List.setIfInBounds_toArray, List.set_cons_zero, List.set_cons_succ])
  refine wpAnyF_ready (rs := [11]) (by kernel_rfl) (by simp) ?_
  refine AllF.cons rfl (fun K hK => ?_) AllF.nil
  go_simp
  have L3 := btrans L2 (Nat.le_refl _) (show Below w2.heap.size w2 (w2.alloc (.cells #[.slice va ws.length vc, .map (some w1.heap.size)] 57)) from by repeat (first | (with_reducible exact Below.refl _ _) | (with_reducible apply Below.drew) | (with_reducible refine below_drewN ?_ _) | (with_reducible refine below_alloc' ?_ ?_ _; (focus ((try simp) <;> omega))) | (with_reducible refine below_set' ?_ ?_ _; (focus ((try simp) <;> omega)))))
  refine hK.out _ _ (fun _ => KW.out _ L3) ?_; clear hK K; (try simp only [Act.put, List.setIfInBounds_toArray, List.set_cons_zero, List.set_cons_succ])
  refine wpAnyF_ready (rs := [12]) (by kernel_rfl) (by simp) ?_
  refine AllF.cons rfl (fun K hK => ?_) AllF.nil
  go_simp
  refine hK.out _ _ (fun h => absurd rfl h) ?_; clear hK K; (try simp only [Act.put, List.setIfInBounds_toArray, List.set_cons_zero, List.set_cons_succ]); refine wpAnyF_done (by kernel_rfl) ?_ _
  have H1 := Lib.hid h1; have H2 := Lib.hid h2; have L2' := Lib.hid L2; have L3' := Lib.hid L3; have ll2 := Lib.hid l2
  have hs1 := L1.size
  have hs2 := l2.size
  have hsd : w.drew.heap.size = w.heap.size := rfl
  clear h1 h2 l1 l2 L1 L2 L3 hS0 L0
  go_wp2_with fail
  go_ret
  have l3 : Below w2.heap.size w2 (w2.alloc (.cells #[.slice va ws.length vc, .map (some w1.heap.size)] 57)) := by repeat (first | (with_reducible exact Below.refl _ _) | (with_reducible apply Below.drew) | (with_reducible refine below_drewN ?_ _) | (with_reducible refine below_alloc' ?_ ?_ _; (focus ((try simp) <;> omega))) | (with_reducible refine below_set' ?_ ?_ _; (focus ((try simp) <;> omega))))
  have hv := fun k hk => World.ownsRow.lt H1.out k hk
  refine ⟨w2.heap.size, rfl, ⟨.slice va ws.length vc, w1.heap.size, blk_new _ _, ?_, H2.out.below l3, .inr ⟨by omega, by simp⟩, .inr ⟨by omega, by simp; omega⟩, ?_, ?_, HWF.out⟩, L3'.out⟩
  · exact ownsRow_base (ownsRow_only (ownsRow_only H1.out (Only.empty ll2.out (Nat.le_refl _)) (fun _ _ h => h)) (Only.empty l3 (Nat.le_refl _)) (fun _ _ h => h)) (fun k _ => Nat.zero_le _)
  · intro k hk
    have := hv k hk
    exact .inr ⟨by omega, by simp; omega⟩
  · rintro k (hk | ⟨_, hk⟩)
    · exact hk.elim
    · exact hk
end Go.Proofs.Ytddcpehncbcliaa.Wai
