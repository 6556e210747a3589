/- The document's side: one attempt over a heap. -/
import Derived.Test.YtganmdbhmihjpaaGreatOpaAC
namespace Go.Proofs.YtganmdbhmihjpaaGreat.Opa
open Go.RowKit Go.Proofs.YtganmdbhmihjpaaGreat.Wri Go.Proofs.YtganmdbhmihjpaaGreat.His
set_option linter.unusedSimpArgs false
set_option linter.unusedVariables false
set_option maxRecDepth 50000

def OnePost (w : World) (hv : Value) (o : One) (vs : List Int) (e : Ending) (w' : World) : Prop :=
  e = .returned (.bool (fitsB o vs)) ∧ (fitsB o vs = true → ValsAt 0 w' hv (layL o vs)) ∧ Only (fun k => hv.ownBlock = some k) w w'
theorem OnePost.no {w w' : World} {hv : Value} {o : One} {vs : List Int} (h : fitsB o vs = false) (hw : Only (fun k => hv.ownBlock = some k) w w') : OnePost w hv o vs (.returned (.bool false)) w' := by
  unfold OnePost
  rw [h]
  exact ⟨rfl, fun h => absurd h (by decide), hw⟩
theorem OnePost.yes {w w' : World} {hv : Value} {o : One} {vs : List Int} {b : Bool} (h : fitsB o vs = b) (hl : ValsAt 0 w' hv (layL o vs)) (hw : Only (fun k => hv.ownBlock = some k) w w') : OnePost w hv o vs (.returned (.bool b)) w' := by
  subst h
  exact ⟨rfl, fun _ => hl, hw⟩
set_option maxHeartbeats 12800000 in
theorem rone_any {w : World} {p : Option Addr} {n c : Nat} {l : List Ev} {hv : Value} {vs : List Int} (hE : ∀ W, Only (fun k => hv.ownBlock = some k) w W → EvsIn W p n l) (hok : ∀ x ∈ l, 0 ≤ x.v ∧ x.v < 18446744073709551616) (hn : n ≤ 1000000)
    (hH : ValsAt 0 w hv vs) (hvl : vs.length ≤ 1000) (t : Int) (cm : Bool) (o : One) (ho : o = ⟨t, readsL l t, allK (getL (ownL l t)) 12, ownOk l t, cm⟩) (hko : OneOk o) :
    Calls Tryz.prog 49 #[.slice p n c, hv, .int .i64 t, .bool cm] w (OnePost w hv o vs) := by
  have HE := Lib.hid hE; have HOK := Lib.hid hok
  have HRD := Lib.hid (rreads_any w p n c l (hE w (Only.refl _ _)) hok hn t)
  obtain ⟨ha, hc, rfl⟩ := ownsRow_slice hH
  obtain ⟨M, hM⟩ : ∃ M, vs.length = M := ⟨_, rfl⟩
  have HH := Lib.hid hH
  unfold ValsAt at HH
  rw [hM] at HH HE hvl ⊢
  have hrd : readsL l t = o.reads := by rw [ho]
  have hwd : allK (getL (ownL l t)) 12 = o.writes := by rw [ho]
  have hod : ownOk l t = o.own := by rw [ho]
  have hcd : cm = o.com := by rw [ho]
  rw [hrd] at HRD
  have HM := Lib.hid hM; have HKO := Lib.hid hko; have HWD := Lib.hid hwd; have HOD := Lib.hid hod
  have HNEW := Lib.hid (show ∀ k, (Value.slice ha M hc).ownBlock = some k → k < w.heap.size from fun k hk => ownsRow_lt HH.out hk)
  clear hE hok hH ho hko hrd hwd hod hM
  subst hcd
  obtain ⟨num, f, g, own, com⟩ := o
  simp only at HRD HKO HWD HOD ⊢
  go_enter Tryz.func49, Tryz.ntmps49
  go_wp2_with fail
  refine HRD.out.mono ?_
  rintro e w1 ⟨v1, rfl, hv1, l1⟩
  have HP1 := Lib.hid hv1
  have L1 := Lib.hid l1
  have HWR := Lib.hid (rwrites_any w1 p n c l (HE.out w1 (only_below l1 _)) HOK.out hn t)
  rw [HWD.out] at HWR
  clear hv1 l1 HRD
  go_wp2_with fail
  refine HWR.out.mono ?_
  rintro e w2 ⟨v2, rfl, hv2, l2⟩
  have L2 := Lib.hid (btrans L1.out (Nat.le_refl _) l2)
  have hr2 := pairs_grow HP1.out l2
  obtain ⟨ra, rc, rfl, hrc⟩ := pairs_cells (ownsRow_base (base' := 0) hr2 fun _ _ => Nat.zero_le _)
  obtain ⟨wa, wc, rfl, hwc⟩ := pairs_cells (ownsRow_base (base' := 0) hv2 fun _ _ => Nat.zero_le _)
  have HRC := Lib.hid hrc; have HWC := Lib.hid hwc
  have HVI := Lib.hid (show ValsIn w2 ha M vs by
    have h1 : ValsAt 0 w2 (.slice ha M hc) vs := by
      unfold ValsAt
      rw [HM.out]
      exact ownsRow_only HH.out (Only.empty L2.out (Nat.le_refl _)) fun _ _ h => h
    obtain ⟨_, _, e, hi⟩ := h1.open
    injection e with e1 _ _
    subst e1
    rw [HM.out] at hi
    exact hi)
  have HWB := Lib.hid (show ∀ k, (Value.slice wa g.length wc).ownBlock = some k → w.heap.size ≤ k from fun k hk => Nat.le_trans L1.out.size (hv2.lt k hk).1)
  have HW2 := Lib.hid hv2
  obtain ⟨R1, hR1⟩ : ∃ R, f.length = R := ⟨_, rfl⟩
  obtain ⟨R2, hR2⟩ : ∃ R, g.length = R := ⟨_, rfl⟩
  have hk1 := HKO.out.rl; have hk2 := HKO.out.wl
  simp only at hk1 hk2
  rw [hR1] at hk1 ⊢; rw [hR2] at hk2 HWB HW2 ⊢
  have HR1 := Lib.hid hR1; have HR2 := Lib.hid hR2
  clear hr2 hrc hwc hv2 l2 HP1 HWR hR1 hR2 L1
  go_wp2_with fail
  go_loopw [11] (fun i wr => ∃ k : Nat, i = .int .i64 k ∧ k ≤ R1 ∧ (f.take k).all (okP vs) = true ∧ Below w2.heap.size w2 wr) (fun i _ => R1 - (intOf i).toNat)
  case atStart => exact ⟨0, rfl, Nat.zero_le _, by simp, Below.refl _ _⟩
  case round =>
    obtain ⟨k, rfl, hk, hA, hB⟩ := hrel
    have HA := Lib.hid hA; have HB := Lib.hid hB
    clear hA hB
    by_cases hlt : k < R1
    · obtain ⟨⟨tt, v⟩, hx⟩ : ∃ x, f[k]? = some x := ⟨_, List.getElem?_eq_getElem (by rw [HR1.out]; exact hlt)⟩
      obtain ⟨gb, rfl, c0, c1⟩ := HRC.out k _ hx
      replace c0 := bkeep HB.out c0; replace c1 := bkeep HB.out c1
      simp only at c0 c1
      have hlt' : (k : Int) < R1 := by omega
      have hw1 : IntKind.i64.wrap ((k : Int) + 1) = (k : Int) + 1 := by rw [IntKind.wrap_i64]; omega
      obtain ⟨h0, h12⟩ := HKO.out.rk _ (List.mem_of_getElem? hx)
      simp only at h0 h12
      obtain ⟨tn, rfl⟩ := Int.eq_ofNat_of_zero_le h0
      have HX := Lib.hid hx
      have HPK := Lib.hid (show okP vs ((tn : Int), v) = (decide ((tn : Int) < M) && (vs.getD tn 0 == v)) by unfold okP; rw [HM.out]; rfl)
      clear hx
      by_cases hin : tn < M
      · have hin' : (tn : Int) < M := by omega
        have d1 : decide ((M : Int) ≤ tn) = false := by simp; omega
        obtain ⟨hb, hof, rfl, hcv⟩ := HVI.out.2.resolve_left (by omega)
        have cv := bkeep HB.out (hcv tn hin)
        obtain ⟨y, hy⟩ : ∃ y, vs.getD tn 0 = y := ⟨_, rfl⟩
        rw [hy] at cv HPK
        clear hcv hy
        cases hyv : (y == v) with
        | true =>
          have hne : (y != v) = false := by simp only [bne, hyv]; rfl
          have HA2 := Lib.hid (all_take_snoc HX.out HA.out (by rw [HPK.out, hyv]; simp; exact hin))
          clear hyv
          go_wp2_with fail
          go_quiet (fail)
          go_wp2_with fail
          exact ⟨⟨k + 1, by go_num, by omega, HA2.out, below_drewN HB.out _⟩, by simp [intOf]; omega⟩
        | false =>
          have hne : (y != v) = true := by simp only [bne, hyv]; rfl
          have hrf : fitsB ⟨num, f, g, own, com⟩ vs = false := by unfold fitsB; rw [all_bad HX.out (by rw [HPK.out, hyv]; simp)]; rfl
          clear hyv
          go_wp2_with fail
          go_quiet (fail)
          go_wp2_with fail
          go_ret
          exact .no hrf (only_below (below_drewN (btrans L2.out (Nat.le_refl _) HB.out) _) _)
      · have hin' : ¬ (tn : Int) < M := by omega
        have d1 : decide ((M : Int) ≤ tn) = true := by simp; omega
        have hrf : fitsB ⟨num, f, g, own, com⟩ vs = false := by unfold fitsB; rw [all_bad HX.out (by rw [HPK.out]; simp; intro h; omega)]; rfl
        go_wp2_with fail
        refine wp_region_tail 23 (by kernel_rfl) (by kernel_rfl) ?_; simp only [List.take_succ_cons, List.take_zero, List.drop_succ_cons, List.drop_zero]
        repeat (first | with_reducible refine wpStill_skip ?_ ?_; (focus (first | (simp [Region.wanted, yielded]; done) | (rfl) | (simp [Region.wanted, yielded, undef]; done))); simp only [Act.put, List.setIfInBounds_toArray, List.set_cons_succ, List.set_cons_zero] | with_reducible refine wpStill_step (fun KK hKK => ?_); go_simp; refine hKK _ ?_; clear hKK KK)
        with_reducible refine wpStill_nil ?_
        go_wp2_with fail
        go_ret
        exact .no hrf (only_below (btrans L2.out (Nat.le_refl _) HB.out).drew _)
    · obtain rfl : k = R1 := by omega
      have hA := HA.out
      rw [List.take_of_length_le (by rw [HR1.out]; exact Nat.le_refl _)] at hA
      have HA1 := Lib.hid hA
      obtain ⟨wk, rfl⟩ : ∃ wk, wk = wr := ⟨wr, rfl⟩
      have HBK := HB
      clear hA HA HB HRC
      go_wp2_with fail
      go_loopw [12] (fun i wr => ∃ k : Nat, i = .int .i64 k ∧ k ≤ R2 ∧ (g.take k).all (inP vs) = true ∧ wk = wr) (fun i _ => R2 - (intOf i).toNat)
      case atStart => exact ⟨0, rfl, Nat.zero_le _, by simp, rfl⟩
      case round =>
        obtain ⟨j, rfl, hj, hA, rfl⟩ := hrel
        have HA := Lib.hid hA
        clear hA
        by_cases hlt2 : j < R2
        · obtain ⟨⟨tt, v⟩, hx⟩ : ∃ x, g[j]? = some x := ⟨_, List.getElem?_eq_getElem (by rw [HR2.out]; exact hlt2)⟩
          obtain ⟨gb, rfl, c0, c1⟩ := HWC.out j _ hx
          replace c0 := bkeep HBK.out c0
          simp only at c0
          have hlt' : (j : Int) < R2 := by omega
          have hw1 : IntKind.i64.wrap ((j : Int) + 1) = (j : Int) + 1 := by rw [IntKind.wrap_i64]; omega
          obtain ⟨h0, h12⟩ := HKO.out.wk _ (List.mem_of_getElem? hx)
          simp only at h0 h12
          obtain ⟨tn, rfl⟩ := Int.eq_ofNat_of_zero_le h0
          have HX := Lib.hid hx
          have HPK := Lib.hid (show inP vs ((tn : Int), v) = decide ((tn : Int) < M) by unfold inP; rw [HM.out])
          clear hx c1
          by_cases hin : tn < M
          · have d1 : decide ((M : Int) ≤ tn) = false := by simp; omega
            have HA2 := Lib.hid (all_take_snoc HX.out HA.out (by rw [HPK.out]; simp; exact hin))
            go_wp2_with fail
            exact ⟨⟨j + 1, by go_num, by omega, HA2.out, by first | exact rfl | exact trivial⟩, by simp [intOf]; omega⟩
          · have d1 : decide ((M : Int) ≤ tn) = true := by simp; omega
            have hrf : fitsB ⟨num, f, g, own, com⟩ vs = false := by unfold fitsB; rw [all_bad HX.out (by rw [HPK.out]; simp; omega)]; simp
            go_wp2_with fail
            go_ret
            exact .no hrf (only_below (btrans L2.out (Nat.le_refl _) HBK.out) _)
        · obtain rfl : j = R2 := by omega
          have hA := HA.out
          rw [List.take_of_length_le (by rw [HR2.out]; exact Nat.le_refl _)] at hA
          have HIN := Lib.hid (show ∀ p ∈ g, p.1 < M from fun p hp => by
            have := List.all_eq_true.1 hA p hp
            unfold inP at this
            rw [HM.out] at this
            simpa using this)
          have HFB := Lib.hid (show fitsB ⟨num, f, g, own, com⟩ vs = own by unfold fitsB; rw [HA1.out, hA]; simp)
          have LK := Lib.hid (btrans L2.out (Nat.le_refl _) HBK.out)
          have HROW := Lib.hid (show wk.ownsRow 0 58 1 (.slice ha M hc) M (valVals vs) from ownsRow_only HH.out (Only.empty LK.out (Nat.le_refl _)) fun _ _ h => h)
          clear hA HA HA1
          go_wp2_with fail
          go_loopw [13] (fun i wr => ∃ k : Nat, i = .int .i64 k ∧ k ≤ j ∧ (com = false → k = 0) ∧ wr.ownsRow 0 58 1 (.slice ha M hc) M (valVals ((g.take k).foldl (fun vs p => vs.set p.1.toNat p.2) vs)) ∧ Only (fun k => (Value.slice ha M hc).ownBlock = some k) wk wr) (fun i _ => j - (intOf i).toNat)
          case atStart => exact ⟨0, rfl, Nat.zero_le _, fun _ => rfl, HROW.out, Only.refl _ _⟩
          case round =>
            obtain ⟨k, rfl, hk2, hz, hR, hO⟩ := hrel
            have HR := Lib.hid hR; have HO := Lib.hid hO; have HZ := Lib.hid hz
            clear hR hO hz
            by_cases hgo : k < j ∧ com = true
            · obtain ⟨hlt3, rfl⟩ := hgo
              obtain ⟨⟨tt, v⟩, hx⟩ : ∃ x, g[k]? = some x := ⟨_, List.getElem?_eq_getElem (by rw [HR2.out]; exact hlt3)⟩
              obtain ⟨gb, rfl, c0, c1⟩ := HWC.out k _ hx
              have hne : (Value.slice ha M hc).ownBlock ≠ some gb := by
                intro e
                have h1 := HNEW.out gb e
                have h2 := HWB.out gb rfl
                omega
              have cellK : ∀ i v, w2.cell? ⟨gb, i, none⟩ = some v → wr.cell? ⟨gb, i, none⟩ = some v := fun i v hc => by
                have h1 := bkeep HBK.out hc
                exact HO.out.cell h1 hne
              replace c0 := cellK _ _ c0; replace c1 := cellK _ _ c1
              simp only at c0 c1
              have hlt' : (k : Int) < j := by omega
              have hw1 : IntKind.i64.wrap ((k : Int) + 1) = (k : Int) + 1 := by rw [IntKind.wrap_i64]; omega
              have hm := List.mem_of_getElem? hx
              obtain ⟨h0, h12⟩ := HKO.out.wk _ hm
              have hiM := HIN.out _ hm
              simp only at h0 h12 hiM
              obtain ⟨tn, rfl⟩ := Int.eq_ofNat_of_zero_le h0
              have htM : tn < M := by omega
              have htM' : (tn : Int) < M := by omega
              obtain ⟨H, rfl⟩ : ∃ H, ha = some ⟨H, 0, none⟩ := by
                rcases HR.out.2 with ⟨e, h0⟩ | ⟨g, _, _, e, _⟩
                · omega
                · injection e with e; exact ⟨g, e⟩
              have HT := Lib.hid (show g.take (k + 1) = g.take k ++ [((tn : Int), v)] by rw [List.take_add_one, hx]; rfl)
              have fH : wr.frozen? ⟨H, tn, none⟩ = false := by
                obtain ⟨cs, hcs⟩ := row_obj HR.out (k := H) rfl
                exact blk_free hcs tn
              have hl : ((g.take k).foldl (fun vs p => vs.set p.1.toNat p.2) vs).length = M := by rw [lay_len, HM.out]
              obtain ⟨y, cH⟩ : ∃ y, wr.cell? ⟨H, tn, none⟩ = some y := ⟨_, row_cell1 (v := .nilFunc) HR.out (valVals_get _ tn (by omega))⟩
              clear hx hm cellK hne hl
              go_wp2_with fail
              refine wp_region_F (fun w' => w'.cell? ⟨gb, k * 2, none⟩ = some (.int .i64 tn) ∧ w'.cell? ⟨gb, k * 2 + 1, none⟩ = some (.int .u64 v)) 12 (by kernel_rfl) ?_
              have hS0 : wr.drew.cell? ⟨gb, k * 2, none⟩ = some (.int .i64 tn) ∧ wr.drew.cell? ⟨gb, k * 2 + 1, none⟩ = some (.int .u64 v) := ⟨c0, c1⟩
              refine wpAnyF_take (i := 0) (v := ?_) rfl (by kernel_rfl) (by kernel_rfl) (by kernel_rfl) (by kernel_rfl) (fun _ _ _ h => h) (Or.inl ⟨by rfl, ?_⟩) (by assumption) ?_; rotate_left; (focus (intro w hSw; (skip); (first | (go_simp; done) | (go_simp; with_reducible rfl)))); (try simp only [Act.put, List.setIfInBounds_toArray, List.set_cons_zero, List.set_cons_succ])
              refine wpAnyF_take (i := 1) (v := ?_) rfl (by kernel_rfl) (by kernel_rfl) (by kernel_rfl) (by kernel_rfl) (fun _ _ _ h => h) (Or.inl ⟨by rfl, ?_⟩) (by assumption) ?_; rotate_left; (focus (intro w hSw; (skip); (first | (go_simp; done) | (go_simp; with_reducible rfl)))); (try simp only [Act.put, List.setIfInBounds_toArray, List.set_cons_zero, List.set_cons_succ])
              refine wpAnyF_take (i := 2) (v := ?_) rfl (by kernel_rfl) (by kernel_rfl) (by kernel_rfl) (by kernel_rfl) (fun _ _ _ h => h) (Or.inl ⟨by rfl, ?_⟩) (by assumption) ?_; rotate_left; (focus (intro w hSw; (skip); (first | (go_simp; done) | (go_simp; with_reducible rfl)))); (try simp only [Act.put, List.setIfInBounds_toArray, List.set_cons_zero, List.set_cons_succ])
              refine wpAnyF_take (i := 3) (v := ?_) rfl (by kernel_rfl) (by kernel_rfl) (by kernel_rfl) (by kernel_rfl) (fun _ _ _ h => h) (Or.inl ⟨by rfl, ?_⟩) (by assumption) ?_; rotate_left; (focus (intro w hSw; (skip); (first | (go_simp; done) | (go_simp; with_reducible rfl)))); (try simp only [Act.put, List.setIfInBounds_toArray, List.set_cons_zero, List.set_cons_succ])
              refine wpAnyF_take (i := 4) (v := ?_) rfl (by kernel_rfl) (by kernel_rfl) (by kernel_rfl) (by kernel_rfl) (fun _ _ _ h => h) (Or.inl ⟨by rfl, ?_⟩) (by assumption) ?_; rotate_left; (focus (intro w hSw; (skip); (first | (go_simp; done) | (go_simp; with_reducible rfl)))); (try simp only [Act.put, List.setIfInBounds_toArray, List.set_cons_zero, List.set_cons_succ])
              refine wpAnyF_take (i := 5) (v := ?_) rfl (by kernel_rfl) (by kernel_rfl) (by kernel_rfl) (by kernel_rfl) (fun _ _ _ h => h) (Or.inl ⟨by rfl, ?_⟩) (by assumption) ?_; rotate_left; (focus (intro w hSw; (obtain ⟨q0, q1⟩ := hSw); (first | (go_simp; done) | (go_simp; with_reducible rfl)))); (try simp only [Act.put, List.setIfInBounds_toArray, List.set_cons_zero, List.set_cons_succ])
              refine wpAnyF_take (i := 6) (v := ?_) rfl (by kernel_rfl) (by kernel_rfl) (by kernel_rfl) (by kernel_rfl) (fun _ _ _ h => h) (Or.inl ⟨by rfl, ?_⟩) (by assumption) ?_; rotate_left; (focus (intro w hSw; (skip); (first | (go_simp; done) | (go_simp; with_reducible rfl)))); (try simp only [Act.put, List.setIfInBounds_toArray, List.set_cons_zero, List.set_cons_succ])
              refine wpAnyF_take (i := 7) (v := ?_) rfl (by kernel_rfl) (by kernel_rfl) (by kernel_rfl) (by kernel_rfl) (fun _ _ _ h => h) (Or.inl ⟨by rfl, ?_⟩) (by assumption) ?_; rotate_left; (focus (intro w hSw; (skip); (first | (go_simp; done) | (go_simp; with_reducible rfl)))); (try simp only [Act.put, List.setIfInBounds_toArray, List.set_cons_zero, List.set_cons_succ])
              refine wpAnyF_take (i := 8) (v := ?_) rfl (by kernel_rfl) (by kernel_rfl) (by kernel_rfl) (by kernel_rfl) (fun _ _ _ h => h) (Or.inl ⟨by rfl, ?_⟩) (by assumption) ?_; rotate_left; (focus (intro w hSw; (skip); (first | (go_simp; done) | (go_simp; with_reducible rfl)))); (try simp only [Act.put, List.setIfInBounds_toArray, List.set_cons_zero, List.set_cons_succ])
              refine wpAnyF_take (i := 9) (v := ?_) rfl (by kernel_rfl) (by kernel_rfl) (by kernel_rfl) (by kernel_rfl) (fun _ _ _ h => h) (Or.inl ⟨by rfl, ?_⟩) (by assumption) ?_; rotate_left; (focus (intro w hSw; (skip); (first | (go_simp; done) | (go_simp; with_reducible rfl)))); (try simp only [Act.put, List.setIfInBounds_toArray, List.set_cons_zero, List.set_cons_succ])
              refine wpAnyF_take (i := 10) (v := ?_) rfl (by kernel_rfl) (by kernel_rfl) (by kernel_rfl) (by kernel_rfl) (fun _ _ _ h => h) (Or.inl ⟨by rfl, ?_⟩) (by assumption) ?_; rotate_left; (focus (intro w hSw; (obtain ⟨q0, q1⟩ := hSw); (first | (go_simp; done) | (go_simp; with_reducible rfl)))); (try simp only [Act.put, List.setIfInBounds_toArray, List.set_cons_zero, List.set_cons_succ])
              refine wpAnyF_take (i := 11) (v := ?_) rfl (by kernel_rfl) (by kernel_rfl) (by kernel_rfl) (by kernel_rfl) (fun _ _ _ h => h) (Or.inl ⟨by rfl, ?_⟩) (by assumption) ?_; rotate_left; (focus (intro w hSw; (skip); (first | (go_simp; done) | (go_simp; with_reducible rfl)))); (try simp only [Act.put, List.setIfInBounds_toArray, List.set_cons_zero, List.set_cons_succ])
              refine wpAnyF_ready (rs := [12]) (by kernel_rfl) (by simp) ?_
              refine AllF.cons rfl (fun K hK => ?_) AllF.nil
              go_simp
              refine hK.out _ _ (fun h => absurd rfl h) ?_; clear hK K; (try simp only [Act.put, List.setIfInBounds_toArray, List.set_cons_zero, List.set_cons_succ]); refine wpAnyF_done (by kernel_rfl) ?_ _
              go_wp2_with fail
              have hr2 := row_set HR.out (k := tn) (by omega) (u := .int .u64 v)
              have lD : Below (wr.setCell ⟨H, tn, none⟩ (.int .u64 v)).heap.size (wr.setCell ⟨H, tn, none⟩ (.int .u64 v)) (wr.setCell ⟨H, tn, none⟩ (.int .u64 v)).drew := (Below.refl _ _).drew
              have hr3 : (wr.setCell ⟨H, tn, none⟩ (.int .u64 v)).drew.ownsRow 0 58 1 (.slice (some ⟨H, 0, none⟩) M hc) M (valVals ((g.take (k + 1)).foldl (fun vs p => vs.set p.1.toNat p.2) vs)) := by
                rw [HT.out, List.foldl_append]
                show World.ownsRow _ _ _ _ _ _ (valVals (List.set _ ((tn : Int).toNat) v))
                rw [Int.toNat_natCast, valVals, List.map_set]
                exact ownsRow_only hr2 (Only.empty lD (Nat.le_refl _)) fun _ _ h => h
              exact ⟨⟨k + 1, by go_num, by omega, (fun h => by cases h), hr3, (HO.out.setCell (p := ⟨H, tn, none⟩) (.inr rfl) _).trans (only_below lD _)⟩, by simp [intOf]; omega⟩
            · have HLY := Lib.hid (show ValsAt 0 wr (.slice ha M hc) (layL ⟨num, f, g, own, com⟩ vs) by
                unfold ValsAt
                rw [layL_len, HM.out]
                unfold layL
                cases com with
                | false =>
                  have := HR.out
                  rw [HZ.out rfl] at this
                  exact this
                | true =>
                  have hkj : k = j := by
                    have : ¬ k < j := fun h => hgo ⟨h, rfl⟩
                    omega
                  have := HR.out
                  rw [List.take_of_length_le (by rw [HR2.out]; omega)] at this
                  exact this)
              have HOW := Lib.hid (rowns_any wr p n c l (HE.out wr ((only_below LK.out _).trans HO.out)) HOK.out hn t)
              rw [HOD.out] at HOW
              have HON := Lib.hid ((only_below LK.out (fun k => (Value.slice ha M hc).ownBlock = some k)).trans HO.out)
              clear HR
              by_cases hkj : (k : Int) < j
              · have hcf : com = false := by
                  cases com with
                  | false => rfl
                  | true => exact absurd ⟨by omega, rfl⟩ hgo
                subst hcf
                clear hgo
                go_wp2_with fail
                refine HOW.out.mono ?_
                rintro e w7 ⟨rfl, l7⟩
                have HL7 := Lib.hid (HON.out.trans (only_below l7 _))
                have HV7 := Lib.hid (ownsRow_only HLY.out (Only.empty l7 (Nat.le_refl _)) fun _ _ h => h)
                clear l7
                go_wp2_with fail
                go_ret
                exact .yes HFB.out HV7.out HL7.out
              · clear hgo
                go_wp2_with fail
                refine HOW.out.mono ?_
                rintro e w7 ⟨rfl, l7⟩
                have HL7 := Lib.hid (HON.out.trans (only_below l7 _))
                have HV7 := Lib.hid (ownsRow_only HLY.out (Only.empty l7 (Nat.le_refl _)) fun _ _ h => h)
                clear l7
                go_wp2_with fail
                go_ret
                exact .yes HFB.out HV7.out HL7.out
end Go.Proofs.YtganmdbhmihjpaaGreat.Opa
