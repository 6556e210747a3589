/- Aborted attempts change no heap: the heap is that without their events. -/
import Derived.Test.YtganmdbhmihjpaaOpaZ
namespace Go.Proofs.Ytganmdbhmihjpaa.Opa
open Go.RowKit Go.Proofs.Ytganmdbhmihjpaa.Wri Go.Proofs.Ytganmdbhmihjpaa.His Go.ChangeShapes Go.WideShapes Go.ChangeAt
set_option linter.unusedSimpArgs false
set_option linter.unusedVariables false
set_option maxRecDepth 50000

theorem intsAt_cap {B : Nat} {w : World} {v : Value} {ts : List Int} (h : IntsAt B w v ts) : ∃ a c, v = .slice a ts.length c ∧ ts.length ≤ c ∧ IntsIn w a ts.length ts := by
  obtain ⟨a, c, rfl, hi⟩ := h.open
  refine ⟨a, c, rfl, ?_, hi⟩
  rcases h.2 with ⟨e, h0⟩ | ⟨g, cap, cur, e, _, _, hn, _⟩
  · rw [h0]; exact Nat.zero_le _
  · injection e with _ _ e
    rw [e]; exact hn
theorem first_len (l : List Ev) (f : Int → One) : ∀ (o : List Int) (i : Int) (vs : List Int), (firstL l f o i vs).2.2.length = vs.length := by
  intro o
  induction o with
  | nil => intro i vs; rfl
  | cons x o ih =>
    intro i vs
    rw [firstL]
    split
    · rfl
    · split
      · rw [ih, layL_len]
      · rfl
theorem legal_len (l : List Ev) (vs order C : List Int) : (legalL l vs order C).2.2.length ≤ vs.length := by
  unfold legalL
  split
  · exact Nat.zero_le _
  · rw [first_len]; exact Nat.le_refl _
set_option maxHeartbeats 25600000 in
theorem aborts_law {H : Type} (enc : TypeId × Value → H) (w : World) (a : Option Addr) (len cap : Nat) (h : Fits enc Try.prog w 22 [.slice a len cap]) (a1 : Option Addr) (len1 cap1 : Nat) (h1 : Fits enc Try.prog w 23 [.slice a1 len1 cap1])
    (c : Array Value) (h2 : Fits enc Try.prog w 48 c.toList) :
    Calls Try.prog 6 #[.slice a len cap, .slice a1 len1 cap1, .agg c] w fun e w' => e = .returned (.bool true) ∧ Below w.heap.size w w' := by
  obtain ⟨i0, hi, hz0, hz1, hz2⟩ := info_parts infoE
  obtain ⟨j0, hj, hj0, hj1, hj2⟩ := info_parts infoI
  obtain ⟨l, hl, hok, hfew⟩ := evs_of h
  obtain ⟨vs, hvs, hu, hm1, hhp⟩ := vals_of h1
  obtain ⟨oa, on, oc, ca, cn, cc, O, C, hce, hO, hC, hoc, hcc, hrt⟩ := order_of h2
  obtain rfl : c = #[.slice oa on oc, .slice ca cn cc] := by cases c; simp_all
  have hcap := (fits_cap h Try.underlying22).1
  have hz1' := (fits_cap h1 Try.underlying23).2
  have hm50 : min len 50 ≤ 50 := Nat.min_le_right _ _
  have hmc : min len 50 ≤ cap := Nat.le_trans (Nat.min_le_left _ _) hcap
  have hm13 : min len1 13 ≤ 13 := Nat.min_le_right _ _
  have hv13 := vals_take hvs (Nat.min_le_left len1 13)
  have hu13 : ∀ v ∈ vs.take (min len1 13), U64 v := fun v hv => hu v (List.mem_of_mem_take hv)
  have hz13 : a1 = none → min len1 13 = 0 ∧ cap1 = 0 := fun e => ⟨by rw [(hz1' e).1]; rfl, (hz1' e).2⟩
  have ho12 : min on 12 ≤ 12 := Nat.min_le_right _ _
  have hc6 : min cn 6 ≤ 6 := Nat.min_le_right _ _
  have hoc' : min on 12 ≤ oc := Nat.le_trans (Nat.min_le_left _ _) hoc
  have hcc' : min cn 6 ≤ cc := Nat.le_trans (Nat.min_le_left _ _) hcc
  obtain ⟨us, hus⟩ : ∃ us, vs.take (min len1 13) = us := ⟨_, rfl⟩
  obtain ⟨n, hn⟩ : ∃ n, min len 50 = n := ⟨_, rfl⟩
  obtain ⟨m, hm⟩ : ∃ m, min len1 13 = m := ⟨_, rfl⟩
  obtain ⟨oN, hoN⟩ : ∃ m, min on 12 = m := ⟨_, rfl⟩
  obtain ⟨cN, hcN⟩ : ∃ m, min cn 6 = m := ⟨_, rfl⟩
  rw [hn] at hl hfew hm50 hmc
  rw [hus, hm] at hv13
  rw [hus] at hu13
  rw [hm] at hm13 hz13 hhp
  rw [hoN] at hO ho12 hoc' hrt
  rw [hcN] at hC hc6 hcc' hrt
  have HF := Lib.hid hfew; have HP := Lib.hid hhp; have HRT := Lib.hid hrt
  have HAA := Lib.hid (show ∀ (W : World) (p : Option Addr) (M K : Nat) (L : List Ev), Below w.heap.size w W → EvsIn W p M L → EvsOk L → M ≤ 400 → Asked W p M K L a1 m cap1 us ca cN cc C from fun W p M K L lW h1 h2 h3 =>
    ⟨h1, h2, h3, hv13.below lW, hu13, by omega, hz13, hC.below lW, by omega, hcc'⟩)
  have HE := Lib.hid hl; have HOK := Lib.hid hok; have HO := Lib.hid hO
  have hn6 : n ≤ 1000000 := by omega
  clear h h1 h2 hl hok hfew hvs hu hm1 hhp hC hcap hz1' hm13 hv13 hu13 hz13 hus hn hm hce hO hoc hcc hrt hoN hcN hc6 hcc'
  have lW0 : Below w.heap.size w (w.alloc (.cells #[.slice oa on oc, .slice ca cn cc] 48)) := by repeat (first | (with_reducible exact Below.refl _ _) | (with_reducible apply Below.drew) | (with_reducible refine below_drewN ?_ _) | (with_reducible refine below_alloc' ?_ ?_ _; (focus ((try simp) <;> omega))) | (with_reducible refine below_set' ?_ ?_ _; (focus ((try simp) <;> omega))))
  have hb0 : (w.alloc (.cells #[.slice oa on oc, .slice ca cn cc] 48)).heap[w.heap.size]? = some (.cells #[.slice oa on oc, .slice ca cn cc] 48 (0, 0)) := by simp [↓heap_alloc_eq, ↓heap_set_eq, ↓heap_drew_eq, ↓heap_drewN_eq, setObj, size_drewN]
  have hs0 : w.heap.size < (w.alloc (.cells #[.slice oa on oc, .slice ca cn cc] 48)).heap.size := by simp
  go_enter Try.func6, Try.ntmps6
  go_wp2_with fail
  obtain ⟨W0, hW0⟩ : ∃ W0, w.alloc (.cells #[.slice oa on oc, .slice ca cn cc] 48) = W0 := ⟨_, rfl⟩
  rw [hW0] at lW0 hb0 hs0 ⊢
  clear hW0
  have Q0 : W0.drew.cell? ⟨w.heap.size, 0, none⟩ = some (.slice oa on oc) ∧ W0.drew.cell? ⟨w.heap.size, 1, none⟩ = some (.slice ca cn cc) := by
    have := bblk (Below.refl W0.heap.size W0).drew hb0
    exact ⟨blk_cell this 0, blk_cell this 1⟩
  refine wp_region_F (fun w' => w'.cell? ⟨w.heap.size, 0, none⟩ = some (.slice oa on oc) ∧ w'.cell? ⟨w.heap.size, 1, none⟩ = some (.slice ca cn cc)) 8 (by kernel_rfl) ?_
  refine wpAnyF_take (i := 0) (v := ?_) rfl (by kernel_rfl) (by kernel_rfl) (by kernel_rfl) (by kernel_rfl) (fun _ _ _ h => h) (Or.inl ⟨by rfl, ?_⟩) (by assumption) ?_; rotate_left; (focus (intro w hSw; (skip); (first | (go_simp; done) | (go_simp; with_reducible rfl)))); (try simp only [Act.put, List.setIfInBounds_toArray, List.set_cons_zero, List.set_cons_succ])
  refine wpAnyF_take (i := 2) (v := ?_) rfl (by kernel_rfl) (by kernel_rfl) (by kernel_rfl) (by kernel_rfl) (fun _ _ _ h => h) (Or.inl ⟨by rfl, ?_⟩) (by assumption) ?_; rotate_left; (focus (intro w hSw; (skip); (first | (go_simp; done) | (go_simp; with_reducible rfl)))); (try simp only [Act.put, List.setIfInBounds_toArray, List.set_cons_zero, List.set_cons_succ])
  refine wpAnyF_take (i := 4) (v := ?_) rfl (by kernel_rfl) (by kernel_rfl) (by kernel_rfl) (by kernel_rfl) (fun _ _ _ h => h) (Or.inl ⟨by rfl, ?_⟩) (by assumption) ?_; rotate_left; (focus (intro w hSw; (obtain ⟨q0, q1⟩ := hSw); (first | (go_simp; done) | (go_simp; with_reducible rfl)))); (try simp only [Act.put, List.setIfInBounds_toArray, List.set_cons_zero, List.set_cons_succ])
  refine wpAnyF_ready (rs := [1]) (by kernel_rfl) (by simp) ?_
  refine AllF.cons rfl (fun K hK => ?_) AllF.nil
  go_simp
  refine (HF.out _).mono ?_
  rintro e w1 ⟨rfl, rfl⟩
  dsimp only
  refine hK.out _ _ (fun _ => Q0) ?_; clear hK K; (try simp only [Act.put, List.setIfInBounds_toArray, List.set_cons_zero, List.set_cons_succ])
  refine wpAnyF_ready (rs := [3]) (by kernel_rfl) (by simp) ?_
  refine AllF.cons rfl (fun K hK => ?_) AllF.nil
  go_simp
  refine (HP.out _).mono ?_
  rintro e w1 ⟨rfl, rfl⟩
  dsimp only
  refine hK.out _ _ (fun _ => Q0) ?_; clear hK K; (try simp only [Act.put, List.setIfInBounds_toArray, List.set_cons_zero, List.set_cons_succ])
  refine wpAnyF_ready (rs := [5]) (by kernel_rfl) (by simp) ?_
  refine AllF.cons rfl (fun K hK => ?_) AllF.nil
  go_simp
  refine (HRT.out _).mono ?_
  rintro e w2 ⟨rfl, l2⟩
  have hb2 := bblk l2 (show W0.drew.heap[w.heap.size]? = _ from hb0)
  have LW2 := Lib.hid (show Below w.heap.size w w2 from btrans lW0.drew (Nat.le_refl _) l2)
  have hs2 : w.heap.size < w2.heap.size := blk_lt hb2
  have QX : w2.cell? ⟨w.heap.size, 0, none⟩ = some (.slice oa on oc) ∧ w2.cell? ⟨w.heap.size, 1, none⟩ = some (.slice ca cn cc) := ⟨blk_cell hb2 0, blk_cell hb2 1⟩
  clear l2 lW0 hb0 hs0 Q0
  dsimp only
  refine hK.out _ _ (fun _ => QX) ?_; clear hK K; (try simp only [Act.put, List.setIfInBounds_toArray, List.set_cons_zero, List.set_cons_succ])
  refine wpAnyF_ready (rs := [6]) (by kernel_rfl) (by simp) ?_
  refine AllF.cons rfl (fun K hK => ?_) AllF.nil
  go_simp
  refine hK.out _ _ (fun _ => QX) ?_; clear hK K; (try simp only [Act.put, List.setIfInBounds_toArray, List.set_cons_zero, List.set_cons_succ])
  refine wpAnyF_ready (rs := [7]) (by kernel_rfl) (by simp) ?_
  refine AllF.cons rfl (fun K hK => ?_) AllF.nil
  go_simp
  refine hK.out _ _ (fun _ => QX) ?_; clear hK K; (try simp only [Act.put, List.setIfInBounds_toArray, List.set_cons_zero, List.set_cons_succ])
  refine wpAnyF_ready (rs := [8]) (by kernel_rfl) (by simp) ?_
  refine AllF.cons rfl (fun K hK => ?_) AllF.nil
  have fz0 : w2.frozen? ⟨w.heap.size, 0, none⟩ = false := by simp [World.frozen?, hb2]
  have fz1 : w2.frozen? ⟨w.heap.size, 1, none⟩ = false := by simp [World.frozen?, hb2]
  go_simp
  refine hK.out _ _ (fun h => absurd rfl h) ?_; clear hK K; (try simp only [Act.put, List.setIfInBounds_toArray, List.set_cons_zero, List.set_cons_succ]); refine wpAnyF_done (by kernel_rfl) ?_ _
  have hb3 : ((w2.setCell ⟨w.heap.size, 0, none⟩ (.slice oa oN oc)).setCell ⟨w.heap.size, 1, none⟩ (.slice ca cN cc)).heap[w.heap.size]? = some (.cells #[.slice oa oN oc, .slice ca cN cc] 48 (0, 0)) := by simp [↓heap_alloc_eq, ↓heap_set_eq, ↓heap_drew_eq, ↓heap_drewN_eq, setObj, size_drewN, hb2]
  have lW3 : Below w.heap.size w ((w2.setCell ⟨w.heap.size, 0, none⟩ (.slice oa oN oc)).setCell ⟨w.heap.size, 1, none⟩ (.slice ca cN cc)) := (LW2.out.setCell (Nat.le_refl _) _).setCell (Nat.le_refl _) _
  obtain ⟨W3, hW3⟩ : ∃ W3, (w2.setCell ⟨w.heap.size, 0, none⟩ (.slice oa oN oc)).setCell ⟨w.heap.size, 1, none⟩ (.slice ca cN cc) = W3 := ⟨_, rfl⟩
  rw [hW3] at hb3 lW3 ⊢
  have LW3 := Lib.hid lW3; have HB3 := Lib.hid hb3
  have x0 := blk_cell hb3 0; have x1 := blk_cell hb3 1
  simp only [List.getElem?_toArray, List.getElem?_cons_zero, List.getElem?_cons_succ] at x0 x1
  have HE3 := Lib.hid (HE.out.below lW3)
  have HO3 := Lib.hid (HO.out.below lW3)
  obtain ⟨R, hR⟩ : ∃ R, legalL l us O C = R := ⟨_, rfl⟩
  have HH := Lib.hid (heap_any (HAA.out W3 a n cap l lW3 HE3.out HOK.out (by omega)) oa oN oc O HO3.out (by omega) hoc')
  rw [hR] at HH
  have HR := Lib.hid hR
  clear hW3 hb2 hs2 QX LW2 fz0 fz1 hb3 lW3 hR HE HO HF HP HRT
  obtain ⟨R1, R2, R3⟩ := R
  go_wp2_with fail
  refine HH.out.mono ?_
  rintro e w4 ⟨l4, ⟨hne, rfl⟩ | ⟨hz, v, rfl, hva, hlo⟩⟩
  · have L4 := Lib.hid (btrans LW3.out (Nat.le_refl _) l4)
    have hq : (R2 != 0) = true := by simpa using hne
    clear l4 hne HH
    go_wp2_with fail
    refine (live_any _).mono ?_
    rintro e w5 ⟨rfl, l5⟩
    have L5 := Lib.hid (btrans L4.out (Nat.le_refl _) l5)
    clear l5
    go_wp2_with fail
    go_ret
    exact ⟨rfl, L5.out⟩
  · simp only at hz hva
    subst hz
    obtain ⟨va, vc, rfl, hvi⟩ := hva.open
    have HVI := Lib.hid hvi
    have L4 := Lib.hid (btrans LW3.out (Nat.le_refl _) l4)
    have HB4 := Lib.hid (bblk l4 HB3.out)
    have HE4 := Lib.hid (HE3.out.below l4)
    have HO4 := Lib.hid (HO3.out.below l4)
    have hNl : R3.length ≤ 1000 := by
      have h1 := legal_len l us O C
      rw [HR.out] at h1
      have h2 := hva.1
      have h3 := (HAA.out W3 a n cap l LW3.out HE3.out HOK.out (by omega)).hm
      have h4 := (HAA.out W3 a n cap l LW3.out HE3.out HOK.out (by omega)).vals.1
      simp only at h1
      omega
    have HNL := Lib.hid hNl
    have hKP := legal_kept (l := l) (vs := us) (O := O) (C := C) (by rw [HR.out])
    rw [HR.out] at hKP
    have HKP := Lib.hid hKP
    clear hva hlo hvi l4 HH HE3 HO3 HB3 hNl hKP x0 x1
    go_wp2_with fail
    go_loopw [9, 11] (fun v i wr => ∃ k : Nat, i = .int .i64 k ∧ k ≤ n ∧ EvsAt w4.heap.size wr v (kp (liveB l) (l.take k)) ∧ Below w4.heap.size w4 wr) (fun _ i _ => n - (intOf i).toNat)
    case atStart => exact ⟨0, rfl, Nat.zero_le _, World.ownsRow_nil _ _ _ _, Below.refl _ _⟩
    case round =>
      obtain ⟨k, rfl, hk, hV, hB⟩ := hrel
      have HV := Lib.hid hV; have HB := Lib.hid hB
      clear hV hB
      by_cases hlt : k < n
      · obtain ⟨g, off, rfl, hc⟩ := HE4.out.2.resolve_left (by omega)
        obtain ⟨x, hx, c0, c1, c2, c3⟩ := hc k hlt
        replace c1 := bkeep HB.out c1
        have HC := Lib.hid (And.intro (bkeep HB.out c0) (And.intro (bkeep HB.out c2) (bkeep HB.out c3)))
        have HS := Lib.hid (show kp (liveB l) (l.take (k + 1)) = kp (liveB l) (l.take k) ++ (if liveB l x.a then [x] else []) by rw [take_at hx, kp_snoc])
        have hml : (kp (liveB l) (l.take k)).length ≤ k := by
          have h1 := List.length_filter_le (fun x => liveB l x.a) (l.take k)
          have h2 : (l.take k).length ≤ k := by rw [List.length_take]; omega
          unfold kp
          omega
        obtain ⟨xk, xa, xt, xv⟩ := x
        simp only at c1 HC HS
        have HST := Lib.hid (state_any wr _ n cap l (HE4.out.below HB.out) hn6 xa)
        obtain ⟨st, hst⟩ : ∃ st, stateL l xa = st := ⟨_, rfl⟩
        rw [hst] at HST
        have hlt' : (k : Int) < n := by omega
        have hw1 : IntKind.i64.wrap ((k : Int) + 1) = (k : Int) + 1 := by rw [IntKind.wrap_i64]; omega
        clear hc hx c0 c2 c3
        go_wp2_with fail
        refine HST.out.mono ?_
        rintro e w5 ⟨rfl, l5⟩
        have HB5 := Lib.hid (btrans HB.out (Nat.le_refl _) l5)
        have HV5 := Lib.hid (ownsRow_only HV.out (Only.empty l5 (Nat.le_refl _)) (fun _ _ h => h))
        replace c1 := bkeep l5 c1
        have c0 := bkeep l5 HC.out.1; have c2 := bkeep l5 HC.out.2.1; have c3 := bkeep l5 HC.out.2.2
        have hsz5 := HB5.out.size
        clear l5 HST HV HB HC
        cases hq : (st != 4) with
        | false =>
          have HS2 := Lib.hid (show kp (liveB l) (l.take (k + 1)) = kp (liveB l) (l.take k) by
            rw [HS.out, if_neg (by unfold liveB; rw [hst]; simp only [bne, Bool.not_eq_false'] at hq; rw [hq]; decide), List.append_nil])
          clear hst
          go_wp2_with fail
          exact ⟨⟨k + 1, by go_num, by omega, by rw [HS2.out]; exact HV5.out, HB5.out⟩, by simp [intOf]; omega⟩
        | true =>
          have HS2 := Lib.hid (show kp (liveB l) (l.take (k + 1)) = kp (liveB l) (l.take k) ++ [⟨xk, xa, xt, xv⟩] by
            rw [HS.out, if_pos (by unfold liveB; rw [hst]; exact hq)])
          clear hst
          go_wp2_with (at_builtin; refine wpList_append_own _ rfl _ _ 22 rfl w4.heap.size 40 i0 (.agg #[.int .u8 0, .int .i64 0, .int .i64 0, .int .u64 0]) 4 32 Try.underlying22 hi hz0 hz1 hz2 rfl (by decide) _ _ (evVals (kp (liveB l) (l.take k))) rfl (ownsRow_only HV5.out (Only.empty (show Below w5.heap.size w5 (w5.alloc (.cells #[.int .u8 xk, .int .i64 xa, .int .i64 xt, .int .u64 xv] 40)) from by repeat (first | (with_reducible exact Below.refl _ _) | (with_reducible apply Below.drew) | (with_reducible refine below_drewN ?_ _) | (with_reducible refine below_alloc' ?_ ?_ _; (focus ((try simp) <;> omega))) | (with_reducible refine below_set' ?_ ?_ _; (focus ((try simp) <;> omega))))) (Nat.le_refl _)) (fun _ _ h => h)) ⟨w5.heap.size, 0, none⟩ 1 1 [.int .u8 xk, .int .i64 xa, .int .i64 xt, .int .u64 xv] rfl rfl ?_ ?_ ?_ ?_ ?_ ?_)
          rotate_right
          · intro v' w6 hown hgr _
            have hB6 : Below w4.heap.size w4 w6 := (HB5.out.alloc hsz5 _).grown hgr (by simp; omega) (fun k hk => (World.ownsRow.lt HV5.out k hk).1)
            have HB6 := Lib.hid hB6
            have HP6 := Lib.hid (show EvsAt w4.heap.size w6 v' (kp (liveB l) (l.take (k + 1))) from by rw [HS2.out]; unfold EvsAt; rw [evVals_snoc, List.length_append]; exact hown)
            clear hown hgr hB6
            go_wp2_with fail
            exact ⟨⟨k + 1, by go_num, by omega, HP6.out, HB6.out⟩, by simp [intOf]; omega⟩
          all_goals (first | (intro j u hu; rw [Addr.add_lit]; have hnw := blk_cell (blk_new w5 (.cells #[.int .u8 xk, .int .i64 xa, .int .i64 xt, .int .u64 xv] 40)) j; rw [Nat.zero_add, hnw]; simpa using hu) | (simp [Value.oneCell']; done) | (unfold maxLen; omega) | omega | (simp; omega))
      · obtain rfl : n = k := by omega
        obtain ⟨wk, rfl⟩ : ∃ wk, wk = wr := ⟨wr, rfl⟩
        have hv := HV.out
        rw [List.take_of_length_le (by rw [HE4.out.1]; exact Nat.le_refl _)] at hv
        obtain ⟨ka, kc, rfl, hki⟩ := hv.open
        have HKI := Lib.hid hki
        have LK := Lib.hid (btrans L4.out (Nat.le_refl _) HB.out)
        have HBK := Lib.hid (bblk HB.out HB4.out)
        have HEK := Lib.hid (HE4.out.below HB.out)
        have HOK2 := Lib.hid (HO4.out.below HB.out)
        have HVK := Lib.hid (HVI.out.below HB.out)
        clear hv hki HV
        go_wp2_with fail
        go_loopw [10, 12] (fun v i wr => ∃ k : Nat, i = .int .i64 k ∧ k ≤ oN ∧ IntsAt wk.heap.size wr v ((O.take k).filter (liveB l)) ∧ Below wk.heap.size wk wr) (fun _ i _ => oN - (intOf i).toNat)
        case atStart => exact ⟨0, rfl, Nat.zero_le _, World.ownsRow_nil _ _ _ _, Below.refl _ _⟩
        case round =>
          obtain ⟨k, rfl, hk, hV, hB2⟩ := hrel
          have HV := Lib.hid hV; have HB2 := Lib.hid hB2
          have hbx := bblk hB2 HBK.out
          have x0 := blk_cell hbx 0; have x1 := blk_cell hbx 1
          simp only [List.getElem?_toArray, List.getElem?_cons_zero, List.getElem?_cons_succ] at x0 x1
          clear hV hB2 hbx
          by_cases hlt : k < oN
          · obtain ⟨g, off, rfl, hc⟩ := HOK2.out.2.resolve_left (by omega)
            have c0 := bkeep HB2.out (hc k hlt)
            have hT := take_snoc O k (by rw [HOK2.out.1]; exact hlt)
            obtain ⟨t, ht⟩ : ∃ t, O.getD k 0 = t := ⟨_, rfl⟩
            rw [ht] at c0 hT
            have HS := Lib.hid (show (O.take (k + 1)).filter (liveB l) = (O.take k).filter (liveB l) ++ (if liveB l t then [t] else []) by
              rw [hT, List.filter_append]
              cases h : liveB l t <;> simp [h])
            have hml : ((O.take k).filter (liveB l)).length ≤ k := by
              have h1 := List.length_filter_le (liveB l) (O.take k)
              have h2 : (O.take k).length ≤ k := by rw [List.length_take]; omega
              omega
            have HST := Lib.hid (state_any wr _ n cap l (HEK.out.below HB2.out) hn6 t)
            obtain ⟨st, hst⟩ : ∃ st, stateL l t = st := ⟨_, rfl⟩
            rw [hst] at HST
            have hlt' : (k : Int) < oN := by omega
            have hw1 : IntKind.i64.wrap ((k : Int) + 1) = (k : Int) + 1 := by rw [IntKind.wrap_i64]; omega
            clear hc hT ht
            go_wp2_with fail
            refine HST.out.mono ?_
            rintro e w5 ⟨rfl, l5⟩
            have HB5 := Lib.hid (btrans HB2.out (Nat.le_refl _) l5)
            have HV5 := Lib.hid (ownsRow_only HV.out (Only.empty l5 (Nat.le_refl _)) (fun _ _ h => h))
            replace c0 := bkeep l5 c0
            replace x0 := bkeep l5 x0; replace x1 := bkeep l5 x1
            have hsz5 := HB5.out.size
            clear l5 HST HV HB2
            cases hq : (st != 4) with
            | false =>
              have HS2 := Lib.hid (show (O.take (k + 1)).filter (liveB l) = (O.take k).filter (liveB l) by
                rw [HS.out, if_neg (by unfold liveB; rw [hst]; simp only [bne, Bool.not_eq_false'] at hq; rw [hq]; decide), List.append_nil])
              clear hst
              go_wp2_with fail
              exact ⟨⟨k + 1, by go_num, by omega, by rw [HS2.out]; exact HV5.out, HB5.out⟩, by simp [intOf]; omega⟩
            | true =>
              have HS2 := Lib.hid (show (O.take (k + 1)).filter (liveB l) = (O.take k).filter (liveB l) ++ [t] by
                rw [HS.out, if_pos (by unfold liveB; rw [hst]; exact hq)])
              clear hst
              go_wp2_with (at_builtin; refine wpList_append_own _ rfl _ _ 24 rfl wk.heap.size 3 j0 (.int .i64 0) 1 8 Try.underlying24 hj hj0 hj1 hj2 rfl (by decide) _ _ (((O.take k).filter (liveB l)).map fun t => Value.int .i64 t) rfl (ownsRow_only HV5.out (Only.empty (show Below w5.heap.size w5 (w5.alloc (.cells #[.int .i64 t] 3)) from by repeat (first | (with_reducible exact Below.refl _ _) | (with_reducible apply Below.drew) | (with_reducible refine below_drewN ?_ _) | (with_reducible refine below_alloc' ?_ ?_ _; (focus ((try simp) <;> omega))) | (with_reducible refine below_set' ?_ ?_ _; (focus ((try simp) <;> omega))))) (Nat.le_refl _)) (fun _ _ h => h)) ⟨w5.heap.size, 0, none⟩ 1 1 [.int .i64 t] rfl rfl ?_ ?_ ?_ ?_ ?_ ?_)
              rotate_right
              · intro v' w6 hown hgr _
                have hB6 : Below wk.heap.size wk w6 := (HB5.out.alloc hsz5 _).grown hgr (by simp; omega) (fun k hk => (World.ownsRow.lt HV5.out k hk).1)
                have HB6 := Lib.hid hB6
                have HP6 := Lib.hid (show IntsAt wk.heap.size w6 v' ((O.take (k + 1)).filter (liveB l)) from by rw [HS2.out]; unfold IntsAt; rw [List.map_append, List.length_append]; exact hown)
                clear hown hgr hB6
                go_wp2_with fail
                exact ⟨⟨k + 1, by go_num, by omega, HP6.out, HB6.out⟩, by simp [intOf]; omega⟩
              all_goals (first | (intro j u hu; rw [Addr.add_lit, Nat.zero_add, blk_cell (blk_new w5 _) j]; simpa using hu) | (intro u hu; simp at hu; subst hu; rfl) | (unfold maxLen; omega) | omega | (simp; omega))
          · obtain rfl : oN = k := by omega
            have hv := HV.out
            rw [List.take_of_length_le (by rw [HOK2.out.1]; exact Nat.le_refl _)] at hv
            have hvl : (O.filter (liveB l)).length ≤ oN := by
              have := List.length_filter_le (liveB l) O
              rw [HOK2.out.1] at this
              exact this
            obtain ⟨ob, oc2, rfl, hoc2, hoi⟩ := intsAt_cap hv
            have L5 := Lib.hid (btrans LK.out (Nat.le_refl _) HB2.out)
            have HVW := Lib.hid (HVK.out.below HB2.out)
            have hkl : (kp (liveB l) l).length ≤ n := by
              have := List.length_filter_le (fun x => liveB l x.a) l
              rw [HE4.out.1] at this
              exact this
            have HH := Lib.hid (heap_any (HAA.out wr ka _ kc (kp (liveB l) l) L5.out (HKI.out.below HB2.out) (fun x hx => HOK.out x (List.mem_filter.1 hx).1) (by omega)) ob _ oc2 (O.filter (liveB l)) hoi (by omega) hoc2)
            rw [HKP.out] at HH
            clear hv hoi hoc2 HV hvl hkl
            go_wp2_with fail
            refine HH.out.mono ?_
            rintro e w7 ⟨l7, ⟨hne, _⟩ | ⟨_, v7, rfl, hv7, _⟩⟩
            · exact absurd rfl hne
            · obtain ⟨vb, vc2, rfl, hvi7⟩ := hv7.open
              have HV7 := Lib.hid hvi7
              have HVX := Lib.hid (HVW.out.below l7)
              have L7 := Lib.hid (btrans L5.out (Nat.le_refl _) l7)
              clear l7 hv7 hvi7 HH
              go_wp2_with fail
              refine (live_any _).mono ?_
              rintro e w8 ⟨rfl, l8⟩
              have HV8 := Lib.hid (HV7.out.below l8)
              have HVY := Lib.hid (HVX.out.below l8)
              have L8 := Lib.hid (btrans L7.out (Nat.le_refl _) l8)
              clear l8
              go_wp2_with fail
              refine (sameVals_any w8 va vb _ vc vc2 R3 HVY.out HV8.out (by have := HNL.out; omega)).mono ?_
              rintro e w9 ⟨rfl, l9⟩
              have L9 := Lib.hid (btrans L8.out (Nat.le_refl _) l9)
              clear l9
              go_wp2_with fail
              go_ret
              exact ⟨rfl, L9.out⟩
end Go.Proofs.Ytganmdbhmihjpaa.Opa
