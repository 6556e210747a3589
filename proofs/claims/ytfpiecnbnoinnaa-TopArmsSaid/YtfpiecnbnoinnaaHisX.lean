/- In, on both sides. -/
import Derived.Test.YtfpiecnbnoinnaaHisW
import Derived.Test.YtfpiecnbnoinnaaHisF
import Derived.Test.YtfpiecnbnoinnaaHisE
namespace Go.Proofs.Ytfpiecnbnoinnaa.His
open Go.RowKit
set_option linter.unusedSimpArgs false
set_option linter.unusedVariables false
set_option maxRecDepth 50000

abbrev pt (b : Nat) : Value := .pointer (some ⟨b, 0, none⟩)
theorem c_lt {w : World} {a : Addr} {v : Value} (h : w.cell? a = some v) : a.block < w.heap.size := by
  unfold World.cell? at h
  cases hb : w.heap[a.block]? with
  | none => rw [hb] at h; cases h
  | some o => exact (Array.getElem?_eq_some_iff.1 hb).1
def inL (l : List Ev) (s : Int) : List Int := (attL l).filter fun n => stateL l n == s
theorem inL_len (l : List Ev) (s : Int) : (inL l s).length ≤ l.length := by
  have h1 := List.length_filter_le (fun n => stateL l n == s) (attL l)
  have h2 := attL_len l []
  simp at h2
  unfold inL
  unfold attL at h1 ⊢
  omega
theorem keepT_in (l : List Ev) (s : Int) : keepT (attL l) (fun n => !(stateL l n == s)) = inL l s := by
  unfold keepT inL
  congr 1
  funext n
  simp
set_option maxHeartbeats 1600000 in
theorem in1_any (W : World) (b1 b2 : Nat) (p : Option Addr) (n c : Nat) (l : List Ev) (h : EvsIn W p n l) (hn : n ≤ 1000000) (s t : Int) (h1 : W.cell? ⟨b1, 0, none⟩ = some (.slice p n c)) (h2 : W.cell? ⟨b2, 0, none⟩ = some (.int .u8 s)) :
    Calls Try.prog 43 #[.int .i64 t, pt b1, pt b2] W fun e W' => e = .returned (.bool (!(stateL l t == s))) ∧ Below W.heap.size W W' := by
  have H := Lib.hid (h.below (Below.refl W.heap.size W).drew)
  have KO := Lib.hid (show ∀ w', Below W.drew.heap.size W.drew w' → (w'.cell? ⟨b1, 0, none⟩ = some (.slice p n c) ∧ w'.cell? ⟨b2, 0, none⟩ = some (.int .u8 s)) from fun w' k => ⟨bkeep k h1, bkeep k h2⟩)
  have Q0 := KO.out W.drew (Below.refl _ _)
  have HH := Lib.hid (And.intro h1 h2)
  clear h h1 h2
  obtain ⟨r, hr⟩ : ∃ r, stateL l t = r := ⟨_, rfl⟩
  have HS := Lib.hid (state_any W.drew p n c l H.out hn t)
  rw [hr] at HS ⊢
  clear hr
  go_enter Try.func43, Try.ntmps43
  go_wp2_with fail
  go_region_held3 (fun w' => w'.cell? ⟨b1, 0, none⟩ = some (.slice p n c) ∧ w'.cell? ⟨b2, 0, none⟩ = some (.int .u8 s)) (first | (with_reducible exact Q0) | (with_reducible exact Q1)) ((go_at_call 13; (with_reducible refine Calls.mono HS.out ?_); rintro e w1 ⟨rfl, l1⟩; have Q1 := KO.out w1 l1))
  have L1 := Lib.hid (show Below W.heap.size W w1 from btrans ((Below.refl W.heap.size W).drew) (Nat.le_refl _) l1)
  clear l1 Q0 Q1
  go_wp2_with fail
  go_ret
  exact ⟨rfl, L1.out⟩
set_option maxHeartbeats 1600000 in
theorem in_any (w : World) (p : Option Addr) (n c : Nat) (l : List Ev) (h : EvsIn w p n l) (hn : n ≤ 1000000) (s : Int) :
    Calls Try.prog 22 #[.slice p n c, .int .u8 s] w fun e w' => ∃ v, e = .returned v ∧ IntsAt w.heap.size w' v (inL l s) ∧ Below w.heap.size w w' := by
  have l2 : Below w.heap.size w ((w.alloc (.cells #[.slice p n c] 22)).alloc (.cells #[.int .u8 s] 27)) := by repeat (first | (with_reducible exact Below.refl _ _) | (with_reducible apply Below.drew) | (with_reducible refine below_drewN ?_ _) | (with_reducible refine below_alloc' ?_ ?_ _; (focus ((try simp) <;> omega))) | (with_reducible refine below_set' ?_ ?_ _; (focus ((try simp) <;> omega))))
  obtain ⟨W, hW⟩ : ∃ W, (w.alloc (.cells #[.slice p n c] 22)).alloc (.cells #[.int .u8 s] 27) = W := ⟨_, rfl⟩
  have q0 : W.cell? ⟨w.heap.size, 0, none⟩ = some (.slice p n c) := by rw [← hW]; simp
  have q1 : W.cell? ⟨w.heap.size + 1, 0, none⟩ = some (.int .u8 s) := by rw [← hW]; simp
  have hs2 : W.heap.size = w.heap.size + 2 := by rw [← hW]; simp
  rw [hW] at l2
  have HA := Lib.hid (attempts_any W p n c l (h.below l2) hn)
  have HE := Lib.hid (h.below l2)
  have L2 := Lib.hid l2; have HWD := Lib.hid hW; have HQ := Lib.hid (And.intro q0 q1)
  have hmf : ∀ (fn : Fn) (first cap : Array Value) (w : World), (Instr.makeFunc fn first cap).run Try.prog w = .ok (.func fn first cap) w := fun _ _ _ _ => rfl
  have hal : (attL l).length ≤ 1000000 := by
    have h2 := attL_len l []
    simp at h2
    have := h.1
    unfold attL
    omega
  clear h l2 hW
  go_enter Try.func22, Try.ntmps22
  go_wp2_with fail
  rw [HWD.out]
  refine HA.out.mono ?_
  rintro e w1 ⟨v, rfl, hv, l1⟩
  have HSY := Lib.hid (fun g (hg : w.heap.size + 2 ≤ g) => show Says w1 g 43 #[pt w.heap.size, pt (w.heap.size + 1)] (fun t => !(stateL l t == s)) from ⟨fun args W => by kernel_rfl, fun t W' o => by
    have he := HE.out.below l1
    have he2 : EvsIn W' p n l := by
      have hlt : ∀ b off, p = some ⟨b, off, none⟩ → n ≠ 0 → b ≠ g := fun b off e h0 hb => by
        rcases HE.out.2 with h1 | ⟨b', off', e', hc⟩
        · exact h0 h1
        · rw [e] at e'
          injection e' with e'
          injection e' with e1 e2 _
          subst e1 e2 hb
          obtain ⟨x, _, hx, _⟩ := hc 0 (by omega)
          have hb9 := c_lt hx
          simp only at hb9
          omega
      refine ⟨he.1, he.2.imp id fun ⟨b, off, e, hc⟩ => ⟨b, off, e, fun i hi => ?_⟩⟩
      obtain ⟨x, h0, h1, h2, h3, h4⟩ := hc i hi
      have hbg := hlt b off e (by omega)
      exact ⟨x, h0, o.cell h1 hbg, o.cell h2 hbg, o.cell h3 hbg, o.cell h4 hbg⟩
    exact in1_any W' w.heap.size (w.heap.size + 1) p n c l he2 hn s t (o.cell (bkeep l1 HQ.out.1) (by show ¬ w.heap.size = g; omega)) (o.cell (bkeep l1 HQ.out.2) (by show ¬ w.heap.size + 1 = g; omega))⟩)
  have L1 := Lib.hid (btrans L2.out (Nat.le_refl _) l1)
  have hbase : ∀ k, v.ownBlock = some k → w.heap.size + 2 ≤ k := fun k hk => by
    have h1 := (World.ownsRow.lt hv k hk).1
    omega
  have hlen : IntsAt w.heap.size w1 v (attL l) := ownsRow_base hv (fun k hk => by have := hbase k hk; omega)
  rcases hv.2 with ⟨rfl, h0⟩ | ⟨g, cap, cur, rfl, _⟩
  · have HD := Lib.hid (delF_nil w1 (w.heap.size + 2) _ _ _ (HSY.out _ (Nat.le_refl _)))
    have ha0 : attL l = [] := List.length_eq_zero_iff.1 h0
    have HI := Lib.hid (show inL l s = [] by unfold inL; rw [ha0]; rfl)
    clear hv l1 hbase hlen h0 ha0 HSY q0 q1
    go_wp2_with fail
    refine HD.out.mono ?_
    rintro e w2 ⟨rfl, l2⟩
    have L2' := Lib.hid (btrans L1.out (Nat.le_refl _) l2)
    clear l2
    go_wp2_with fail
    go_ret
    exact ⟨_, rfl, by rw [HI.out]; exact World.ownsRow_nil _ _ _ _, L2'.out⟩
  · have hg := hbase g rfl
    have hD := delF_any w1 g _ cap (attL l) (ownsRow_base hv (fun _ _ => Nat.zero_le _)) hal _ _ _ (HSY.out g hg)
    have HD := Lib.hid hD
    clear hv l1 hbase hlen HSY hD q0 q1
    go_wp2_with fail
    refine HD.out.mono ?_
    rintro e w2 ⟨rfl, h2, o2⟩
    rw [keepT_in] at h2 ⊢
    have HR := Lib.hid (show IntsAt w.heap.size w2 _ (inL l s) from ownsRow_base h2 (fun k hk => Nat.le_trans (show w.heap.size ≤ g by omega) (Nat.le_of_eq (by simpa [Value.ownBlock] using hk))))
    have LF := Lib.hid (L1.out.trans (o2.lo (fun k e => by omega) L1.out.size))
    clear h2 o2
    go_wp2_with fail
    go_ret
    exact ⟨_, rfl, HR.out, LF.out⟩
set_option maxHeartbeats 1600000 in
theorem rin_any (w : World) (p : Option Addr) (n c : Nat) (l : List Ev) (h : EvsIn w p n l) (hn : n ≤ 1000000) (s : Int) :
    Calls Try.prog 26 #[.slice p n c, .int .u8 s] w fun e w' => ∃ v, e = .returned v ∧ IntsAt w.heap.size w' v (inL l s) ∧ Below w.heap.size w w' := by
  obtain ⟨i0, hi, hz0, hz1, hz2⟩ := info_parts infoI
  have H := Lib.hid h
  have HRA := Lib.hid (rattempts_any w p n c l h hn)
  have hal : (attL l).length ≤ 1000000 := by
    have h2 := attL_len l []
    simp at h2
    have := h.1
    unfold attL
    omega
  clear h
  go_enter Try.func26, Try.ntmps26
  go_wp2_with fail
  refine HRA.out.mono ?_
  rintro e w1 ⟨v, rfl, hv, l1⟩
  obtain ⟨va, vc, rfl, hin⟩ := IntsAt.open hv
  have HIN := Lib.hid hin; have L1 := Lib.hid l1
  obtain ⟨m, hm⟩ : ∃ m, (attL l).length = m := ⟨_, rfl⟩
  have HM := Lib.hid hm
  rw [hm] at HIN hal ⊢
  clear hv l1 hin hm
  go_wp2_with fail
  go_loopw [5, 7] (fun v i wr => ∃ k : Nat, i = .int .i64 k ∧ k ≤ m ∧ IntsAt w1.heap.size wr v (((attL l).take k).filter fun n => stateL l n == s) ∧ Below w1.heap.size w1 wr) (fun _ i _ => m - (intOf i).toNat)
  case atStart => exact ⟨0, rfl, Nat.zero_le _, World.ownsRow_nil _ _ _ _, Below.refl _ _⟩
  case round =>
    obtain ⟨k, rfl, hk, hV, hB⟩ := hrel
    have HV := Lib.hid hV; have HB := Lib.hid hB
    have hsz := hB.size
    have hsz1 := L1.out.size
    clear hV hB
    by_cases hlt : k < m
    · obtain ⟨g, off, rfl, hc⟩ := HIN.out.2.resolve_left (by omega)
      have c0 := bkeep HB.out (hc k hlt)
      have hT := take_snoc (attL l) k (by rw [HM.out]; exact hlt)
      have hst := rstate_any wr p n c l (H.out.below (btrans L1.out (Nat.le_refl _) HB.out)) hn ((attL l).getD k 0)
      have hml : (((attL l).take k).filter fun n => stateL l n == s).length ≤ k := by
        have h1 := List.length_filter_le (fun n => stateL l n == s) ((attL l).take k)
        have h2 : ((attL l).take k).length ≤ k := by rw [List.length_take]; omega
        omega
      have hw1 : IntKind.i64.wrap ((k : Int) + 1) = (k : Int) + 1 := by rw [IntKind.wrap_i64]; omega
      obtain ⟨t, ht⟩ : ∃ t, (attL l).getD k 0 = t := ⟨_, rfl⟩
      rw [ht] at c0 hT hst
      cases hs : (stateL l t == s) with
      | false =>
        have HS := Lib.hid (show ((attL l).take (k + 1)).filter (fun n => stateL l n == s) = ((attL l).take k).filter (fun n => stateL l n == s) by rw [hT, List.filter_append, List.filter_cons_of_neg (p := fun n => stateL l n == s) (by rw [hs]; decide)]; simp)
        obtain ⟨r, hr⟩ : ∃ r, stateL l t = r := ⟨_, rfl⟩
        rw [hr] at hst hs
        have HST := Lib.hid hst
        clear hst hT ht hc hr
        go_wp2_with fail
        refine HST.out.mono ?_
        rintro e w2 ⟨rfl, rfl⟩
        go_wp2_with fail
        exact ⟨⟨k + 1, by go_num, by omega, by rw [HS.out]; exact HV.out, HB.out⟩, by simp [intOf]; omega⟩
      | true =>
        have HS := Lib.hid (show ((attL l).take (k + 1)).filter (fun n => stateL l n == s) = ((attL l).take k).filter (fun n => stateL l n == s) ++ [t] by rw [hT, List.filter_append, List.filter_cons_of_pos (p := fun n => stateL l n == s) hs]; rfl)
        obtain ⟨r, hr⟩ : ∃ r, stateL l t = r := ⟨_, rfl⟩
        rw [hr] at hst hs
        have HST := Lib.hid hst
        clear hst hT ht hc hr
        go_wp2_with fail
        refine HST.out.mono ?_
        rintro e w2 ⟨rfl, rfl⟩
        go_wp2_with (at_builtin; refine wpList_append_own _ rfl _ _ 39 rfl w1.heap.size 3 i0 (.int .i64 0) 1 8 Try.underlying39 hi hz0 hz1 hz2 rfl (by decide) _ _ ((((attL l).take k).filter fun n => stateL l n == s).map fun t => .int .i64 t) rfl (ownsRow_only HV.out (Only.empty (show Below wr.heap.size wr (wr.alloc (.cells #[.int .i64 t] 3)) from by repeat (first | (with_reducible exact Below.refl _ _) | (with_reducible apply Below.drew) | (with_reducible refine below_drewN ?_ _) | (with_reducible refine below_alloc' ?_ ?_ _; (focus ((try simp) <;> omega))) | (with_reducible refine below_set' ?_ ?_ _; (focus ((try simp) <;> omega))))) (Nat.le_refl _)) (fun _ _ h => h)) ⟨wr.heap.size, 0, none⟩ 1 1 [.int .i64 t] rfl rfl ?_ ?_ ?_ ?_ ?_ ?_)
        rotate_right
        · intro v' w2 hown hgr _
          have HB2 := Lib.hid (show Below w1.heap.size w1 w2 from (HB.out.alloc hsz _).grown hgr (by simp; omega) (fun k hk => (World.ownsRow.lt HV.out k hk).1))
          have HP2 := Lib.hid (show IntsAt w1.heap.size w2 v' (((attL l).take (k + 1)).filter fun n => stateL l n == s) from by rw [HS.out]; unfold IntsAt; rw [List.map_append, List.length_append]; exact hown)
          clear hown hgr
          go_wp2_with fail
          exact ⟨⟨k + 1, by go_num, by omega, HP2.out, HB2.out⟩, by simp [intOf]; omega⟩
        all_goals (first | (intro j u hu; rw [Addr.add_lit]; have hnw := blk_cell (blk_new wr (.cells #[.int .i64 t] 3)) j; rw [Nat.zero_add, hnw]; simpa using hu) | (simp [Value.oneCell']; done) | (unfold maxLen; omega) | omega | (simp; omega))
    · obtain rfl : k = m := by omega
      have hv := HV.out
      rw [List.take_of_length_le (by rw [HM.out]; exact Nat.le_refl _)] at hv
      have HV2 := Lib.hid (show IntsAt w.heap.size wr _ (inL l s) from ownsRow_base hv (fun k hk => Nat.le_trans hsz1 (World.ownsRow.lt hv k hk).1))
      have LF := Lib.hid (btrans L1.out (Nat.le_refl _) HB.out)
      clear hv
      go_wp2_with fail
      go_ret
      exact ⟨_, rfl, HV2.out, LF.out⟩
end Go.Proofs.Ytfpiecnbnoinnaa.His
