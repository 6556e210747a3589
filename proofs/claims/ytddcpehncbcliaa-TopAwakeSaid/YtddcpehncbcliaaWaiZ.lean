/- The statements: plays, sleeps, forks. -/
import Derived.Test.YtddcpehncbcliaaWaiY
namespace Go.Proofs.Ytddcpehncbcliaa.Wai
open Go.RowKit
set_option linter.unusedSimpArgs false
set_option linter.unusedVariables false

theorem plays_law {H : Type} (enc : TypeId × Value → H) (w : World) (a : Option Addr) (len cap : Nat) (h : Fits enc Try.prog w 22 [.slice a len cap]) :
    Calls Try.prog 4 #[.slice a len cap] w fun e w' => e = .returned (.bool true) ∧ Below w.heap.size w w' := by
  have HD := Lib.hid (deeds_of h)
  clear h
  go_enter Try.func4, Try.ntmps4
  go_wp2_with fail; refine (play_any w a len cap HD.out).mono ?_; rintro e w1 ⟨b, rb, F, ws, rfl, h1⟩; have H1 := Lib.hid h1; clear h1; go_wp2_with fail; refine (live_any _).mono ?_; rintro e w2 ⟨rfl, l2⟩; have H2 := Lib.hid (H1.out.below l2); clear l2 H1; go_wp2_with fail
  refine (both_same H2.out.both).mono ?_
  rintro e w3 ⟨rfl, l3⟩
  have H3 := Lib.hid (H2.out.below l3); clear l3 H2
  go_wp2_with fail
  go_ret
  exact ⟨by simp, H3.out.lo⟩
/-! ### sleeps -/
theorem bitsOf_mem (s : Nat) (t : Int) : ∀ k, t ∈ bitsOf s k ↔ ∃ i : Nat, i < k ∧ t = i ∧ s.testBit i = true := by
  intro k
  induction k with
  | zero => simp [bitsOf]
  | succ k ih =>
    rw [bitsOf, List.mem_append, ih]
    constructor
    · rintro (⟨i, hi, ht⟩ | h)
      · exact ⟨i, by omega, ht⟩
      · cases hb : s.testBit k
        · rw [hb] at h; simp at h
        · rw [hb] at h; simp at h; exact ⟨k, by omega, h, hb⟩
    · rintro ⟨i, hi, rfl, hb⟩
      by_cases hk : i = k
      · subst hk; right; rw [hb]; simp
      · left; exact ⟨i, by omega, rfl, hb⟩
theorem mem_ths {ws : Ws} {th : Int} : th ∈ ths ws ↔ (findW ws th).isSome = true := by
  cases hf : findW ws th with
  | none => simp [findW_none.1 hf]
  | some x =>
    have := findW_some hf
    simp
    exact List.mem_map.2 ⟨x, this.1, this.2⟩
theorem of_len {ws : Ws} (h : WfW ws) (th : Int) : decide (0 < ((bitsOf (gOf ws th) 12).length : Int)) = decide (th ∈ ths ws) := by
  cases hf : findW ws th with
  | none =>
    have h1 : gOf ws th = 0 := by unfold gOf; rw [hf]; rfl
    have h2 : ¬ th ∈ ths ws := by rw [mem_ths, hf]; simp
    rw [h1, show bitsOf 0 12 = [] from by decide]
    simp [h2]
  | some x =>
    have h2 : th ∈ ths ws := by rw [mem_ths, hf]; rfl
    have h1 : gOf ws th = x.of := by unfold gOf; rw [hf]; rfl
    have hx := h.ok x (findW_some hf).1
    rw [h1]
    obtain ⟨i, hi⟩ := Nat.exists_testBit_of_ne_zero hx.2.2
    have h12 : i < 12 := by
      rcases Nat.lt_or_ge i 12 with h12 | h12
      · exact h12
      · rw [Nat.testBit_lt_two_pow (Nat.lt_of_lt_of_le hx.2.1 (Nat.pow_le_pow_right (by decide) h12 : 2 ^ 12 ≤ 2 ^ i))] at hi
        cases hi
    have hm := (bitsOf_mem x.of i 12).2 ⟨i, h12, rfl, hi⟩
    have hl := List.length_pos_of_mem hm
    simp [h2]
    exact hl
theorem gSl_in {ws : Ws} {th : Int} (h : gSl ws th = true) : decide (th ∈ ths ws) = true := by
  unfold gSl at h
  cases hf : findW ws th with
  | none => rw [hf] at h; cases h
  | some x => simp; rw [mem_ths, hf]; rfl
set_option maxHeartbeats 1600000 in
theorem sleeps_law {H : Type} (enc : TypeId × Value → H) (w : World) (a : Option Addr) (len cap : Nat) (h : Fits enc Try.prog w 22 [.slice a len cap]) :
    Calls Try.prog 3 #[.slice a len cap] w fun e w' => e = .returned (.bool true) ∧ Below w.heap.size w w' := by
  have HD := Lib.hid (deeds_of h)
  clear h
  go_enter Try.func3, Try.ntmps3
  go_wp2_with fail; refine (play_any w a len cap HD.out).mono ?_; rintro e w1 ⟨b, rb, F, ws, rfl, h1⟩; have H1 := Lib.hid h1; clear h1; go_wp2_with fail; refine (live_any _).mono ?_; rintro e w2 ⟨rfl, l2⟩; have H2 := Lib.hid (H1.out.below l2); clear l2 H1; go_wp2_with fail
  have HWF := Lib.hid H2.out.both.l.wf
  have hm := ths_len HWF.out
  refine (waiting_any _ b _ ws H2.out.both.l).mono ?_
  rintro e w3 ⟨v, rfl, i3, l3⟩
  obtain ⟨va, vc, rfl, hin⟩ := IntsAt.open i3
  have H3 := Lib.hid (H2.out.below l3); have HIN := Lib.hid hin
  clear i3 l3 H2 hin
  obtain ⟨q, hq⟩ : ∃ q, (ths ws).length = q := ⟨_, rfl⟩
  rw [hq] at hm HIN ⊢
  clear hq
  go_wp2_with fail
  go_loopw [7] (fun i wr => ∃ k : Nat, i = .int .i64 k ∧ k ≤ 4 ∧ Below w3.heap.size w3 wr) (fun i _ => 4 - (intOf i).toNat)
  case atStart => exact ⟨0, rfl, Nat.zero_le _, Below.refl _ _⟩
  case round =>
    obtain ⟨k, rfl, hk, hB⟩ := hrel
    have HR := Lib.hid (H3.out.below hB); have HI := Lib.hid (HIN.out.below hB); have HB := Lib.hid hB
    clear hB
    by_cases hlt : k < 4
    · have HO := Lib.hid (of_len HWF.out k)
      go_wp2_with fail
      refine (asleep_any _ b _ ws HR.out.both.l k).mono ?_
      rintro e w4 ⟨rfl, l4⟩
      have HR4 := Lib.hid (HR.out.below l4); have HI4 := Lib.hid (HI.out.below l4); have HB4 := Lib.hid (btrans HB.out (Nat.le_refl _) l4)
      clear l4 HR HI HB
      cases hg : gSl ws (k : Int)
      · clear hg
        go_wp2_with fail
        refine (in_any _ _ q vc _ (k : Int) HI4.out (by omega)).mono ?_
        rintro e w5 ⟨rfl, rfl⟩
        go_wp2_with fail
        refine (of_any _ b _ ws HR4.out.both.l k).mono ?_
        rintro e w6 ⟨v6, rfl, i6, l6⟩
        obtain ⟨va6, vc6, rfl, _⟩ := IntsAt.open i6
        have HB6 := Lib.hid (btrans HB4.out (Nat.le_refl _) l6)
        clear i6 l6
        have ho := HO.out
        generalize (bitsOf (gOf ws (k : Int)) 12).length = z at *
        cases hd : decide ((k : Int) ∈ ths ws)
        · rw [hd] at ho
          obtain rfl : z = 0 := by simp at ho; omega
          clear hd ho
          go_wp2_with fail
          exact ⟨⟨k + 1, by go_num, by omega, HB6.out⟩, by simp [intOf]; omega⟩
        · rw [hd] at ho
          have hz1 : 0 < z := by simpa using ho
          have hz2 : (0 : Int) < z := by omega
          clear hd ho
          go_wp2_with fail
          exact ⟨⟨k + 1, by go_num, by omega, HB6.out⟩, by simp [intOf]; omega⟩
      · have hd := gSl_in hg
        have ho := HO.out
        rw [hd] at ho
        clear hg
        go_wp2_with fail
        refine (in_any _ _ q vc _ (k : Int) HI4.out (by omega)).mono ?_
        rintro e w5 ⟨rfl, rfl⟩
        rw [hd]
        go_wp2_with fail
        refine (in_any _ _ q vc _ (k : Int) HI4.out (by omega)).mono ?_
        rintro e w5 ⟨rfl, rfl⟩
        rw [hd]
        clear hd
        go_wp2_with fail
        refine (of_any _ b _ ws HR4.out.both.l k).mono ?_
        rintro e w6 ⟨v6, rfl, i6, l6⟩
        obtain ⟨va6, vc6, rfl, _⟩ := IntsAt.open i6
        have HB6 := Lib.hid (btrans HB4.out (Nat.le_refl _) l6)
        clear i6 l6
        generalize (bitsOf (gOf ws (k : Int)) 12).length = z at *
        have hz1 : 0 < z := by simpa using ho
        have hz2 : (0 : Int) < z := by omega
        clear ho
        go_wp2_with fail
        exact ⟨⟨k + 1, by go_num, by omega, HB6.out⟩, by simp [intOf]; omega⟩
    · have hq4 : (q : Int) ≤ 4 := by omega
      go_wp2_with fail
      go_ret
      exact ⟨by simp [hm], HR.out.lo⟩
/-! ### forks -/
set_option maxHeartbeats 1600000 in
theorem forks_law {H : Type} (enc : TypeId × Value → H) (w : World) (a : Option Addr) (len cap : Nat) (h : Fits enc Try.prog w 22 [.slice a len cap]) (a' : Option Addr) (len' cap' : Nat) (h' : Fits enc Try.prog w 22 [.slice a' len' cap']) :
    Calls Try.prog 7 #[.slice a len cap, .slice a' len' cap'] w fun e w' => e = .returned (.bool true) ∧ Below w.heap.size w w' := by
  have HD := Lib.hid (deeds_of h); have HD' := Lib.hid (deeds_of h')
  have hm := (deeds_of h').1
  clear h h'
  go_enter Try.func7, Try.ntmps7
  go_wp2_with fail; refine (play_any w a len cap HD.out).mono ?_; rintro e w1 ⟨b, rb, F, ws, rfl, h1⟩; have H1 := Lib.hid h1; clear h1; go_wp2_with fail; refine (live_any _).mono ?_; rintro e w2 ⟨rfl, l2⟩; have H2 := Lib.hid (H1.out.below l2); clear l2 H1; go_wp2_with fail
  refine (fork_any _ b _ ws H2.out.both.l).mono ?_
  rintro e w3 ⟨fb, rfl, h3, l3⟩
  have H3 := Lib.hid h3; have L3 := Lib.hid l3
  have HR3 := Lib.hid (H2.out.both.r.below l3)
  clear h3 l3
  go_wp2_with fail
  refine (rfork_any _ rb ws HR3.out).mono ?_
  rintro e w4 ⟨gb, rfl, hgb, h4, l4, f4⟩
  have HP := Lib.hid (show Playing w2 w4 fb gb (Grow (fun _ => False) w2 w3) 60 ws from ⟨⟨H3.out.below l4, h4, fun hf => by rcases hf with hf | hf; exact hf.elim; omega, fun v k hv hk hf => by have := f4 v k hv hk; rcases hf with hf | hf; exact hf.elim; omega⟩, btrans L3.out (Nat.le_refl _) l4, fun k hk => by rcases hk with hk | hk; exact hk.elim; exact hk.1, Nat.le_trans L3.out.size hgb⟩)
  clear h4 l4 f4 hgb H3 L3 HR3
  go_wp2_with fail
  go_loopw [10] (fun i wr => ∃ (q : Nat) (F2 : Nat → Prop) (vs : Ws), i = .int .i64 q ∧ q ≤ len' ∧ q ≤ 14 ∧ Playing w2 wr fb gb F2 (60 + q) vs) (fun i _ => len' - (intOf i).toNat)
  case atStart => exact ⟨0, _, _, rfl, Nat.zero_le _, Nat.zero_le _, HP.out⟩
  case round =>
    obtain ⟨q, F2, vs, rfl, hq, hq6, hP⟩ := hrel
    have HQ := Lib.hid hP; clear hP HP
    have HH := Lib.hid (H2.out.below HQ.out.lo)
    by_cases hgo : q < len' ∧ q < 14
    · obtain ⟨hlt, h14⟩ := hgo
      obtain ⟨db, off, rfl, hc⟩ := HD'.out.2.resolve_left (by omega)
      obtain ⟨kd, th, ta, tm, tc, ts, ⟨c0, c1, c2⟩, hts, hmm, hmc⟩ := hc q hlt
      replace c0 := bkeep HH.out.lo c0; replace c1 := bkeep HH.out.lo c1; replace c2 := bkeep HH.out.lo c2
      have HAP := Lib.hid (show ApartT F2 gb tm ta from fun h0 g off e => by
        have h1 := hts.block h0 g off e
        have h2 := HQ.out.rl
        have h3 := H2.out.lo.size
        exact ⟨fun hf => by have := HQ.out.fl g hf; omega, by omega⟩)
      have HTS := Lib.hid (hts.below HH.out.lo)
      clear hc hts
      go_wp2_with fail
      refine (do_any _ fb gb (60 + q) vs HQ.out.both (by omega) kd th ta tm tc ts HTS.out hmm hmc HAP.out).mono ?_
      rintro e w5 ⟨rfl, F', ws', hB, hF, ho⟩
      have H5 := Lib.hid (HQ.out.step hB hF ho)
      clear hB hF ho c0 c1 c2
      go_wp2_with fail
      exact ⟨⟨q + 1, F', ws', by go_num, by omega, by omega, H5.out⟩, by simp [intOf]; omega⟩
    · by_cases hlt : q < len'
      · have h14 : ¬ ((q : Int) < 14) := by omega
        go_wp2_with fail
        refine (both_same HH.out.both).mono ?_
        rintro e w6 ⟨rfl, l6⟩
        have H6 := Lib.hid (HQ.out.below l6); have L6 := Lib.hid (HH.out.below l6)
        clear l6
        go_wp2_with fail
        refine (both_same H6.out.both).mono ?_
        rintro e w7 ⟨rfl, l7⟩
        have L7 := Lib.hid (L6.out.below l7)
        clear l7
        go_wp2_with fail
        go_ret
        exact ⟨by simp, L7.out.lo⟩
      · go_wp2_with fail
        refine (both_same HH.out.both).mono ?_
        rintro e w6 ⟨rfl, l6⟩
        have H6 := Lib.hid (HQ.out.below l6); have L6 := Lib.hid (HH.out.below l6)
        clear l6
        go_wp2_with fail
        refine (both_same H6.out.both).mono ?_
        rintro e w7 ⟨rfl, l7⟩
        have L7 := Lib.hid (L6.out.below l7)
        clear l7
        go_wp2_with fail
        go_ret
        exact ⟨by simp, L7.out.lo⟩
end Go.Proofs.Ytddcpehncbcliaa.Wai
