/- The statement: registers. -/
import Derived.Test.YtddcpehncbcliaaWaiQ
namespace Go.Proofs.Ytddcpehncbcliaa.Wai
open Go.RowKit
set_option linter.unusedSimpArgs false
set_option linter.unusedVariables false

/-- some bytes -/
def BytesIn (w : World) (a : Option Addr) (n : Nat) (us : List Int) : Prop :=
  us.length = n ∧ (∀ u ∈ us, 0 ≤ u ∧ u < 256) ∧ (n = 0 ∨ ∃ b off, a = some ⟨b, off, none⟩ ∧ ∀ i, i < n → w.cell? ⟨b, off + i, none⟩ = some (.int .u8 (us.getD i 0)))
theorem cells_u8 : Try.prog.cellsOf 5 = 1 := by kernel_rfl
theorem bytes_of {H : Type} {enc : TypeId × Value → H} {w : World} {a : Option Addr} {m c : Nat} (h : Fits enc Try.prog w 38 [.slice a m c]) : m ≤ 9223372036854775807 ∧ ∃ us, BytesIn w a m us := by
  obtain ⟨hm, hh⟩ := h.slice Try.underlying38 (by rw [cells_u8]; decide)
  refine ⟨hm, ?_⟩
  rcases hh with rfl | ⟨b, off, rfl, hh⟩
  · exact ⟨[], rfl, by simp, .inl rfl⟩
  obtain ⟨f, hf⟩ := Go.Deep.choose_lt (α := Int) (p := fun i x => w.cell? ⟨b, off + i, none⟩ = some (.int .u8 x) ∧ 0 ≤ x ∧ x < 256) (fun i hi => by
    obtain ⟨cs, hl, hc, hfit⟩ := hh i hi
    obtain ⟨x, rfl, hx⟩ := hfit.int (k := .u8) (by kernel_rfl)
    have := hc 0 (by rw [cells_u8]; decide)
    rw [cells_u8] at this
    have hb := bounds_u8 hx
    exact ⟨x, by simpa using this, hb.1, by have := hb.2; omega⟩)
  refine ⟨(List.range m).map f, by simp, ?_, .inr ⟨b, off, rfl, fun i hi => ?_⟩⟩
  · intro u hu
    obtain ⟨i, hi, rfl⟩ := List.mem_map.1 hu
    exact (hf i (List.mem_range.1 hi)).2
  · rw [(hf i hi).1, List.getD_eq_getElem?_getD, List.getElem?_map, List.getElem?_range hi]
    rfl
theorem BytesIn.below {w w' : World} {a : Option Addr} {n : Nat} {us : List Int} (h : BytesIn w a n us) (l : Below w.heap.size w w') : BytesIn w' a n us :=
  ⟨h.1, h.2.1, h.2.2.imp id fun ⟨b, off, e, hc⟩ => ⟨b, off, e, fun i hi => bkeep l (hc i hi)⟩⟩
def mod12 (us : List Int) : List Int := us.map fun u => u % 12
theorem mod12_ok (us : List Int) : (mod12 us).all okB = true := by
  rw [List.all_eq_true]
  intro t ht
  obtain ⟨u, _, rfl⟩ := List.mem_map.1 ht
  exact okB_iff.2 ⟨by omega, by omega⟩
theorem mod12_len (us : List Int) : (mod12 us).length = us.length := by simp [mod12]
theorem mod12_snoc (us : List Int) (k : Nat) (h : k < us.length) : mod12 (us.take (k + 1)) = mod12 (us.take k) ++ [us.getD k 0 % 12] := by
  rw [take_snoc us k h]
  simp [mod12]
theorem regE_th {ws : Ws} {th : Int} {ts : List Int} (h : okTh th) (ha : ts.all okB = true) : regE ws th ts = if ts = [] then 3 else if (findW ws th).isSome then 6 else 0 := by
  unfold regE
  rw [if_neg (by simpa using h), if_neg (by rw [ha]; decide)]
/-- behind a registering that went well -/
theorem reg_at {ws : Ws} (h : WfW ws) {th : Int} {ts : List Int} (ha : ts.all okB = true) (hf : findW ws th = none) {t : Int} (ht : t ∈ ts) :
    meetW (ws ++ [⟨th, setN ts, false⟩]) (setR [t]) = meetW ws (setR [t]) ++ [th] ∧ decide (t ∈ bitsOf (gOf (ws ++ [⟨th, setN ts, false⟩]) th) 12) = true := by
  have hall := List.all_eq_true.1 ha
  have h0 := okB_iff.1 (hall t ht)
  have hb : (setN ts).testBit t.toNat = true := by
    rw [setN_bit (fun x hx => (okB_iff.1 (hall x hx)).1), decide_eq_true_iff, show ((t.toNat : Nat) : Int) = t by omega]
    exact ht
  constructor
  · unfold meetW ths
    rw [List.filter_append, List.map_append]
    congr 1
    have : meets (setR [t]) ⟨th, setN ts, false⟩ = true := by
      rw [meets_one (setN_lt hall), hall t ht, hb]; rfl
    simp [this]
  · rw [decide_eq_true_iff, bitsOf_mem]
    refine ⟨t.toNat, by omega, by omega, ?_⟩
    have : gOf (ws ++ [⟨th, setN ts, false⟩]) th = setN ts := by
      unfold gOf
      rw [findW_snoc, hf]
      simp
    rw [this]; exact hb
theorem reg_canc {ws : Ws} {th : Int} {s : Nat} (hf : findW ws th = none) : without (ws ++ [⟨th, s, false⟩]) th = ws := by
  unfold without
  rw [List.filter_append]
  have h1 : (ws.filter fun x => decide (x.th ≠ th)) = ws := by
    rw [List.filter_eq_self]
    intro x hx
    simp
    intro he
    exact findW_none.1 hf (List.mem_map.2 ⟨x, hx, he⟩)
  rw [h1]
  simp
set_option maxHeartbeats 3200000 in
theorem registers_law {H : Type} (enc : TypeId × Value → H) (w : World) (a : Option Addr) (len cap : Nat) (h : Fits enc Try.prog w 22 [.slice a len cap]) (tv : Int) (hwf : (Lit.int .u8 tv).wf = true) (a2 : Option Addr) (len2 cap2 : Nat) (h2 : Fits enc Try.prog w 38 [.slice a2 len2 cap2]) :
    Calls Try.prog 6 #[.slice a len cap, .int .u8 tv, .slice a2 len2 cap2] w fun e w' => e = .returned (.bool true) ∧ Below w.heap.size w w' := by
  obtain ⟨i0, hi, hz0, hz1, hz2⟩ := info_parts infoI
  have HD := Lib.hid (deeds_of h)
  obtain ⟨hm2, us, hus⟩ := bytes_of h2
  have HUS := Lib.hid hus
  have htv : 0 ≤ tv ∧ tv < 256 := by have hb := bounds_u8 hwf; exact ⟨hb.1, by have := hb.2; omega⟩
  have hq : IntKind.i64.wrap tv = tv := by rw [IntKind.wrap_i64]; omega
  obtain ⟨t, ht⟩ : ∃ t, tv.tmod 4 = t := ⟨_, rfl⟩
  have htm : tv.tmod 4 = tv % 4 := Int.tmod_eq_emod_of_nonneg htv.1
  have hw2 : IntKind.i64.wrap t = t := by rw [IntKind.wrap_i64]; omega
  have HT := Lib.hid (show okTh t from ⟨by omega, by omega⟩)
  clear h h2 htv htm hwf hus
  go_enter Try.func6, Try.ntmps6
  go_wp2_with fail; refine (play_any w a len cap HD.out).mono ?_; rintro e w1 ⟨b, rb, F, ws, rfl, h1⟩; have H1 := Lib.hid h1; clear h1; go_wp2_with fail; refine (live_any _).mono ?_; rintro e w2 ⟨rfl, l2⟩; have H2 := Lib.hid (H1.out.below l2); clear l2 H1; go_wp2_with fail
  go_loopw [11, 12] (fun v i wr => ∃ k : Nat, i = .int .i64 k ∧ k ≤ len2 ∧ k ≤ 8 ∧ IntsAt w2.heap.size wr v (mod12 (us.take k)) ∧ Below w2.heap.size w2 wr) (fun _ i _ => len2 - (intOf i).toNat)
  case atStart => exact ⟨0, rfl, Nat.zero_le _, Nat.zero_le _, World.ownsRow_nil _ _ _ _, Below.refl _ _⟩
  case round =>
    obtain ⟨k, rfl, hk, hk8, hR, hB⟩ := hrel
    have HR := Lib.hid hR; have HB := Lib.hid hB
    have hsz := hB.size
    clear hR hB
    by_cases hgo : k < len2 ∧ k < 8
    · obtain ⟨hlt, h8⟩ := hgo
      obtain ⟨ub, uo, rfl, hc⟩ := HUS.out.2.2.resolve_left (by omega)
      have c0 := bkeep (btrans H2.out.lo (Nat.le_refl _) HB.out) (hc k hlt)
      have hul : k < us.length := by rw [HUS.out.1]; exact hlt
      have hsn := mod12_snoc us k hul
      have hub := HUS.out.2.1 (us.getD k 0) (by rw [List.getD_eq_getElem?_getD, List.getElem?_eq_getElem hul]; exact List.getElem_mem _)
      have hml : (mod12 (us.take k)).length ≤ k := by rw [mod12_len, List.length_take]; omega
      generalize us.getD k 0 = u at *
      have hq2 : IntKind.i64.wrap u = u := by rw [IntKind.wrap_i64]; omega
      have htm2 : u.tmod 12 = u % 12 := Int.tmod_eq_emod_of_nonneg hub.1
      obtain ⟨s, hs⟩ : ∃ s, u.tmod 12 = s := ⟨_, rfl⟩
      have hw3 : IntKind.i64.wrap s = s := by rw [IntKind.wrap_i64]; omega
      rw [← htm2, hs] at hsn
      have HS2 := Lib.hid hsn
      clear hsn htm2 hc hub hul
      go_wp2_with (at_builtin; refine wpList_append_own _ rfl _ _ 28 rfl w2.heap.size 3 i0 (.int .i64 0) 1 8 Try.underlying28 hi hz0 hz1 hz2 rfl (by decide) _ _ ((mod12 (us.take k)).map fun t => .int .i64 t) rfl (HR.out.below ((Below.refl wr.heap.size wr).alloc (Nat.le_refl _) _)) ⟨wr.heap.size, 0, none⟩ 1 1 [.int .i64 (s)] rfl rfl ?_ ?_ ?_ ?_ ?_ ?_); rotate_right; (intro v' w9 hown hgr _; have hB2 : Below w2.heap.size w2 w9 := (HB.out.alloc hsz _).grown hgr (by simp; omega) (fun k hk => (World.ownsRow.lt HR.out k hk).1); have HB2 := Lib.hid hB2; have HP2 := Lib.hid (show IntsAt w2.heap.size w9 v' (mod12 (us.take k) ++ [s]) from (by unfold IntsAt; rw [List.map_append, List.length_append]; exact hown)); clear hown hgr hB2; go_wp2_with fail; exact ⟨⟨k + 1, by go_num, by omega, by omega, by rw [HS2.out]; exact HP2.out, HB2.out⟩, by simp [intOf]; omega⟩); all_goals (first | (intro jj vv hv; rw [Addr.add_lit]; have hnw := blk_cell (blk_new wr (.cells #[.int .i64 (s)] 3)) jj; rw [Nat.zero_add, hnw]; simpa using hv) | (simp [Value.oneCell']; done) | (unfold maxLen; omega) | omega | (simp; omega))
    · have hcase : ¬ k < len2 ∨ (k < len2 ∧ ¬ (k : Int) < 8) := by omega
      have HP := Lib.hid (H2.out.below HB.out)
      have HWI := Lib.hid H2.out.both.l.within
      have HOK := Lib.hid (mod12_ok (us.take k))
      have hvl : (mod12 (us.take k)).length = k := by rw [mod12_len, List.length_take, HUS.out.1]; omega
      generalize mod12 (us.take k) = vs at *
      obtain ⟨va, vc, rfl, _⟩ := IntsAt.open HR.out
      rw [hvl] at HR ⊢
      have HVL := Lib.hid hvl
      have HWF := Lib.hid HP.out.both.l.wf
      have hlt4 := ths_len HWF.out
      clear hgo hvl HUS
      rcases hcase with hlt | ⟨hlt, h8⟩
      all_goals
        go_wp2_with fail
        refine (waiting_any _ b _ ws HP.out.both.l).mono ?_
        rintro e w3 ⟨v3, rfl, i3, l3⟩
        obtain ⟨va3, vc3, rfl, hin3⟩ := IntsAt.open i3
        have HP3 := Lib.hid (HP.out.below l3); have HR3 := Lib.hid (HR.out.below l3); have I3 := Lib.hid i3
        have hl3 := l3.size
        obtain ⟨q, hq9⟩ : ∃ q, (ths ws).length = q := ⟨_, rfl⟩
        have HQ := Lib.hid hq9
        rw [hq9] at I3 hlt4 ⊢
        have HREG := Lib.hid (reg_any w3 b 60 ws HP3.out.both.l (by decide) t va k vc vs (HR3.out.opened HVL.out) (by omega))
        clear i3 l3 hin3 HP HR hq9
        by_cases hnil : vs = []
        · have hE : regE ws t vs = 3 := by rw [regE_th HT.out HOK.out, if_pos hnil]
          have hS : regS ws t vs = ws := by unfold regS; rw [hE]; rfl
          have hk0 : k = 0 := by rw [← HVL.out, hnil]; rfl
          rw [hE, hS] at HREG
          subst hk0
          clear hE hS hnil
          go_wp2_with fail
          refine HREG.out.mono ?_
          rintro e w4 ⟨rfl, h4, o4⟩
          have B4 := Lib.hid (HP3.out.both.real h4 o4)
          have L4 := Lib.hid (HP3.out.ply.step h4 o4).lo
          clear h4 o4 HREG
          go_wp2_with fail
          refine (both_same B4.out).mono ?_
          rintro e w5 ⟨rfl, l5⟩
          have L5 := Lib.hid (btrans L4.out (Nat.le_refl _) l5)
          clear l5
          go_wp2_with fail
          go_ret
          exact ⟨by simp, L5.out⟩
        cases hf : findW ws t with
        | some x =>
          have hE : regE ws t vs = 6 := by rw [regE_th HT.out HOK.out, if_neg hnil, hf]; rfl
          have hS : regS ws t vs = ws := by unfold regS; rw [hE]; rfl
          have hd : decide (t ∈ ths ws) = true := by rw [decide_eq_true_iff, mem_ths, hf]; rfl
          rw [hE, hS] at HREG
          have HDD := Lib.hid hd
          clear hE hS hnil hf hd
          go_wp2_with fail
          refine HREG.out.mono ?_
          rintro e w4 ⟨rfl, h4, o4⟩
          have B4 := Lib.hid (HP3.out.both.real h4 o4)
          have L4 := Lib.hid (HP3.out.ply.step h4 o4).lo
          have J4 := Lib.hid (show IntsAt w2.heap.size w4 (.slice va3 q vc3) (ths ws) from ownsRow_only (ownsRow_base I3.out (fun k hk => by have := (World.ownsRow.lt I3.out k hk).1; have := HB.out.size; omega)) o4 (fun g hg hF => by have h1 := (World.ownsRow.lt I3.out g hg).1; have h2 := HWI.out g hF; have := HB.out.size; omega))
          clear h4 o4 HREG
          go_wp2_with fail
          refine (both_same B4.out).mono ?_
          rintro e w5 ⟨rfl, l5⟩
          have L5 := Lib.hid (btrans L4.out (Nat.le_refl _) l5)
          have J5 := Lib.hid ((J4.out.below l5).opened HQ.out)
          clear l5
          go_wp2_with fail
          refine (in_any _ va3 q vc3 _ t J5.out (by omega)).mono ?_
          rintro e w6 ⟨rfl, rfl⟩
          rw [HDD.out]
          go_wp2_with fail
          go_ret
          exact ⟨by simp, L5.out⟩
        | none =>
          have hE : regE ws t vs = 0 := by rw [regE_th HT.out HOK.out, if_neg hnil, hf]; rfl
          have hS : regS ws t vs = ws ++ [⟨t, setN vs, false⟩] := by unfold regS; rw [hE]; rfl
          have HAT := Lib.hid (fun s (hs : s ∈ vs) => reg_at HWF.out HOK.out hf hs)
          have hsl : gSl (ws ++ [⟨t, setN vs, false⟩]) t = false := by unfold gSl; rw [findW_snoc, hf]; simp
          have hcE : cancE (ws ++ [⟨t, setN vs, false⟩]) t = 0 := by unfold cancE; rw [if_neg (by simpa using HT.out), findW_snoc, hf]; simp
          have hcS : cancS (ws ++ [⟨t, setN vs, false⟩]) t = ws := by unfold cancS; rw [hcE]; exact reg_canc hf
          rw [hE, hS] at HREG
          have HM4 := Lib.hid (fun u => meetW_len HWF.out u)
          generalize ws ++ [⟨t, setN vs, false⟩] = vs2 at *
          have HSL := Lib.hid hsl; have HCE := Lib.hid hcE; have HCS := Lib.hid hcS
          clear hE hS hnil hf hsl hcE hcS
          go_wp2_with fail
          refine HREG.out.mono ?_
          rintro e w4 ⟨rfl, h4, o4⟩
          have B4 := Lib.hid (HP3.out.both.real h4 o4)
          have P4 := Lib.hid (HP3.out.ply.step h4 o4)
          have HV4 := Lib.hid ((show IntsAt w2.heap.size w4 (.slice va k vc) vs from ownsRow_only HR3.out o4 (fun g hg hF => by have h1 := (World.ownsRow.lt HR3.out g hg).1; have h2 := HWI.out g hF; omega)).opened HVL.out)
          generalize Grow F w3 w4 = F4 at *
          clear h4 o4 HREG HP3 HR3 I3
          go_wp2_with fail
          go_loopw [15] (fun i wr => ∃ j : Nat, i = .int .i64 j ∧ j ≤ k ∧ Below w4.heap.size w4 wr) (fun i _ => k - (intOf i).toNat)
          case atStart => exact ⟨0, rfl, Nat.zero_le _, Below.refl _ _⟩
          case round =>
            obtain ⟨j, rfl, hj, hBB⟩ := hrel
            have HBB := Lib.hid hBB
            have PP := Lib.hid (P4.out.below hBB); have BB := Lib.hid (B4.out.below hBB); have HVV := Lib.hid (HV4.out.below hBB)
            clear hBB
            by_cases hjt : j < k
            · obtain ⟨g, off, rfl, hc⟩ := HVV.out.2.resolve_left (by omega)
              have c0 := hc j hjt
              have hmem : vs.getD j 0 ∈ vs := by rw [List.getD_eq_getElem?_getD, List.getElem?_eq_getElem (by rw [HVL.out]; exact hjt)]; exact List.getElem_mem _
              obtain ⟨m1, m2⟩ := HAT.out _ hmem
              have M1 := Lib.hid m1; have M2 := Lib.hid m2
              clear hc hmem m1 m2
              generalize vs.getD j 0 = s at *
              go_wp2_with fail
              refine (at_any _ b _ _ PP.out.l s).mono ?_
              rintro e w5 ⟨v5, rfl, i5, l5⟩
              rw [M1.out] at i5
              obtain ⟨va5, vc5, rfl, hin5⟩ := IntsAt.open i5
              have PP5 := Lib.hid (PP.out.below l5); have HBB5 := Lib.hid (btrans HBB.out (Nat.le_refl _) l5)
              replace c0 := bkeep l5 c0
              have hmm := HM4.out (setR [s])
              obtain ⟨mm, hmmd⟩ : ∃ mm, meetW ws (setR [s]) = mm := ⟨_, rfl⟩
              rw [hmmd] at hin5 hmm ⊢
              obtain ⟨g5, off5, rfl, hc5⟩ := hin5.2.resolve_left (by rw [List.length_append, List.length_singleton]; omega)
              have c5 := hc5 mm.length (by rw [List.length_append, List.length_singleton]; omega)
              rw [List.getD_eq_getElem?_getD, List.getElem?_append_right (Nat.le_refl _), Nat.sub_self] at c5
              rw [List.length_append, List.length_singleton]
              generalize mm.length = m at *
              rw [show ([t][0]?).getD 0 = t from rfl] at c5
              obtain ⟨M, hM⟩ : ∃ M, m + 1 = M := ⟨_, rfl⟩
              rw [hM]
              have hm0 : ((M : Int) == 0) = false := by simp; omega
              have hmw : IntKind.i64.wrap ((M : Int) - 1) = m := by rw [IntKind.wrap_i64]; omega
              have hmM : (m : Int) < M := by omega
              have hm00 : (0 : Int) ≤ m := by omega
              have hmn : m < M := by omega
              clear hM
              have KO := Lib.hid (show ∀ w', Below w5.heap.size w5 w' → (w'.cell? ⟨g, off + j, none⟩ = some (.int .i64 s) ∧ w'.cell? ⟨g5, off5 + m, none⟩ = some (.int .i64 t)) from fun w' l => ⟨bkeep l c0, bkeep l c5⟩)
              have k0 : Below w5.heap.size w5 w5.drew := (Below.refl _ _).drew
              have Q0 := KO.out _ k0
              have PD := Lib.hid (PP5.out.below k0)
              have hb12 := Lib.hid (bitsOf_len (gOf vs2 t) 12)
              clear i5 l5 hin5 hc5 hmmd M1 HBB PP BB HVV
              go_wp2_with fail
              go_region_held3 (fun w' => w'.cell? ⟨g, off + j, none⟩ = some (.int .i64 s) ∧ w'.cell? ⟨g5, off5 + m, none⟩ = some (.int .i64 t)) (first | (with_reducible exact Q0) | (with_reducible exact Q1)) (first | (go_at_call 15; (with_reducible refine Calls.mono (of_any _ b _ vs2 PD.out.l t) ?_); rintro e w6 ⟨v6, rfl, i6, l6⟩; obtain ⟨va6, vc6, rfl, hin6⟩ := IntsAt.open i6; have k1 := btrans k0 (Nat.le_refl _) l6; have Q1 := KO.out w6 k1) | (go_at_call 14; (with_reducible refine Calls.mono (in_any _ va6 _ vc6 _ s hin6 (Nat.le_trans hb12.out (by decide))) ?_); rintro e w7 ⟨rfl, rfl⟩))
              have HB9 := Lib.hid (btrans HBB5.out (Nat.le_refl _) k1)
              rw [M2.out]
              clear Q0 Q1 k0 k1 i6 l6 hin6
              go_wp2_with fail
              exact ⟨⟨j + 1, by go_num, by omega, HB9.out⟩, by simp [intOf]; omega⟩
            · obtain rfl : j = k := by omega
              go_wp2_with fail
              refine (asleep_any _ b _ vs2 PP.out.l t).mono ?_
              rintro e w5 ⟨rfl, l5⟩
              rw [HSL.out]
              have PP5 := Lib.hid (PP.out.below l5); have BB5 := Lib.hid (BB.out.below l5)
              have HC := Lib.hid (canc_any _ b _ vs2 PP5.out.l t)
              rw [HCE.out, HCS.out] at HC
              clear l5 PP BB
              go_wp2_with fail
              refine HC.out.mono ?_
              rintro e w6 ⟨rfl, h6, o6⟩
              have B6 := Lib.hid (BB5.out.real h6 o6)
              have L6 := Lib.hid (PP5.out.step h6 o6).lo
              clear h6 o6
              go_wp2_with fail
              refine (both_same B6.out).mono ?_
              rintro e w7 ⟨rfl, l7⟩
              have L7 := Lib.hid (btrans L6.out (Nat.le_refl _) l7)
              clear l7
              go_wp2_with fail
              go_ret
              exact ⟨by simp, L7.out⟩
end Go.Proofs.Ytddcpehncbcliaa.Wai
