/- Who took the clock ahead of a commit passes no stripe that it wrote. -/
import Derived.Test.YtboofagdcohgnaaTguE
import Derived.Test.YtboofagdcohgnaaRow
namespace Go.Proofs.Ytboofagdcohgnaa.Tgu
open Go.RowKit Go.Proofs.Ytboofagdcohgnaa.Lkw Go.ChangeShapes Go.WideShapes Go.ChangeAt
set_option linter.unusedSimpArgs false
set_option linter.unusedVariables false
set_option maxRecDepth 50000

/-- the words where those of l are locked -/
def W1 (l : List Int) : Ws := fun i => if (i : Int) ∈ l then 1 else 0
/-- the words where those of l are free again -/
def W2 (c l : List Int) : Ws := fun i => if (i : Int) ∈ l then 32 else if (i : Int) ∈ c then 1 else 0
theorem take_snoc (ts : List Int) (k : Nat) (h : k < ts.length) : ts.take (k + 1) = ts.take k ++ [ts.getD k 0] := by
  rw [List.take_add_one, List.getElem?_eq_getElem h, List.getD_eq_getElem?_getD, List.getElem?_eq_getElem h]; rfl
theorem W1_step {c : List Int} {j s : Nat} (h : j < c.length) (hs : c.getD j 0 = (s : Int)) : upd (W1 (c.take j)) s 1 = W1 (c.take (j + 1)) := by
  funext i
  unfold upd W1
  rw [take_snoc c j h, hs]
  by_cases hi : i = s
  · subst hi; simp
  · have : ¬ (i : Int) = (s : Int) := by omega
    simp [hi, this]
theorem W2_step {c : List Int} {j s : Nat} (h : j < c.length) (hs : c.getD j 0 = (s : Int)) : upd (W2 c (c.take j)) s 32 = W2 c (c.take (j + 1)) := by
  funext i
  unfold upd W2
  rw [take_snoc c j h, hs]
  by_cases hi : i = s
  · subst hi; simp
  · have : ¬ (i : Int) = (s : Int) := by omega
    simp [hi, this]
theorem not_before {c : List Int} (hS : Strict c c.length) {j : Nat} (h : j < c.length) : c.getD j 0 ∉ c.take j := by
  intro hm
  obtain ⟨p, hp⟩ := List.mem_iff_getElem?.1 hm
  rw [List.getElem?_take] at hp
  split at hp
  · rename_i hpj
    have := hS p j hpj h
    rw [List.getD_eq_getElem?_getD (l := c) (i := p), hp] at this
    simp at this
  · cases hp
theorem W1_at {c : List Int} (hS : Strict c c.length) {j s : Nat} (h : j < c.length) (hs : c.getD j 0 = (s : Int)) : W1 (c.take j) s = 0 := by
  unfold W1
  rw [← hs, if_neg (not_before hS h)]
theorem W2_at {c : List Int} (hS : Strict c c.length) {j s : Nat} (h : j < c.length) (hs : c.getD j 0 = (s : Int)) : W2 c (c.take j) s = 1 := by
  unfold W2
  rw [← hs, if_neg (not_before hS h), if_pos (getD_mem h)]
theorem W2_zero (c : List Int) : W2 c (c.take 0) = W1 (c.take c.length) := by
  funext i
  unfold W2 W1
  simp
theorem W2_full (c : List Int) (i : Nat) : W2 c (c.take c.length) i = if (i : Int) ∈ c then 32 else 0 := by
  unfold W2
  rw [List.take_length]
  split <;> rfl
theorem nobody_full (c : List Int) : ∀ s, s < 4 → Nobody (W2 c (c.take c.length) s) := by
  intro s _
  rw [W2_full]
  split
  · exact ⟨by decide, by decide⟩
  · exact ⟨by decide, by decide⟩
theorem IntsAt.turn {B : Nat} {w w' : World} {v : Value} {c : List Int} {b g : Nat} {now : Int} {ws : Ws} (h : IntsAt B w v c) (hT : TAt w b g now ws) (o : Only (fun k => k = g) w w') : IntsAt B w' v c :=
  ownsRow_only h o (fun j hj e => by subst e; exact row_ne h hT.row (by decide) hj)
theorem IntsAt.turnB {B : Nat} {w w' : World} {v : Value} {c : List Int} {b g : Nat} {now : Int} {ws : Ws} (h : IntsAt B w v c) (hT : TAt w b g now ws) (o : Only (fun k => k = b) w w') : IntsAt B w' v c :=
  ownsRow_only h o (fun j hj e => by subst e; exact row_ne h hT.obj (by decide) hj)
theorem IntsAt.below {B : Nat} {w w' : World} {v : Value} {c : List Int} (h : IntsAt B w v c) (l : Below w.heap.size w w') : IntsAt B w' v c := ownsRow_only h (Only.empty l (Nat.le_refl _)) (fun _ _ h => h)
theorem IntsAt.in' {B : Nat} {w : World} {a : Option Addr} {n c : Nat} {L : List Int} (h : IntsAt B w (.slice a n c) L) : IntsIn w a n L := by
  obtain ⟨a', c', e, hi⟩ := IntsAt.open h
  injection e with e1 e2 e3
  subst e1 e2
  exact hi
theorem passes_r (w : World) (x n u : Int) (hx : 0 ≤ x ∧ x < 18446744073709551616) (r : Bool) (hr : passesV x n u = r) : Calls Try.prog 11 #[.int .u64 x, .int .i64 n, .int .u64 u] w fun e w' => e = .returned (.bool r) ∧ Below w.heap.size w w' := by
  rw [← hr]; exact passes_any w x n u hx
theorem cells_u8 : Try.prog.cellsOf 5 = 1 := by kernel_rfl
def Bytes (w : World) (a : Option Addr) (len : Nat) : Prop := len = 0 ∨ ∃ b off, a = some ⟨b, off, none⟩ ∧ ∀ i, i < len → ∃ x : Int, (0 ≤ x ∧ x < 256) ∧ w.cell? ⟨b, off + i, none⟩ = some (.int .u8 x)
theorem bytes_of {H : Type} {enc : TypeId × Value → H} {w : World} {a : Option Addr} {len cap : Nat} (h : Fits enc Try.prog w 22 [.slice a len cap]) : len ≤ 9223372036854775807 ∧ Bytes w a len := by
  obtain ⟨hm, hh⟩ := h.slice Try.underlying22 (by rw [cells_u8]; decide)
  refine ⟨hm, ?_⟩
  rcases hh with hh | ⟨b, off, rfl, hh⟩
  · exact .inl hh
  refine .inr ⟨b, off, rfl, fun i hi => ?_⟩
  obtain ⟨cs, hl, hc, hf⟩ := hh i hi
  obtain ⟨x, rfl, wf⟩ := hf.int (k := .u8) (by kernel_rfl)
  have hb := bounds_u8 wf
  have := hc 0 (by rw [cells_u8]; decide)
  rw [cells_u8] at this
  exact ⟨x, by omega, by simpa using this⟩
set_option maxHeartbeats 12800000 in
theorem guarded_law {H : Type} (enc : TypeId × Value → H) (w : World) (a : Option Addr) (len cap : Nat) (h : Fits enc Try.prog w 22 [.slice a len cap]) (y : Int) (hy : (Lit.int .u8 y).wf = true) :
    Calls Try.prog 3 #[.slice a len cap, .int .u8 y] w fun e w' => e = .returned (.bool true) ∧ Below w.heap.size w w' := by
  obtain ⟨i0, hi, hz0, hz1, hz2⟩ := info_parts infoI
  obtain ⟨hlen, hby⟩ := bytes_of h
  have hyb := bounds_u8 hy
  have HP := Lib.hid hby
  clear h hby hy
  go_enter Try.func3, Try.ntmps3
  go_wp2_with fail
  refine (new_any _).mono ?_
  rintro e w1 ⟨b, g, rfl, hT, hb, hg, l1⟩
  have HT := Lib.hid hT; have L1 := Lib.hid l1
  clear hT l1
  go_wp2_with fail
  go_loopw [6, 7] (fun v i wr => ∃ (k : Nat) (c : List Int), i = .int .i64 k ∧ k ≤ len ∧ k ≤ 8 ∧ c.length = k ∧ (∀ x ∈ c, 0 ≤ x ∧ x < 12) ∧ IntsAt w1.heap.size wr v c ∧ Below w1.heap.size w1 wr) (fun _ i _ => len - (intOf i).toNat)
  case atStart => exact ⟨0, [], rfl, Nat.zero_le _, by decide, rfl, fun x hx => absurd hx (by simp), World.ownsRow_nil _ _ _ _, Below.refl _ _⟩
  case round =>
    obtain ⟨k, c, rfl, hk, hk8, hcl, h12, hV, hB⟩ := hrel
    have H12 := Lib.hid h12; have HV := Lib.hid hV; have HB := Lib.hid hB; have HCL := Lib.hid hcl
    have hsz := hB.size
    clear h12 hV hB hcl
    by_cases hlt : k < len ∧ k < 8
    · obtain ⟨hlt, hlt8⟩ := hlt
      have hlt8' : (k : Int) < 8 := by omega
      obtain ⟨gb, off, rfl, hc⟩ := HP.out.resolve_left (by omega)
      obtain ⟨x, hx, c0⟩ := hc k hlt
      replace c0 := bkeep HB.out (bkeep L1.out c0)
      have hw1 : IntKind.i64.wrap ((k : Int) + 1) = (k : Int) + 1 := by rw [IntKind.wrap_i64]; omega
      have hwx : IntKind.i64.wrap x = x := by rw [IntKind.wrap_i64]; omega
      obtain ⟨t, ht⟩ : ∃ t, x.tmod 12 = t := ⟨_, rfl⟩
      have ht12 : 0 ≤ t ∧ t < 12 := by
        rw [← ht, Int.tmod_eq_emod_of_nonneg (by omega)]
        omega
      clear hc
      go_wp2_with (at_builtin; refine wpList_append_own _ rfl _ _ 25 rfl w1.heap.size 3 i0 (.int .i64 0) 1 8 Try.underlying25 hi hz0 hz1 hz2 rfl (by decide) _ _ (c.map fun t => .int .i64 t) rfl (ownsRow_only HV.out (Only.empty (show Below wr.heap.size wr (wr.alloc (.cells #[.int .i64 t] 3)) from by repeat (first | (with_reducible exact Below.refl _ _) | (with_reducible apply Below.drew) | (with_reducible refine below_drewN ?_ _) | (with_reducible refine below_alloc' ?_ ?_ _; (focus ((try simp) <;> omega))) | (with_reducible refine below_set' ?_ ?_ _; (focus ((try simp) <;> omega))))) (Nat.le_refl _)) (fun _ _ h => h)) ⟨wr.heap.size, 0, none⟩ 1 1 [.int .i64 t] rfl rfl ?_ ?_ ?_ ?_ ?_ ?_)
      rotate_right
      · intro v' w2 hown hgr _
        have HB2 := Lib.hid (show Below w1.heap.size w1 w2 from (HB.out.alloc hsz _).grown hgr (by simp; omega) (fun k hk => (World.ownsRow.lt HV.out k hk).1))
        have HP2 := Lib.hid (show IntsAt w1.heap.size w2 v' (c ++ [t]) from by unfold IntsAt; rw [List.map_append, List.length_append]; exact hown)
        have H122 := Lib.hid (show ∀ x ∈ c ++ [t], 0 ≤ x ∧ x < 12 from fun x hx => by
          rcases List.mem_append.1 hx with hx | hx
          · exact H12.out x hx
          · rw [List.mem_singleton] at hx; subst hx; exact ht12)
        have hl2 : (c ++ [t]).length = k + 1 := by rw [List.length_append, HCL.out]; rfl
        clear hown hgr
        go_wp2_with fail
        exact ⟨⟨k + 1, _, by go_num, by omega, by omega, hl2, H122.out, HP2.out, HB2.out⟩, by simp [intOf]; omega⟩
      all_goals (have := HCL.out; first | (intro j u hu; rw [Addr.add_lit]; have hnw := blk_cell (blk_new wr (.cells #[.int .i64 t] 3)) j; rw [Nat.zero_add, hnw]; simpa using hu) | (simp [Value.oneCell']; done) | (unfold maxLen; omega) | omega | (simp; omega))
    · have hex : ¬ ((k : Int) < len) ∨ ((k : Int) < len ∧ ¬ ((k : Int) < 8)) := by omega
      obtain ⟨va, vc, rfl, hin⟩ := IntsAt.open HV.out
      rw [HCL.out] at hin ⊢
      have HTw := Lib.hid (HT.out.below HB.out)
      have HSP := Lib.hid (stripes_any HTw.out va k vc c hin hk8 H12.out)
      have HBw := Lib.hid (btrans L1.out (Nat.le_refl _) HB.out)
      clear hin
      rcases hex with hex | ⟨hex, hex2⟩
      all_goals
        go_wp2_with fail
        refine HSP.out.mono ?_
        rintro e w2 ⟨v2, d, rfl, hd, hSd, h4, l2⟩
        obtain ⟨a2, c2, rfl, _⟩ := IntsAt.open hd
        have hws := HBw.out.size
        have hmb : d.length ≤ 9223372036854775807 := by
          rcases hd.2 with ⟨_, h0⟩ | ⟨_, _, _, _, _, _, hn1, hm1, _⟩
          · omega
          · unfold maxLen at hm1
            omega
        have HT2 := Lib.hid (show TAt w2 b g 0 (W1 (d.take 0)) from by
          have h0 : W1 (d.take 0) = fun _ => 0 := by
            funext i
            unfold W1
            simp
          rw [h0]
          exact HTw.out.below l2)
        have HD2 := Lib.hid (show IntsAt w.heap.size w2 (.slice a2 d.length c2) d from ownsRow_base hd (fun j hj => Nat.le_trans hws (World.ownsRow.lt hd j hj).1))
        have HB2 := Lib.hid (btrans HBw.out (Nat.le_refl _) l2)
        have HSd := Lib.hid hSd; have H4 := Lib.hid h4
        obtain ⟨m, hm⟩ : ∃ m, d.length = m := ⟨_, rfl⟩
        have HM := Lib.hid hm
        rw [hm] at HD2 hmb ⊢
        clear hd hSd h4 l2 hm hws
        go_wp2_with fail
        refine (clock_any HT2.out).mono ?_
        rintro e w3 ⟨rfl, rfl⟩
        go_wp2_with fail
        obtain ⟨wo, rfl⟩ : ∃ wo, wo = wr := ⟨wr, rfl⟩
        go_loopw [10] (fun i wr => ∃ j : Nat, i = .int .i64 j ∧ j ≤ m ∧ TAt wr b g 0 (W1 (d.take j)) ∧ IntsAt w.heap.size wr (.slice a2 m c2) d ∧ Below w.heap.size w wr) (fun i _ => m - (intOf i).toNat)
        case atStart => exact ⟨0, rfl, Nat.zero_le _, HT2.out, HD2.out, HB2.out⟩
        case round =>
          obtain ⟨j, rfl, hj, hTj, hDj, hBj⟩ := hrel
          have HTj := Lib.hid hTj; have HDj := Lib.hid hDj; have HBj := Lib.hid hBj
          clear hTj hDj hBj
          by_cases hjm : j < m
          · obtain ⟨g2, off2, rfl, hc⟩ := (IntsAt.in' HDj.out).2.resolve_left (by omega)
            have c0 := hc j hjm
            have hjd : j < d.length := by rw [HM.out]; exact hjm
            obtain ⟨s, hs4, hs⟩ := H4.out _ (getD_mem hjd)
            rw [hs] at c0
            have HLK := Lib.hid (tlock_any HTj.out hs4 (W1_at HSd.out hjd hs))
            have HST := Lib.hid (W1_step hjd hs)
            have hw1 : IntKind.i64.wrap ((j : Int) + 1) = (j : Int) + 1 := by rw [IntKind.wrap_i64]; omega
            clear hc hs
            go_wp2_with fail
            refine HLK.out.mono ?_
            rintro e w5 ⟨rfl, h5, o5⟩
            rw [HST.out] at h5
            have HT5 := Lib.hid h5
            have HD5 := Lib.hid (HDj.out.turn HTj.out o5)
            have HB5 := Lib.hid (HBj.out.trans (o5.lo (fun k e => by omega) HBj.out.size))
            clear h5 o5
            go_wp2_with fail
            exact ⟨⟨j + 1, by go_num, by omega, HT5.out, HD5.out, HB5.out⟩, by simp [intOf]; omega⟩
          · obtain rfl : j = m := by omega
            go_wp2_with fail
            refine (tTick_any HTj.out).mono ?_
            rintro e w5 ⟨rfl, h5, o5⟩
            have HT5 := Lib.hid h5
            have HD5 := Lib.hid (HDj.out.turnB HTj.out o5)
            have HB5 := Lib.hid (HBj.out.trans (o5.lo (fun k e => by omega) HBj.out.size))
            have hwy : IntKind.i64.wrap y = y := by rw [IntKind.wrap_i64]; omega
            obtain ⟨t, ht⟩ : ∃ t, y.tmod 12 = t := ⟨_, rfl⟩
            have ht12 : 0 ≤ t ∧ t < 12 := by
              rw [← ht, Int.tmod_eq_emod_of_nonneg (by omega)]
              omega
            have HOF := Lib.hid (tof_any h5 t ht12)
            clear h5 o5 ht12
            go_wp2_with fail
            refine HOF.out.mono ?_
            rintro e w6 ⟨⟨o, ho4, rfl⟩, rfl⟩
            clear ht
            go_wp2_with fail
            have HTo := HT5; have HDo := HD5; have HBo := HB5
            obtain ⟨wx, hwx⟩ : ∃ wx, wx = w5 := ⟨w5, rfl⟩
            go_loopw [14, 15] (fun s14 s15 wr => ∃ q : Nat, s15 = .int .i64 q ∧ q ≤ j ∧ s14 = .bool (decide ((o : Int) ∈ d.take q)) ∧ wr = w5) (fun _ i _ => j - (intOf i).toNat)
            case atStart => exact ⟨0, rfl, Nat.zero_le _, by simp, rfl⟩
            case round =>
              obtain ⟨q, rfl, hq, rfl, rfl⟩ := hrel
              by_cases hqm : q < j
              · obtain ⟨g2, off2, rfl, hc⟩ := (IntsAt.in' HDo.out).2.resolve_left (by omega)
                have c0 := hc q hqm
                have hqd : q < d.length := by rw [HM.out]; exact hqm
                have HTK := Lib.hid (take_snoc d q hqd)
                obtain ⟨x, hx⟩ : ∃ x, d.getD q 0 = x := ⟨_, rfl⟩
                rw [hx] at c0 HTK
                have hw1 : IntKind.i64.wrap ((q : Int) + 1) = (q : Int) + 1 := by rw [IntKind.wrap_i64]; omega
                clear hc hx
                cases hmem : decide ((o : Int) ∈ d.take q)
                · have hnm : ¬ (o : Int) ∈ d.take q := by simpa using hmem
                  cases hxo : (x == (o : Int))
                  · have HR := Lib.hid (show decide ((o : Int) ∈ d.take (q + 1)) = false from by
                      rw [HTK.out]
                      have : ¬ x = (o : Int) := by simpa using hxo
                      simp [hnm]
                      exact fun e => this e.symm)
                    clear hnm hmem
                    go_wp2_with fail
                    exact ⟨⟨q + 1, by go_num, by omega, by rw [HR.out], trivial⟩, by simp [intOf]; omega⟩
                  · have HR := Lib.hid (show decide ((o : Int) ∈ d.take (q + 1)) = true from by
                      rw [HTK.out]
                      have : x = (o : Int) := by simpa using hxo
                      simp [this])
                    clear hnm hmem
                    go_wp2_with fail
                    exact ⟨⟨q + 1, by go_num, by omega, by rw [HR.out], trivial⟩, by simp [intOf]; omega⟩
                · have HR := Lib.hid (show decide ((o : Int) ∈ d.take (q + 1)) = true from by
                    rw [HTK.out]
                    have : (o : Int) ∈ d.take q := by simpa using hmem
                    simp [this])
                  clear hmem
                  go_wp2_with fail
                  exact ⟨⟨q + 1, by go_num, by omega, by rw [HR.out], trivial⟩, by simp [intOf]; omega⟩
              · obtain rfl : q = j := by omega
                have htk : d.take q = d := List.take_of_length_le (by rw [HM.out]; exact Nat.le_refl _)
                rw [htk]
                cases hmine : decide ((o : Int) ∈ d)
                case false =>
                  have HX1 := Lib.hid (show W1 (d.take q) o = 0 from by
                    rw [htk]
                    unfold W1
                    first | rw [if_pos (of_decide_eq_true hmine)] | rw [if_neg (of_decide_eq_false hmine)])
                  have HX2 := Lib.hid (show W2 d (d.take q) o = 0 from by
                    have h2 := W2_full d o
                    rw [HM.out] at h2
                    rw [h2]
                    first | rw [if_pos (of_decide_eq_true hmine)] | rw [if_neg (of_decide_eq_false hmine)])
                  clear hmine htk
                  go_wp2_with fail
                  refine (word_any' HTo.out ho4 0 HX1.out).mono ?_
                  rintro e w7 ⟨rfl, rfl⟩
                  go_wp2_with fail
                  refine (passes_r _ 0 1 0 (by decide) true (by decide)).mono ?_
                  rintro e w8 ⟨rfl, l8⟩
                  have HT8 := Lib.hid (show TAt w8 b g 1 (W2 d (d.take 0)) from by
                    rw [W2_zero, HM.out]
                    exact HTo.out.below l8)
                  have HD8 := Lib.hid (HDo.out.below l8)
                  have HB8 := Lib.hid (btrans HBo.out (Nat.le_refl _) l8)
                  clear l8
                  go_wp2_with fail
                  obtain ⟨wp, rfl⟩ : ∃ wp, wp = wr := ⟨wr, rfl⟩
                  go_loopw [19] (fun i wr => ∃ p : Nat, i = .int .i64 p ∧ p ≤ q ∧ TAt wr b g 1 (W2 d (d.take p)) ∧ IntsAt w.heap.size wr (.slice a2 q c2) d ∧ Below w.heap.size w wr) (fun i _ => q - (intOf i).toNat)
                  case atStart => exact ⟨0, rfl, Nat.zero_le _, HT8.out, HD8.out, HB8.out⟩
                  case round =>
                    obtain ⟨p, rfl, hp, hTp, hDp, hBp⟩ := hrel
                    have HTp := Lib.hid hTp; have HDp := Lib.hid hDp; have HBp := Lib.hid hBp
                    clear hTp hDp hBp
                    by_cases hpm : p < q
                    · obtain ⟨g2, off2, rfl, hc⟩ := (IntsAt.in' HDp.out).2.resolve_left (by omega)
                      have c0 := hc p hpm
                      have hpd : p < d.length := by rw [HM.out]; exact hpm
                      obtain ⟨s, hs4, hs⟩ := H4.out _ (getD_mem hpd)
                      rw [hs] at c0
                      have HLK := Lib.hid (tunlock_any HTp.out hs4 (W2_at HSd.out hpd hs))
                      have HST := Lib.hid (W2_step hpd hs)
                      have hw1 : IntKind.i64.wrap ((p : Int) + 1) = (p : Int) + 1 := by rw [IntKind.wrap_i64]; omega
                      clear hc hs
                      go_wp2_with fail
                      refine HLK.out.mono ?_
                      rintro e w9 ⟨rfl, h9, o9⟩
                      rw [HST.out] at h9
                      have HT9 := Lib.hid h9
                      have HD9 := Lib.hid (HDp.out.turn HTp.out o9)
                      have HB9 := Lib.hid (HBp.out.trans (o9.lo (fun k e => by omega) HBp.out.size))
                      clear h9 o9
                      go_wp2_with fail
                      exact ⟨⟨p + 1, by go_num, by omega, HT9.out, HD9.out, HB9.out⟩, by simp [intOf]; omega⟩
                    · obtain rfl : p = q := by omega
                      have HNB := Lib.hid (nobody_full d)
                      go_wp2_with fail
                      refine (word_any' HTp.out ho4 0 HX2.out).mono ?_
                      rintro e wa ⟨rfl, rfl⟩
                      go_wp2_with fail
                      refine (passes_r _ 0 1 0 (by decide) true (by decide)).mono ?_
                      rintro e wb ⟨rfl, lb⟩
                      have HTb := Lib.hid (HTp.out.below lb); have HBb := Lib.hid (btrans HBp.out (Nat.le_refl _) lb)
                      clear lb
                      go_wp2_with fail
                      refine (clock_any HTb.out).mono ?_
                      rintro e wc ⟨rfl, rfl⟩
                      go_wp2_with fail
                      refine (passes_r _ 0 1 1 (by decide) true (by decide)).mono ?_
                      rintro e wd ⟨rfl, ld⟩
                      have HTd := Lib.hid (HTb.out.below ld); have HBd := Lib.hid (btrans HBb.out (Nat.le_refl _) ld)
                      clear ld
                      go_wp2_with fail
                      refine (held_any' HTd.out (by rw [← HM.out]; exact HNB.out)).mono ?_
                      rintro e we ⟨rfl, le⟩
                      have HBe := Lib.hid (btrans HBd.out (Nat.le_refl _) le)
                      clear le
                      go_wp2_with fail
                      go_ret
                      exact ⟨rfl, HBe.out⟩
                case true =>
                  have HX1 := Lib.hid (show W1 (d.take q) o = 1 from by
                    rw [htk]
                    unfold W1
                    first | rw [if_pos (of_decide_eq_true hmine)] | rw [if_neg (of_decide_eq_false hmine)])
                  have HX2 := Lib.hid (show W2 d (d.take q) o = 32 from by
                    have h2 := W2_full d o
                    rw [HM.out] at h2
                    rw [h2]
                    first | rw [if_pos (of_decide_eq_true hmine)] | rw [if_neg (of_decide_eq_false hmine)])
                  clear hmine htk
                  go_wp2_with fail
                  refine (word_any' HTo.out ho4 1 HX1.out).mono ?_
                  rintro e w7 ⟨rfl, rfl⟩
                  go_wp2_with fail
                  refine (passes_r _ 1 1 0 (by decide) false (by decide)).mono ?_
                  rintro e w8 ⟨rfl, l8⟩
                  have HT8 := Lib.hid (show TAt w8 b g 1 (W2 d (d.take 0)) from by
                    rw [W2_zero, HM.out]
                    exact HTo.out.below l8)
                  have HD8 := Lib.hid (HDo.out.below l8)
                  have HB8 := Lib.hid (btrans HBo.out (Nat.le_refl _) l8)
                  clear l8
                  go_wp2_with fail
                  obtain ⟨wp, rfl⟩ : ∃ wp, wp = wr := ⟨wr, rfl⟩
                  go_loopw [19] (fun i wr => ∃ p : Nat, i = .int .i64 p ∧ p ≤ q ∧ TAt wr b g 1 (W2 d (d.take p)) ∧ IntsAt w.heap.size wr (.slice a2 q c2) d ∧ Below w.heap.size w wr) (fun i _ => q - (intOf i).toNat)
                  case atStart => exact ⟨0, rfl, Nat.zero_le _, HT8.out, HD8.out, HB8.out⟩
                  case round =>
                    obtain ⟨p, rfl, hp, hTp, hDp, hBp⟩ := hrel
                    have HTp := Lib.hid hTp; have HDp := Lib.hid hDp; have HBp := Lib.hid hBp
                    clear hTp hDp hBp
                    by_cases hpm : p < q
                    · obtain ⟨g2, off2, rfl, hc⟩ := (IntsAt.in' HDp.out).2.resolve_left (by omega)
                      have c0 := hc p hpm
                      have hpd : p < d.length := by rw [HM.out]; exact hpm
                      obtain ⟨s, hs4, hs⟩ := H4.out _ (getD_mem hpd)
                      rw [hs] at c0
                      have HLK := Lib.hid (tunlock_any HTp.out hs4 (W2_at HSd.out hpd hs))
                      have HST := Lib.hid (W2_step hpd hs)
                      have hw1 : IntKind.i64.wrap ((p : Int) + 1) = (p : Int) + 1 := by rw [IntKind.wrap_i64]; omega
                      clear hc hs
                      go_wp2_with fail
                      refine HLK.out.mono ?_
                      rintro e w9 ⟨rfl, h9, o9⟩
                      rw [HST.out] at h9
                      have HT9 := Lib.hid h9
                      have HD9 := Lib.hid (HDp.out.turn HTp.out o9)
                      have HB9 := Lib.hid (HBp.out.trans (o9.lo (fun k e => by omega) HBp.out.size))
                      clear h9 o9
                      go_wp2_with fail
                      exact ⟨⟨p + 1, by go_num, by omega, HT9.out, HD9.out, HB9.out⟩, by simp [intOf]; omega⟩
                    · obtain rfl : p = q := by omega
                      have HNB := Lib.hid (nobody_full d)
                      go_wp2_with fail
                      refine (word_any' HTp.out ho4 32 HX2.out).mono ?_
                      rintro e wa ⟨rfl, rfl⟩
                      go_wp2_with fail
                      refine (passes_r _ 32 1 0 (by decide) false (by decide)).mono ?_
                      rintro e wb ⟨rfl, lb⟩
                      have HTb := Lib.hid (HTp.out.below lb); have HBb := Lib.hid (btrans HBp.out (Nat.le_refl _) lb)
                      clear lb
                      go_wp2_with fail
                      refine (clock_any HTb.out).mono ?_
                      rintro e wc ⟨rfl, rfl⟩
                      go_wp2_with fail
                      refine (passes_r _ 32 1 1 (by decide) true (by decide)).mono ?_
                      rintro e wd ⟨rfl, ld⟩
                      have HTd := Lib.hid (HTb.out.below ld); have HBd := Lib.hid (btrans HBb.out (Nat.le_refl _) ld)
                      clear ld
                      go_wp2_with fail
                      refine (held_any' HTd.out (by rw [← HM.out]; exact HNB.out)).mono ?_
                      rintro e we ⟨rfl, le⟩
                      have HBe := Lib.hid (btrans HBd.out (Nat.le_refl _) le)
                      clear le
                      go_wp2_with fail
                      go_ret
                      exact ⟨rfl, HBe.out⟩
end Go.Proofs.Ytboofagdcohgnaa.Tgu
