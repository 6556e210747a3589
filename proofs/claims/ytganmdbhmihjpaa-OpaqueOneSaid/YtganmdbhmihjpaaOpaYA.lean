/- An attempt that is alone, and read what stood in the heap, is legal; one that read another value is not. -/
import Derived.Test.YtganmdbhmihjpaaOpaY
namespace Go.Proofs.Ytganmdbhmihjpaa.Opa
open Go.RowKit Go.Proofs.Ytganmdbhmihjpaa.Wri Go.Proofs.Ytganmdbhmihjpaa.His Go.ChangeShapes Go.WideShapes Go.ChangeAt
set_option linter.unusedSimpArgs false
set_option linter.unusedVariables false
set_option maxRecDepth 50000

theorem canon_snoc (us : List Int) {k : Nat} (h : k < us.length) : (us.take (k + 1)).map canonL = (us.take k).map canonL ++ [canonL (us.getD k 0)] := by
  rw [take_snoc us k h, List.map_append]
  rfl
theorem valsAt_len {B : Nat} {w : World} {v : Value} {N : Nat} {ts : List Int} (h : w.ownsRow B 36 1 v N (valVals ts)) (hl : ts.length = N) : ∃ a c, v = .slice a N c ∧ ValsIn w a N ts := by
  subst hl
  exact ValsAt.open h
set_option maxHeartbeats 12800000 in
theorem one_law {H : Type} (enc : TypeId × Value → H) (w : World) (a : Option Addr) (len cap : Nat) (h : Fits enc Try.prog w 23 [.slice a len cap]) (x0 : Int) (hx0 : (Lit.int .u8 x0).wf = true) (x1 : Int) (hx1 : (Lit.int .u64 x1).wf = true) :
    Calls Try.prog 4 #[.slice a len cap, .int .u8 x0, .int .u64 x1] w fun e w' => e = .returned (.bool true) ∧ Below w.heap.size w w' := by
  obtain ⟨i0, hi, hz0, hz1, hz2⟩ := info_parts infoV
  obtain ⟨vs, hvs, hu, hm1, _⟩ := vals_of h
  have hcap := (fits_cap h Try.underlying23).1
  have b0 := bounds_u8 hx0
  have b1 := bounds_u64 hx1
  have HU1 := Lib.hid (show U64 x1 from ⟨by omega, by omega⟩)
  by_cases h12 : 12 < len
  · have HV0 := Lib.hid (vals_take hvs (show 12 ≤ len by omega))
    have HUU := Lib.hid (show ∀ v ∈ vs.take 12, U64 v from fun v hv => hu v (List.mem_of_mem_take hv))
    have h12' : (12 : Int) < len := by omega
    have h12c : (12 : Int) ≤ cap := by omega
    obtain ⟨us, hus⟩ : ∃ us, vs.take 12 = us := ⟨_, rfl⟩
    rw [hus] at HV0 HUU
    clear h hvs hu hm1 hcap hus hx0 hx1 b1
    obtain ⟨b, off, rfl, hcc⟩ := HV0.out.2.resolve_left (by decide)
    have HCC := Lib.hid hcc
    clear hcc
    go_enter Try.func4, Try.ntmps4
    go_wp2_with fail
    go_loopw [7, 8] (fun v i wr => ∃ k : Nat, i = .int .i64 k ∧ k ≤ 12 ∧ wr.ownsRow w.heap.size 36 1 v k (valVals ((us.take k).map canonL)) ∧ Below w.heap.size w wr) (fun _ i _ => 12 - (intOf i).toNat)
    case atStart => exact ⟨0, rfl, Nat.zero_le _, World.ownsRow_nil _ _ _ _, Below.refl _ _⟩
    case round =>
      obtain ⟨k, rfl, hk, hV, hB⟩ := hrel
      have HV := Lib.hid hV; have HB := Lib.hid hB
      have hszr := hB.size
      clear hV hB
      by_cases hlt : k < 12
      · skip
        have c0 := bkeep HB.out (HCC.out k hlt)
        have hS := canon_snoc us (k := k) (by rw [HV0.out.1]; exact hlt)
        have hm : us.getD k 0 ∈ us := by
          rw [List.getD_eq_getElem?_getD, List.getElem?_eq_getElem (by rw [HV0.out.1]; exact hlt)]
          exact List.getElem_mem _
        have hux := HUU.out _ hm
        obtain ⟨t, ht⟩ : ∃ t, us.getD k 0 = t := ⟨_, rfl⟩
        rw [ht] at c0 hS hux
        have HS := Lib.hid hS
        have HCN := Lib.hid (rcanon_any wr t hux)
        have hlt' : (k : Int) < 12 := by omega
        have hw1 : IntKind.i64.wrap ((k : Int) + 1) = (k : Int) + 1 := by rw [IntKind.wrap_i64]; omega
        clear hS hm hux ht 
        go_wp2_with fail
        refine HCN.out.mono ?_
        rintro e w1 ⟨rfl, rfl⟩
        go_wp2_with (at_builtin; refine wpList_append_own _ rfl _ _ 23 rfl w.heap.size 36 i0 (.int .u64 0) 1 8 Try.underlying23 hi hz0 hz1 hz2 rfl (by decide) _ k (valVals ((us.take k).map canonL)) rfl (ownsRow_only HV.out (Only.empty (show Below wr.heap.size wr (wr.alloc (.cells #[.int .u64 (canonL t)] 36)) from by repeat (first | (with_reducible exact Below.refl _ _) | (with_reducible apply Below.drew) | (with_reducible refine below_drewN ?_ _) | (with_reducible refine below_alloc' ?_ ?_ _; (focus ((try simp) <;> omega))) | (with_reducible refine below_set' ?_ ?_ _; (focus ((try simp) <;> omega))))) (Nat.le_refl _)) (fun _ _ h => h)) ⟨wr.heap.size, 0, none⟩ 1 1 [.int .u64 (canonL t)] rfl rfl ?c1 ?c2 ?c3 ?c4 ?c5 ?_)
        case c1 =>
          intro j u hu
          rw [Addr.add_lit, Nat.zero_add, blk_cell (blk_new wr _) j]
          simpa using hu
        case c2 =>
          intro u hu
          simp at hu
          subst hu
          rfl
        case c3 => unfold maxLen; omega
        case c4 => omega
        case c5 => simp; omega
        intro v' w2 hown hgr _
        have hB2 : Below w.heap.size w w2 := (HB.out.alloc hszr _).grown hgr (by simp; omega) (fun k hk => (World.ownsRow.lt HV.out k hk).1)
        have HB2 := Lib.hid hB2
        have HP2 := Lib.hid (show w2.ownsRow w.heap.size 36 1 v' (k + 1) (valVals ((us.take (k + 1)).map canonL)) from by
          rw [HS.out]
          simpa [valVals] using hown)
        clear hown hgr hB2
        go_wp2_with fail
        exact ⟨⟨k + 1, by go_num, by omega, HP2.out, HB2.out⟩, by simp [intOf] <;> omega⟩
      · obtain rfl : 12 = k := by omega
        have hv := HV.out
        rw [List.take_of_length_le (by rw [HV0.out.1]; exact Nat.le_refl _)] at hv
        obtain ⟨ha, hc, rfl, hin⟩ := valsAt_len hv (by rw [List.length_map, HV0.out.1])
        have HIN := Lib.hid hin
        obtain ⟨hs, hhs⟩ : ∃ hs, us.map canonL = hs := ⟨_, rfl⟩
        have HR := Lib.hid (show ∀ x ∈ hs, rightVal x = true by
          intro x hx
          rw [← hhs] at hx
          obtain ⟨y, _, rfl⟩ := List.mem_map.1 hx
          exact canon_right y)
        have HHU := Lib.hid (show ∀ x ∈ hs, U64 x by
          intro x hx
          rw [← hhs] at hx
          obtain ⟨y, hy, rfl⟩ := List.mem_map.1 hx
          exact canon_u64 (HUU.out y hy))
        rw [hhs] at HIN
        clear hv hin HV hhs
        obtain ⟨gb, go, rfl, hcell⟩ := HIN.out.2.resolve_left (by omega)
        obtain ⟨kk, hkk, hkn⟩ : ∃ kk : Nat, x0 % 12 = kk ∧ kk < 12 := ⟨(x0 % 12).toNat, by
          have h1 := Int.emod_nonneg x0 (show (12 : Int) ≠ 0 by omega)
          omega, by
          have h1 := Int.emod_nonneg x0 (show (12 : Int) ≠ 0 by omega)
          have h2 := Int.emod_lt_of_pos x0 (show 0 < (12 : Int) by omega)
          omega⟩
        have HCELL := Lib.hid (hcell kk hkn)
        have hM0 : (0 : Int) < 12 := by omega
        have HKK := Lib.hid hkk
        clear hcell hkk
        go_wp2_with fail
        refine (rcanon_any wr x1 HU1.out).mono ?_
        rintro e w3 ⟨rfl, rfl⟩
        rw [HKK.out]
        have hcu := canon_u64 HU1.out
        have hcr := canon_right x1
        obtain ⟨cv, hcv⟩ : ∃ cv, canonL x1 = cv := ⟨_, rfl⟩
        rw [hcv] at hcu hcr ⊢
        have HCU := Lib.hid hcu; have HCR := Lib.hid hcr
        clear hcv hcu hcr HU1
        go_wp2_with fail
        obtain ⟨W2, hW2⟩ : ∃ W2, (wr.alloc (.cells (evVals (O2 kk cv)).toArray 40)).alloc (.cells #[.int .i64 3] 3) = W2 := ⟨_, rfl⟩
        have lW2 : Below wr.heap.size wr W2 := by rw [← hW2]; repeat (first | (with_reducible exact Below.refl _ _) | (with_reducible apply Below.drew) | (with_reducible refine below_drewN ?_ _) | (with_reducible refine below_alloc' ?_ ?_ _; (focus ((try simp) <;> omega))) | (with_reducible refine below_set' ?_ ?_ _; (focus ((try simp) <;> omega))))
        have hbe : W2.heap[wr.heap.size]? = some (.cells (evVals (O2 kk cv)).toArray 40 (0, 0)) := by rw [← hW2]; simp [↓heap_alloc_eq, ↓heap_set_eq, ↓heap_drew_eq, ↓heap_drewN_eq, setObj, size_drewN]
        have hbi : W2.heap[wr.heap.size + 1]? = some (.cells #[.int .i64 3] 3 (0, 0)) := by rw [← hW2]; simp [↓heap_alloc_eq, ↓heap_set_eq, ↓heap_drew_eq, ↓heap_drewN_eq, setObj, size_drewN]
        have hA : Asked W2 (some ⟨wr.heap.size, 0, none⟩) 2 2 (O2 kk cv) (some ⟨gb, go, none⟩) 12 hc hs none 0 0 [] :=
          ⟨O2_in hbe, O2_ok ⟨by omega, by omega⟩ HCU.out, by omega, HIN.out.below lW2, HHU.out, by omega, (fun e => by cases e), ⟨rfl, .inl rfl⟩, by omega, Nat.le_refl _⟩
        have hg := legal_any hA (some ⟨wr.heap.size + 1, 0, none⟩) 1 1 [3] (int3_in hbi) (by decide) (Nat.le_refl _)
        have HL3 := Lib.hid (btrans HB.out (Nat.le_refl _) lW2)
        have HC3 := Lib.hid (bkeep lW2 HCELL.out)
        refine (show Calls Try.prog 10 #[.slice (some ⟨wr.heap.size, 0, none⟩) 2 2, .slice (some ⟨gb, go, none⟩) 12 hc, .slice (some ⟨wr.heap.size + 1, 0, none⟩) 1 1, .slice none 0 0] ((wr.alloc (.cells (evVals (O2 kk cv)).toArray 40)).alloc (.cells #[.int .i64 3] 3)) _ from ?_)
        rw [hW2]
        have HRES := Lib.hid (one_legal (t := kk) (v := cv) (h := hs) (by omega) (by rw [HIN.out.1]; omega) (by rw [HIN.out.1]; omega) HCR.out HR.out)
        clear hW2 lW2 hbe hbi hA
        refine hg.mono ?_
        rintro e w4 ⟨rfl, l4⟩
        rw [HRES.out]
        obtain ⟨rr, hrr⟩ : ∃ rr, (legalL (O2 kk cv) hs [3] []).1 = rr := ⟨_, rfl⟩
        rw [hrr]
        have HL4 := Lib.hid (btrans HL3.out (Nat.le_refl _) l4)
        have HC4 := Lib.hid (bkeep l4 HC3.out)
        clear l4 hg hrr
        simp only [Int.toNat_natCast]
        by_cases he : cv = hs.getD kk 0
        · rw [if_pos he]
          rw [← he] at HC4
          have heq : (cv == cv) = true := by simp
          clear he
          go_wp2_with fail
          refine (live_any _).mono ?_
          rintro e w5 ⟨rfl, l5⟩
          have HL5 := Lib.hid (btrans HL4.out (Nat.le_refl _) l5)
          have c5 := bkeep l5 HC4.out
          clear l5
          go_wp2_with fail
          go_ret
          exact ⟨rfl, HL5.out⟩
        · rw [if_neg he]
          obtain ⟨dv, hdv⟩ : ∃ dv, hs.getD kk 0 = dv := ⟨_, rfl⟩
          rw [hdv] at HC4 he
          have heq : (cv == dv) = false := by simpa using he
          clear he hdv
          go_wp2_with fail
          refine (live_any _).mono ?_
          rintro e w5 ⟨rfl, l5⟩
          have HL5 := Lib.hid (btrans HL4.out (Nat.le_refl _) l5)
          have c5 := bkeep l5 HC4.out
          clear l5
          go_wp2_with fail
          go_ret
          exact ⟨rfl, HL5.out⟩
  · have HV0 := Lib.hid hvs
    have HUU := Lib.hid hu
    have h12' : ¬ (12 : Int) < len := by omega
    have hlm : len ≤ 12 := by omega
    obtain ⟨us, hus⟩ : ∃ us, vs = us := ⟨_, rfl⟩
    rw [hus] at HV0 HUU
    clear h hvs hu hm1 hcap hus hx0 hx1 b1
    go_enter Try.func4, Try.ntmps4
    go_wp2_with fail
    go_loopw [7, 8] (fun v i wr => ∃ k : Nat, i = .int .i64 k ∧ k ≤ len ∧ wr.ownsRow w.heap.size 36 1 v k (valVals ((us.take k).map canonL)) ∧ Below w.heap.size w wr) (fun _ i _ => len - (intOf i).toNat)
    case atStart => exact ⟨0, rfl, Nat.zero_le _, World.ownsRow_nil _ _ _ _, Below.refl _ _⟩
    case round =>
      obtain ⟨k, rfl, hk, hV, hB⟩ := hrel
      have HV := Lib.hid hV; have HB := Lib.hid hB
      have hszr := hB.size
      clear hV hB
      by_cases hlt : k < len
      · obtain ⟨b, off, rfl, hcc⟩ := HV0.out.2.resolve_left (by omega)
        have c0 := bkeep HB.out (hcc k hlt)
        have hS := canon_snoc us (k := k) (by rw [HV0.out.1]; exact hlt)
        have hm : us.getD k 0 ∈ us := by
          rw [List.getD_eq_getElem?_getD, List.getElem?_eq_getElem (by rw [HV0.out.1]; exact hlt)]
          exact List.getElem_mem _
        have hux := HUU.out _ hm
        obtain ⟨t, ht⟩ : ∃ t, us.getD k 0 = t := ⟨_, rfl⟩
        rw [ht] at c0 hS hux
        have HS := Lib.hid hS
        have HCN := Lib.hid (rcanon_any wr t hux)
        have hlt' : (k : Int) < (len : Int) := by omega
        have hw1 : IntKind.i64.wrap ((k : Int) + 1) = (k : Int) + 1 := by rw [IntKind.wrap_i64]; omega
        clear hS hm hux ht hcc
        go_wp2_with fail
        refine HCN.out.mono ?_
        rintro e w1 ⟨rfl, rfl⟩
        go_wp2_with (at_builtin; refine wpList_append_own _ rfl _ _ 23 rfl w.heap.size 36 i0 (.int .u64 0) 1 8 Try.underlying23 hi hz0 hz1 hz2 rfl (by decide) _ k (valVals ((us.take k).map canonL)) rfl (ownsRow_only HV.out (Only.empty (show Below wr.heap.size wr (wr.alloc (.cells #[.int .u64 (canonL t)] 36)) from by repeat (first | (with_reducible exact Below.refl _ _) | (with_reducible apply Below.drew) | (with_reducible refine below_drewN ?_ _) | (with_reducible refine below_alloc' ?_ ?_ _; (focus ((try simp) <;> omega))) | (with_reducible refine below_set' ?_ ?_ _; (focus ((try simp) <;> omega))))) (Nat.le_refl _)) (fun _ _ h => h)) ⟨wr.heap.size, 0, none⟩ 1 1 [.int .u64 (canonL t)] rfl rfl ?c1 ?c2 ?c3 ?c4 ?c5 ?_)
        case c1 =>
          intro j u hu
          rw [Addr.add_lit, Nat.zero_add, blk_cell (blk_new wr _) j]
          simpa using hu
        case c2 =>
          intro u hu
          simp at hu
          subst hu
          rfl
        case c3 => unfold maxLen; omega
        case c4 => omega
        case c5 => simp; omega
        intro v' w2 hown hgr _
        have hB2 : Below w.heap.size w w2 := (HB.out.alloc hszr _).grown hgr (by simp; omega) (fun k hk => (World.ownsRow.lt HV.out k hk).1)
        have HB2 := Lib.hid hB2
        have HP2 := Lib.hid (show w2.ownsRow w.heap.size 36 1 v' (k + 1) (valVals ((us.take (k + 1)).map canonL)) from by
          rw [HS.out]
          simpa [valVals] using hown)
        clear hown hgr hB2
        go_wp2_with fail
        exact ⟨⟨k + 1, by go_num, by omega, HP2.out, HB2.out⟩, by simp [intOf] <;> omega⟩
      · obtain rfl : len = k := by omega
        have hv := HV.out
        rw [List.take_of_length_le (by rw [HV0.out.1]; exact Nat.le_refl _)] at hv
        obtain ⟨ha, hc, rfl, hin⟩ := valsAt_len hv (by rw [List.length_map, HV0.out.1])
        have HIN := Lib.hid hin
        obtain ⟨hs, hhs⟩ : ∃ hs, us.map canonL = hs := ⟨_, rfl⟩
        have HR := Lib.hid (show ∀ x ∈ hs, rightVal x = true by
          intro x hx
          rw [← hhs] at hx
          obtain ⟨y, _, rfl⟩ := List.mem_map.1 hx
          exact canon_right y)
        have HHU := Lib.hid (show ∀ x ∈ hs, U64 x by
          intro x hx
          rw [← hhs] at hx
          obtain ⟨y, hy, rfl⟩ := List.mem_map.1 hx
          exact canon_u64 (HUU.out y hy))
        rw [hhs] at HIN
        clear hv hin HV hhs
        by_cases hz : len = 0
        · subst hz
          go_wp2_with fail
          refine (live_any _).mono ?_
          rintro e w5 ⟨rfl, l5⟩
          have HL5 := Lib.hid (btrans HB.out (Nat.le_refl _) l5)
          clear l5
          go_wp2_with fail
          go_ret
          exact ⟨rfl, HL5.out⟩
        · have hz' : ((len : Int) == 0) = false := by simp; omega
          obtain ⟨gb, go, rfl, hcell⟩ := HIN.out.2.resolve_left (by omega)
          obtain ⟨kk, hkk, hkn⟩ : ∃ kk : Nat, x0 % (len : Int) = kk ∧ kk < len := ⟨(x0 % (len : Int)).toNat, by
            have h1 := Int.emod_nonneg x0 (show ((len : Int) : Int) ≠ 0 by omega)
            omega, by
            have h1 := Int.emod_nonneg x0 (show ((len : Int) : Int) ≠ 0 by omega)
            have h2 := Int.emod_lt_of_pos x0 (show 0 < ((len : Int) : Int) by omega)
            omega⟩
          have HCELL := Lib.hid (hcell kk hkn)
          have hM0 : (0 : Int) < (len : Int) := by omega
          have HKK := Lib.hid hkk
          clear hcell hkk
          go_wp2_with fail
          refine (rcanon_any wr x1 HU1.out).mono ?_
          rintro e w3 ⟨rfl, rfl⟩
          rw [HKK.out]
          have hcu := canon_u64 HU1.out
          have hcr := canon_right x1
          obtain ⟨cv, hcv⟩ : ∃ cv, canonL x1 = cv := ⟨_, rfl⟩
          rw [hcv] at hcu hcr ⊢
          have HCU := Lib.hid hcu; have HCR := Lib.hid hcr
          clear hcv hcu hcr HU1
          go_wp2_with fail
          obtain ⟨W2, hW2⟩ : ∃ W2, (wr.alloc (.cells (evVals (O2 kk cv)).toArray 40)).alloc (.cells #[.int .i64 3] 3) = W2 := ⟨_, rfl⟩
          have lW2 : Below wr.heap.size wr W2 := by rw [← hW2]; repeat (first | (with_reducible exact Below.refl _ _) | (with_reducible apply Below.drew) | (with_reducible refine below_drewN ?_ _) | (with_reducible refine below_alloc' ?_ ?_ _; (focus ((try simp) <;> omega))) | (with_reducible refine below_set' ?_ ?_ _; (focus ((try simp) <;> omega))))
          have hbe : W2.heap[wr.heap.size]? = some (.cells (evVals (O2 kk cv)).toArray 40 (0, 0)) := by rw [← hW2]; simp [↓heap_alloc_eq, ↓heap_set_eq, ↓heap_drew_eq, ↓heap_drewN_eq, setObj, size_drewN]
          have hbi : W2.heap[wr.heap.size + 1]? = some (.cells #[.int .i64 3] 3 (0, 0)) := by rw [← hW2]; simp [↓heap_alloc_eq, ↓heap_set_eq, ↓heap_drew_eq, ↓heap_drewN_eq, setObj, size_drewN]
          have hA : Asked W2 (some ⟨wr.heap.size, 0, none⟩) 2 2 (O2 kk cv) (some ⟨gb, go, none⟩) len hc hs none 0 0 [] :=
            ⟨O2_in hbe, O2_ok ⟨by omega, by omega⟩ HCU.out, by omega, HIN.out.below lW2, HHU.out, by omega, (fun e => by cases e), ⟨rfl, .inl rfl⟩, by omega, Nat.le_refl _⟩
          have hg := legal_any hA (some ⟨wr.heap.size + 1, 0, none⟩) 1 1 [3] (int3_in hbi) (by decide) (Nat.le_refl _)
          have HL3 := Lib.hid (btrans HB.out (Nat.le_refl _) lW2)
          have HC3 := Lib.hid (bkeep lW2 HCELL.out)
          refine (show Calls Try.prog 10 #[.slice (some ⟨wr.heap.size, 0, none⟩) 2 2, .slice (some ⟨gb, go, none⟩) len hc, .slice (some ⟨wr.heap.size + 1, 0, none⟩) 1 1, .slice none 0 0] ((wr.alloc (.cells (evVals (O2 kk cv)).toArray 40)).alloc (.cells #[.int .i64 3] 3)) _ from ?_)
          rw [hW2]
          have HRES := Lib.hid (one_legal (t := kk) (v := cv) (h := hs) (by omega) (by rw [HIN.out.1]; omega) (by rw [HIN.out.1]; omega) HCR.out HR.out)
          clear hW2 lW2 hbe hbi hA
          refine hg.mono ?_
          rintro e w4 ⟨rfl, l4⟩
          rw [HRES.out]
          obtain ⟨rr, hrr⟩ : ∃ rr, (legalL (O2 kk cv) hs [3] []).1 = rr := ⟨_, rfl⟩
          rw [hrr]
          have HL4 := Lib.hid (btrans HL3.out (Nat.le_refl _) l4)
          have HC4 := Lib.hid (bkeep l4 HC3.out)
          clear l4 hg hrr
          simp only [Int.toNat_natCast]
          by_cases he : cv = hs.getD kk 0
          · rw [if_pos he]
            rw [← he] at HC4
            have heq : (cv == cv) = true := by simp
            clear he
            go_wp2_with fail
            refine (live_any _).mono ?_
            rintro e w5 ⟨rfl, l5⟩
            have HL5 := Lib.hid (btrans HL4.out (Nat.le_refl _) l5)
            have c5 := bkeep l5 HC4.out
            clear l5
            go_wp2_with fail
            go_ret
            exact ⟨rfl, HL5.out⟩
          · rw [if_neg he]
            obtain ⟨dv, hdv⟩ : ∃ dv, hs.getD kk 0 = dv := ⟨_, rfl⟩
            rw [hdv] at HC4 he
            have heq : (cv == dv) = false := by simpa using he
            clear he hdv
            go_wp2_with fail
            refine (live_any _).mono ?_
            rintro e w5 ⟨rfl, l5⟩
            have HL5 := Lib.hid (btrans HL4.out (Nat.le_refl _) l5)
            have c5 := bkeep l5 HC4.out
            clear l5
            go_wp2_with fail
            go_ret
            exact ⟨rfl, HL5.out⟩
end Go.Proofs.Ytganmdbhmihjpaa.Opa
