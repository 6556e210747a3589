/- The real side: the first of an order that can't come. -/
import Derived.Test.YtganmdbhmihjpaaGreatOpaK
namespace Go.Proofs.YtganmdbhmihjpaaGreat.Opa
open Go.RowKit Go.Proofs.YtganmdbhmihjpaaGreat.Wri Go.Proofs.YtganmdbhmihjpaaGreat.His
set_option linter.unusedSimpArgs false
set_option linter.unusedVariables false
set_option maxRecDepth 50000

/-- the place of the first that can't come, and why; the heap behind -/
def firstL (l : List Ev) (f : Int → One) : List Int → Int → List Int → Int × Int × List Int
  | [], _, vs => (0, 0, vs)
  | n :: rest, i, vs => if rest.any (fun m => beforeL m n l false) then (i, 8, vs) else if fitsB (f n) vs then firstL l f rest (i + 1) (layL (f n) vs) else (i, 9, vs)
theorem of_num {l : List Ev} {C : List Int} {xs : List OneX} (e : xs.map (·.1) = onesOf l C) {x : OneX} (hx : x ∈ xs) : x.1 = oneOf l C x.1.num ∧ x.1.num ∈ attL l := by
  have : x.1 ∈ onesOf l C := by rw [← e]; exact List.mem_map_of_mem hx
  obtain ⟨n, hn, he⟩ := List.mem_map.1 this
  rw [← he]
  exact ⟨rfl, hn⟩
theorem has_num {l : List Ev} {C : List Int} {xs : List OneX} (e : xs.map (·.1) = onesOf l C) {n : Int} (hn : n ∈ attL l) : ∃ x ∈ xs, x.1.num = n := by
  have : oneOf l C n ∈ xs.map (·.1) := by rw [e]; exact List.mem_map_of_mem hn
  obtain ⟨x, hx, he⟩ := List.mem_map.1 this
  exact ⟨x, hx, by rw [he]; rfl⟩
theorem ones_len {l : List Ev} {C : List Int} {xs : List OneX} (e : xs.map (·.1) = onesOf l C) : xs.length = (attL l).length := by
  have := congrArg List.length e
  simpa [onesOf] using this
def FirstPost (w : World) (q : Nat) (p : Option Addr) (n c : Nat) (l : List Ev) (C : List Int) (av hv : Value) (R : Int × Int × List Int) (e : Ending) (w' : World) : Prop :=
  e = .returned (.tuple #[.int .i64 R.1, .int .i64 R.2.1]) ∧ Game w' q p n c l av hv (onesOf l C) R.2.2 ∧ Only (fun k => hv.ownBlock = some k) w w'
theorem inP_of {o : One} {vs : List Int} (h : fitsB o vs = true) : ∀ p ∈ o.writes, p.1 < vs.length := by
  unfold fitsB at h
  simp only [Bool.and_eq_true, List.all_eq_true] at h
  intro p hp
  simpa [inP] using h.1.2 p hp
set_option maxHeartbeats 12800000 in
theorem first_any {w : World} {q : Nat} {p : Option Addr} {n c : Nat} {l : List Ev} {C : List Int} {av hv : Value} {vs : List Int} (hG : Game w q p n c l av hv (onesOf l C) vs)
    (hn : n ≤ 400) (hok : ∀ t ∈ attL l, OneOk (oneOf l C t)) (hvl : vs.length ≤ 1000) (hal : (attL l).length ≤ 1000)
    (a : Option Addr) (m d : Nat) (order : List Int) (hO : ∀ W, Only (fun k => hv.ownBlock = some k) w W → IntsIn W a m order) (hm : m ≤ 1000) (hmd : m ≤ d) (hin : ∀ t ∈ order, t ∈ attL l) :
    Calls Tryz.prog 26 #[ptr q, .slice a m d] w (FirstPost w q p n c l C av hv (firstL l (oneOf l C) order 0 vs)) := by
  obtain ⟨R, hR⟩ : ∃ R, firstL l (oneOf l C) order 0 vs = R := ⟨_, rfl⟩
  rw [hR]
  have HR := Lib.hid hR; have HG := Lib.hid hG; have HOK := Lib.hid hok; have HO := Lib.hid hO; have HIN := Lib.hid hin
  have HLO := Lib.hid (hO w (Only.refl _ _)).1
  clear hR hG hok hO hin
  unfold FirstPost
  go_enter Tryz.func26, Tryz.ntmps26
  go_wp2_with fail
  go_loopw [13] (fun i wr => ∃ (k : Nat) (vs' : List Int), i = .int .i64 k ∧ k ≤ m ∧ Game wr q p n c l av hv (onesOf l C) vs' ∧ vs'.length = vs.length ∧ firstL l (oneOf l C) (order.drop k) k vs' = R ∧ Only (fun k => hv.ownBlock = some k) w wr) (fun i _ => m - (intOf i).toNat)
  case atStart => exact ⟨0, vs, rfl, Nat.zero_le _, HG.out, rfl, by simpa using HR.out, Only.refl _ _⟩
  case round =>
    obtain ⟨k, vs', rfl, hk, hGr, hvl', hF, hOr⟩ := hrel
    obtain ⟨wo, rfl⟩ : ∃ wo, wo = wr := ⟨wr, rfl⟩
    have HGR := Lib.hid hGr; have HOR := Lib.hid hOr; have HVL := Lib.hid hvl'
    by_cases hlt : k < m
    · have HI := Lib.hid (HO.out wo hOr)
      obtain ⟨b, off, rfl, hc⟩ := HI.out.2.resolve_left (by omega)
      have c0 := hc k hlt
      have hlt' : (k : Int) < m := by omega
      have hw1 : IntKind.i64.wrap ((k : Int) + 1) = ((k + 1 : Nat) : Int) := by rw [IntKind.wrap_i64]; omega
      have hdk : order.drop k = order.getD k 0 :: order.drop (k + 1) := by
        rw [List.drop_eq_getElem_cons (by rw [HLO.out]; exact hlt), List.getD_eq_getElem?_getD, List.getElem?_eq_getElem (by rw [HLO.out]; exact hlt)]; rfl
      rw [hdk] at hF
      have htm : order.getD k 0 ∈ attL l := HIN.out _ (by
        rw [List.getD_eq_getElem?_getD, List.getElem?_eq_getElem (by rw [HLO.out]; exact hlt)]; exact List.getElem_mem _)
      obtain ⟨t, ht⟩ : ∃ t, order.getD k 0 = t := ⟨_, rfl⟩
      rw [ht] at c0 hF htm
      have HF := Lib.hid hF; have HTM := Lib.hid htm
      have hm1 : ((k + 1 : Nat) : Int) ≤ m := by omega
      have hm2 : k + 1 ≤ m := by omega
      have hd2 : ((k + 1 : Nat) : Int) ≤ d := by omega
      have hd3 : k + 1 ≤ d := by omega
      clear hc hF htm hdk ht hGr hOr hvl'
      by_cases hkd : d = k + 1 <;> go_wp2_with fail
      all_goals
        have HKD := Lib.hid hkd
        clear hkd
        go_loopw [23] (fun i wr => ∃ j : Nat, i = .int .i64 j ∧ j ≤ m - (k + 1) ∧ (∀ y ∈ (order.drop (k + 1)).take j, beforeL y t l false = false) ∧ Below wo.heap.size wo wr) (fun i _ => (m - (k + 1)) - (intOf i).toNat)
        case atStart => exact ⟨0, rfl, Nat.zero_le _, by simp, Below.refl _ _⟩
        case round =>
          obtain ⟨j, rfl, hj, hno, hB⟩ := hrel
          have HNO := Lib.hid hno; have HB := Lib.hid hB
          clear hno hB
          by_cases hlt2 : j < m - (k + 1)
          · first
            | (exfalso; have hkd2 := HKD.out; omega; done)
            | (obtain ⟨b', off', hbe, hc⟩ := HI.out.2.resolve_left (by omega)
               injection hbe with hbe
               injection hbe with hbe1 hbe2
               subst hbe1 hbe2
               have cj := bkeep HB.out (hc (k + 1 + j) (by omega))
               rw [← Nat.add_assoc] at cj
               have HB2 := Lib.hid (bblk HB.out HGR.out.obj)
               have x0 := blk_cell HB2.out 0
               simp only [List.getElem?_toArray, List.getElem?_cons_zero, List.getElem?_cons_succ] at x0
               have hj' : (j : Int) < ((m - (k + 1) : Nat) : Int) := by omega
               have hw2 : IntKind.i64.wrap ((j : Int) + 1) = (j : Int) + 1 := by rw [IntKind.wrap_i64]; omega
               have hgy : (order.drop (k + 1))[j]? = some (order.getD (k + 1 + j) 0) := by
                 rw [List.getElem?_drop, List.getElem?_eq_getElem (by rw [HLO.out]; omega), List.getD_eq_getElem?_getD, List.getElem?_eq_getElem (by rw [HLO.out]; omega)]; rfl
               obtain ⟨y, hy⟩ : ∃ y, order.getD (k + 1 + j) 0 = y := ⟨_, rfl⟩
               rw [hy] at cj hgy
               have HGY := Lib.hid hgy
               have HBE := Lib.hid (before_any wr p n c l (HGR.out.evs.below HB.out) (by omega) y t)
               clear hc hy hgy
               cases hbe : beforeL y t l false with
               | true =>
                 rw [hbe] at HBE
                 have hx : R = ((k : Int), 8, vs') := by
                   rw [← HF.out, firstL, if_pos (List.any_eq_true.2 ⟨y, List.mem_of_getElem? HGY.out, hbe⟩)]
                 subst hx
                 clear hbe
                 go_wp2_with fail
                 refine HBE.out.mono ?_
                 rintro e w1 ⟨rfl, l1⟩
                 have HL1 := Lib.hid (btrans HB.out (Nat.le_refl _) l1)
                 clear l1
                 go_wp2_with fail
                 refine bodyPost_ret (v := .tuple #[.int .i64 k, .int .i64 8]) ?_ rfl ?_; (focus (simp [results, Tryz.results26, go_sem, Nat.zero_le]; done))
                 exact ⟨rfl, HGR.out.below HL1.out, HOR.out.trans (only_below HL1.out _)⟩
               | false =>
                 rw [hbe] at HBE
                 have HN2 := Lib.hid (show ∀ z ∈ (order.drop (k + 1)).take (j + 1), beforeL z t l false = false from fun z hz => by
                   rw [List.take_add_one, HGY.out, List.mem_append] at hz
                   rcases hz with hz | hz
                   · exact HNO.out z hz
                   · simp at hz
                     rw [hz]
                     exact hbe)
                 clear hbe
                 go_wp2_with fail
                 refine HBE.out.mono ?_
                 rintro e w1 ⟨rfl, l1⟩
                 have HL1 := Lib.hid (btrans HB.out (Nat.le_refl _) l1)
                 clear l1
                 go_wp2_with fail
                 exact ⟨⟨j + 1, by go_num, by omega, HN2.out, HL1.out⟩, by simp [intOf]; omega⟩)
          · obtain rfl : j = m - (k + 1) := by omega
            rw [List.take_of_length_le (by rw [List.length_drop, HLO.out]; exact Nat.le_refl _)] at HNO
            have hF := HF.out
            rw [firstL, if_neg (by
              intro h
              obtain ⟨z, hz, hb⟩ := List.any_eq_true.1 h
              rw [HNO.out z hz] at hb
              cases hb)] at hF
            have HF2 := Lib.hid hF
            have hG2 := HGR.out.below HB.out
            have HG2 := Lib.hid hG2
            obtain ⟨xs, hxs, hX⟩ := hG2.ones
            have HGE := Lib.hid (get_any t xs hX hG2.obj (has_num hxs HTM.out) (by rw [ones_len hxs]; omega))
            have HXS := Lib.hid hxs; have HX := Lib.hid hX
            clear hF hG2 hxs hX
            go_wp2_with fail
            refine HGE.out.mono ?_
            rintro e w1 ⟨x, hx, hxn, rfl, l1⟩
            have hnum := (of_num HXS.out hx).1
            rw [hxn] at hnum
            have hX1 := HX.out.below l1
            have hp1 := hX1.pairs x hx
            obtain ⟨o, v1, v2⟩ := x
            simp only at hnum hp1
            subst hnum
            obtain ⟨ra, rc, hv1⟩ := ownsRow_slice hp1.1
            obtain ⟨wa, wc, hv2⟩ := ownsRow_slice hp1.2
            obtain ⟨R1, hR1⟩ : ∃ R, (oneOf l C t).reads.length = R := ⟨_, rfl⟩
            obtain ⟨R2, hR2⟩ : ∃ R, (oneOf l C t).writes.length = R := ⟨_, rfl⟩
            rw [hR1] at hv1; rw [hR2] at hv2
            subst hv1 hv2
            unfold oneV
            dsimp only
            have LB1 := Lib.hid (btrans HB.out (Nat.le_refl _) l1)
            have hG3 := HGR.out.below LB1.out
            have lA : Below w1.heap.size w1 (w1.alloc (.cells #[.int .i64 (oneOf l C t).num, .slice ra R1 rc, .slice wa R2 wc, .bool (oneOf l C t).own, .bool (oneOf l C t).com] 75)) := by repeat (first | (with_reducible exact Below.refl _ _) | (with_reducible apply Below.drew) | (with_reducible refine below_drewN ?_ _) | (with_reducible refine below_alloc' ?_ ?_ _; (focus ((try simp) <;> omega))) | (with_reducible refine below_set' ?_ ?_ _; (focus ((try simp) <;> omega))))
            have hbA : (w1.alloc (.cells #[.int .i64 (oneOf l C t).num, .slice ra R1 rc, .slice wa R2 wc, .bool (oneOf l C t).own, .bool (oneOf l C t).com] 75)).heap[w1.heap.size]? = some (.cells #[.int .i64 (oneOf l C t).num, .slice ra R1 rc, .slice wa R2 wc, .bool (oneOf l C t).own, .bool (oneOf l C t).com] 75 (0, 0)) := by simp [↓heap_alloc_eq, ↓heap_set_eq, ↓heap_drew_eq, ↓heap_drewN_eq, setObj, size_drewN]
            have HLA := Lib.hid lA; have HBA := Lib.hid hbA
            have HOA := Lib.hid (HOK.out t HTM.out)
            have HP1 := Lib.hid (And.intro (pairs_grow hp1.1 lA) (pairs_grow hp1.2 lA))
            have hFI := fits_any (hG3.below lA) (oneOf l C t, .slice ra R1 rc, .slice wa R2 wc) HP1.out HOA.out (by rw [HVL.out]; exact hvl)
            unfold oneV at hFI
            dsimp only at hFI
            have HFI := Lib.hid hFI
            have HG3 := Lib.hid (hG3.below lA)
            clear hx hxn hX1 hp1 l1 hG3 lA hbA hR1 hR2 hFI HX HXS HG2 HGE HB
            go_wp2_with fail
            refine HFI.out.mono ?_
            rintro e w4 ⟨rfl, l4⟩
            have HG4 := Lib.hid (HG3.out.below l4)
            have hbA := bblk l4 HBA.out
            have d0 := blk_cell hbA 0; have d1 := blk_cell hbA 1; have d2 := blk_cell hbA 2; have d3 := blk_cell hbA 3; have d4 := blk_cell hbA 4
            simp only [List.getElem?_toArray, List.getElem?_cons_zero, List.getElem?_cons_succ] at d0 d1 d2 d3 d4
            have HP4 := Lib.hid (And.intro (pairs_grow HP1.out.1 l4) (pairs_grow HP1.out.2 l4))
            have L4 := Lib.hid (btrans (btrans LB1.out (Nat.le_refl _) HLA.out) (Nat.le_refl _) l4)
            clear l4 hbA HBA
            cases hfi : fitsB (oneOf l C t) vs' with
            | false =>
              have hx : R = ((k : Int), 9, vs') := by rw [← HF2.out, hfi]; rfl
              subst hx
              clear hfi
              go_wp2_with fail
              refine bodyPost_ret (v := .tuple #[.int .i64 k, .int .i64 9]) ?_ rfl ?_; (focus (simp [results, Tryz.results26, go_sem, Nat.zero_le]; done))
              exact ⟨rfl, HG4.out, HOR.out.trans (only_below L4.out _)⟩
            | true =>
              have hLY := lay_any HG4.out (oneOf l C t, .slice ra R1 rc, .slice wa R2 wc) HP4.out HOA.out (inP_of hfi) (by rw [HVL.out]; exact hvl)
              unfold oneV at hLY
              dsimp only at hLY
              have HLY := Lib.hid hLY
              have HF3 := Lib.hid (show firstL l (oneOf l C) (order.drop (k + 1)) ((k + 1 : Nat) : Int) (layL (oneOf l C t) vs') = R by
                rw [← HF2.out, if_pos hfi]; rfl)
              clear hfi hLY
              go_wp2_with fail
              refine HLY.out.mono ?_
              rintro e w5 ⟨b2, b5, rfl, hG5, _, o5⟩
              have HG5 := Lib.hid hG5
              have HO5 := Lib.hid ((HOR.out.trans (only_below L4.out _)).trans o5)
              clear hG5 o5
              go_wp2_with fail
              exact ⟨⟨k + 1, _, by go_num, by omega, HG5.out, by rw [layL_len]; exact HVL.out, HF3.out, HO5.out⟩, by simp [intOf]; omega⟩
    · obtain rfl : k = m := by omega
      rw [List.drop_of_length_le (by rw [HLO.out]; exact Nat.le_refl _)] at hF
      have hx : R = (0, 0, vs') := hF.symm
      subst hx
      clear hF
      go_wp2_with fail
      refine bodyPost_ret (v := .tuple #[.int .i64 0, .int .i64 0]) ?_ rfl ?_; (focus (simp [results, Tryz.results26, go_sem, Nat.zero_le]; done))
      exact ⟨rfl, HGR.out, HOR.out⟩
end Go.Proofs.YtganmdbhmihjpaaGreat.Opa
