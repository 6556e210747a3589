/- What Do of the other side answers and leaves, where it is done. -/
import Derived.Test.YtiopopplbehieaaCelE
import Derived.Test.YtiopopplbehieaaHeld
import Derived.Deep.CutBlock
namespace Go.Proofs.Ytiopopplbehieaa.Cel
open Go.RowKit
set_option linter.unusedSimpArgs false
set_option linter.unusedVariables false

theorem rok_fin {T : TypeId} {wc w2 : World} {b wb wcap : Nat} {v v2 : Value} {s : CSt} (hR : Raw T wc b wb wcap v s) (h : Below wc.heap.size wc w2) {xs : List Value}
    (hown : w2.ownsRow wc.heap.size 37 6 v2 (s.log.length + 1) (logVals s.log ++ xs)) {d : Dn} (hx : xs = d.vals) :
    Raw T (w2.setCell ⟨b, 1, none⟩ v2) b wb wcap v2 ⟨s.ws, s.log ++ [d]⟩ := by
  have hs : Only (fun k => k = b) w2 (w2.setCell ⟨b, 1, none⟩ v2) := (Only.refl (fun k => k = b) w2).setCell (.inr rfl) _
  have hb := blk_lt hR.obj
  have hwb : wb < wc.heap.size := ownsRow_lt hR.ws rfl
  have e1 : v2.ownBlock ≠ some b := fun h => by have := (hown.lt b h).1; omega
  have e2 : v2.ownBlock ≠ some wb := fun h => by have := (hown.lt wb h).1; omega
  have hws := ownsRow_only (ownsRow_only hR.ws (Only.empty h (Nat.le_refl _)) (fun k hk h => h)) hs (fun k hk h => hR.n1 (by
    injection hk with hk
    rw [← h]
    exact hk.symm))
  refine ⟨?_, hws, ?_, hR.n1, e1, e2⟩
  · have := blk_set (bblk h hR.obj) 1 v2
    simpa using this
  · have := ownsRow_only (ownsRow_base (base' := 0) hown (fun _ _ => Nat.zero_le _)) hs (fun k hk h => e1 (by rw [hk, h]))
    rw [logVals_snoc, ← hx]
    simpa using this

def Mid (b wb wcap : Nat) (v : Value) (s : CSt) (w : World) (o : OpV) (m : Nat) (x : Int) (wc : World) : Prop :=
    (becV o x).2.2 = 0 ∧ Raw 71 wc b wb wcap v ⟨s.ws.set m (becV o x).1, s.log⟩ ∧
    wc.heap[w.heap.size + 1]? = some (.cells #[.int .u8 0, .int .i64 0, .int .u64 0, .int .u64 0, .int .u64 0, .bool false] 37 (0, 0)) ∧
    wc.heap[w.heap.size + 1 + 1]? = some (.cells #[.int .u8 o.k, .int .i64 o.c, .int .u64 o.a, .int .u64 o.b, .int .u64 x, .bool (becV o x).2.1] 37 (0, 0)) ∧
    Only (fun k => k = wb) w wc
set_option maxRecDepth 50000 in
set_option maxHeartbeats 2000000 in
theorem rdo_in {F : Nat → Prop} (w : World) (b : Nat) (s : CSt) (hI : s.Inv) (hl : s.log.length < 1000) (h : CellsAt 71 w b F s) (o : OpV) (ho : o.Fit) (hr : s.inr o.c = true) (hk : 1 ≤ o.k ∧ o.k ≤ 4) :
    Calls Try.prog 17 #[ptr b, .agg #[.int .u8 o.k, .int .i64 o.c, .int .u64 o.a, .int .u64 o.b]] w (DoPost 71 w b F s o) := by
  have HE := Lib.hid (fun w' (hb' : Below w.heap.size w w') (he : s.doE o ≠ 0) => DoPost.err (o := o) h hb' he)
  have hxf := CSt.at_fit hI o.c
  obtain ⟨wb, wcap, v, h, hF⟩ := h
  have HF := Lib.hid hF; clear hF
  have H := Lib.hid h
  have h0 := blk_cell h.obj 0
  have hlt := h.lt.1
  have hwlt := h.lt.2
  simp only [List.getElem?_toArray, List.getElem?_cons_zero] at h0
  obtain ⟨k, c, a, b'⟩ := o
  obtain ⟨_, _, ha, hb⟩ := ho
  simp only [CSt.inr, decide_eq_true_eq] at hr hk ha hb
  obtain ⟨hr0, hr1⟩ := hr
  obtain ⟨m, rfl⟩ := Int.eq_ofNat_of_zero_le hr0
  have hml : m < s.ws.length := by omega
  have hc := h.cell m hml
  have hat : s.at (m : Int) = s.ws.getD m 0 := by simp [CSt.at]
  have HDE := Lib.hid (show s.doE ⟨k, m, a, b'⟩ = (becV ⟨k, m, a, b'⟩ (s.ws.getD m 0)).2.2 by simp [CSt.doE, CSt.inr, hml, hat])
  have HDD := Lib.hid (show (becV ⟨k, m, a, b'⟩ (s.ws.getD m 0)).2.2 = 0 → s.doD ⟨k, m, a, b'⟩ = ⟨⟨k, m, a, b'⟩, s.ws.getD m 0, (becV ⟨k, m, a, b'⟩ (s.ws.getD m 0)).2.1⟩ from fun h => by rw [CSt.doD, HDE, if_pos h, hat])
  have HDS := Lib.hid (show (becV ⟨k, m, a, b'⟩ (s.ws.getD m 0)).2.2 = 0 → s.doS ⟨k, m, a, b'⟩ = ⟨s.ws.set m (becV ⟨k, m, a, b'⟩ (s.ws.getD m 0)).1, s.log ++ [⟨⟨k, m, a, b'⟩, s.ws.getD m 0, (becV ⟨k, m, a, b'⟩ (s.ws.getD m 0)).2.1⟩]⟩ from fun h => by rw [CSt.doS, HDE, if_pos h, hat, HDD.out h]; rfl)
  clear h
  have hm32 := hI.small
  rw [hat] at hxf
  clear hI hr0 hr1 hat
  obtain ⟨n, hn⟩ : ∃ n, s.ws.length = n := ⟨_, rfl⟩
  have HN := Lib.hid hn
  rw [hn] at h0 hml hm32
  clear hn
  obtain ⟨x, hx⟩ : ∃ x, s.ws.getD m 0 = x := ⟨_, rfl⟩
  have HX := Lib.hid hx
  rw [hx] at hc HDE HDD HDS hxf
  clear hx
  have hd : decide ((m : Int) < 0) = false := by simp
  have hd2 : decide ((n : Int) ≤ (m : Int)) = false := by simpa using hml
  have hd3 : decide (n ≤ m) = false := by simpa using hml
  have hk1 : decide (k < 1) = false := by simp; omega
  have hk2 : decide (4 < k) = false := by simp; omega
  go_enter Try.func17, Try.ntmps17
  go_wp2_with fail
  go_quiet (fail)
  go_wp2_with fail
  go_quiet (fail)
  go_upto_block 1 with (fail)
  have hT : ∀ W : World, W = W → True := fun _ _ => trivial
  refine (show ∀ (W1 : World), Below w.heap.size w W1 → W1.heap[w.heap.size]? = some (.cells #[.int .u8 k, .int .i64 m, .int .u64 a, .int .u64 b'] 35 (0, 0)) →
    W1.heap[w.heap.size + 1]? = some (.cells #[.int .u8 0, .int .i64 0, .int .u64 0, .int .u64 0, .int .u64 0, .bool false] 37 (0, 0)) →
    W1.heap[w.heap.size + 1 + 1]? = some (.cells #[.int .u8 k, .int .i64 m, .int .u64 a, .int .u64 b', .int .u64 x, .bool true] 37 (0, 0)) → Code.wp _ _ _ _ W1 from ?_) _ (by repeat (first | (with_reducible exact Below.refl _ _) | (with_reducible apply Below.drew) | (with_reducible refine below_drewN ?_ _) | (with_reducible refine below_alloc' ?_ ?_ _; (focus ((try simp) <;> omega))) | (with_reducible refine below_set' ?_ ?_ _; (focus ((try simp) <;> omega))))) (by simp [↓heap_alloc_eq, ↓heap_set_eq, ↓heap_drew_eq, ↓heap_drewN_eq, setObj, size_drewN]; try omega) (by simp [↓heap_alloc_eq, ↓heap_set_eq, ↓heap_drew_eq, ↓heap_drewN_eq, setObj, size_drewN]; try omega) (by simp [↓heap_alloc_eq, ↓heap_set_eq, ↓heap_drew_eq, ↓heap_drewN_eq, setObj, size_drewN]; try omega)
  intro W1 hL1 hA hB hD
  have hN := H.out.keep (Only.empty hL1 (Nat.le_refl _)) (fun h => h) (fun h => h) (fun _ _ h => h)
  have h0 := blk_cell hN.obj 0; have h1 := blk_cell hN.obj 1
  have a0 := blk_cell hA 0; have a1 := blk_cell hA 1; have a2 := blk_cell hA 2; have a3 := blk_cell hA 3
  have d2 := blk_cell hD 5
  have r0 := blk_cell hB 0; have r1 := blk_cell hB 1; have r2 := blk_cell hB 2; have r3 := blk_cell hB 3; have r4 := blk_cell hB 4; have r5 := blk_cell hB 5
  have fb := blk_free hB; have fd := blk_free hD
  have hc := hN.cell m (by rw [HN.out]; exact hml)
  have fw := hN.free
  simp only [List.getElem?_toArray, List.getElem?_cons_zero, List.getElem?_cons_succ] at h0 h1 a0 a1 a2 a3 d2 r0 r1 r2 r3 r4 r5
  rw [HN.out] at h0
  rw [HX.out] at hc
  have hsz := hL1.size
  have hD1 := blk_lt hD
  have hn1 := hN.n1
  have HL1 := Lib.hid hL1; have HA := Lib.hid hA; have HB := Lib.hid hB; have HD := Lib.hid hD; have HNN := Lib.hid hN
  clear hL1 hA hB hD hN hT
  go_cut [] (fun wc => Mid b wb wcap v s w ⟨k, m, a, b'⟩ m x wc)
  case first =>
    have hset : s.ws.set m x = s.ws := by
      rw [← HX.out]
      apply List.ext_getElem?
      intro i
      rw [List.getElem?_set]
      split
      · subst_vars
        rw [if_pos (by omega)]
        rw [List.getD_eq_getElem?_getD, List.getElem?_eq_getElem (by omega)]
        rfl
      · rfl
    have HSET := Lib.hid hset; clear hset
    by_cases k1 : k = 1
    · subst k1
      clear hk1 hk2 hk
      go_wp2_with fail
      go_meet
      case rel =>
        refine ⟨by simp [becV], ?_, HB.out, ?_, Only.of_below HL1.out fun k hk h => by omega⟩
        · simp only [becV, if_true]; rw [HSET.out]; exact HNN.out
        · simpa [becV] using HD.out
    by_cases k2 : k = 2
    · subst k2
      clear hk1 hk2 hk
      go_wp2_with fail
      refine wp_region_tail 9 (by kernel_rfl) (by kernel_rfl) ?_; simp only [List.take_succ_cons, List.take_zero, List.drop_succ_cons, List.drop_zero]
      repeat (first | (with_reducible refine wpStill_skip ?_ ?_; (focus (simp [Region.wanted, yielded]; done)); simp only [Act.put, List.setIfInBounds_toArray, List.set_cons_succ, List.set_cons_zero]) | (with_reducible refine wpStill_step (fun KK hKK => ?_); go_simp; refine hKK _ ?_; clear hKK KK))
      with_reducible refine wpStill_nil ?_
      go_wp2_with fail
      go_meet
      case rel =>
        have ho : Only (fun k => k = wb) W1 (W1.drew.setCell ⟨wb, m, none⟩ (.int .u64 a)) := by repeat (first | (with_reducible exact Only.refl _ _) | (with_reducible apply Only.drew) | (with_reducible apply Only.drewN) | (with_reducible apply Only.alloc) | (with_reducible refine only_set' ?_ ?_ _; (focus ((try simp) <;> omega))))
        have e4 : becV ⟨2, m, a, b'⟩ x = (a, true, 0) := by
          simp only [becV, show ¬ ((2 : Int) = 1) by decide, show ¬ ((2 : Int) = 3) by decide, if_false, if_true]
        unfold Mid
        rw [e4]
        refine ⟨rfl, ?_, ho.blk HB.out (by omega), ho.blk HD.out (by omega), Only.trans (Only.of_below HL1.out fun k hk h => by omega) ho⟩
        exact (HNN.out.keep (Only.empty ((Below.refl _ _).drew) (Nat.le_refl _)) (fun h => h) (fun h => h) (fun _ _ h => h)).store m a
    by_cases k3 : k = 3
    · subst k3
      clear hk1 hk2 hk
      by_cases hxa : x = a
      · subst hxa
        go_wp2_with fail
        refine wp_region_tail 9 (by kernel_rfl) (by kernel_rfl) ?_; simp only [List.take_succ_cons, List.take_zero, List.drop_succ_cons, List.drop_zero]
        repeat (first | (with_reducible refine wpStill_skip ?_ ?_; (focus (simp [Region.wanted, yielded]; done)); simp only [Act.put, List.setIfInBounds_toArray, List.set_cons_succ, List.set_cons_zero]) | (with_reducible refine wpStill_step (fun KK hKK => ?_); go_simp; refine hKK _ ?_; clear hKK KK))
        with_reducible refine wpStill_nil ?_
        go_wp2_with fail
        go_meet
        case rel =>
          have e4 : becV ⟨3, m, x, b'⟩ x = (b', true, 0) := by
            simp only [becV, show ¬ ((3 : Int) = 1) by decide, if_false, if_true]
          have hs := blk_set HD.out 5 (.bool true)
          simp only [List.setIfInBounds_toArray, List.set_cons_succ, List.set_cons_zero] at hs
          have hsB := blk_other HB.out (p := ⟨w.heap.size + 1 + 1, 5, none⟩) (by show w.heap.size + 1 ≠ w.heap.size + 1 + 1; omega) (.bool true)
          have ho : Only (fun k => k = wb) (W1.setCell ⟨w.heap.size + 1 + 1, 5, none⟩ (.bool true)) ((W1.setCell ⟨w.heap.size + 1 + 1, 5, none⟩ (.bool true)).drew.setCell ⟨wb, m, none⟩ (.int .u64 b')) := by repeat (first | (with_reducible exact Only.refl _ _) | (with_reducible apply Only.drew) | (with_reducible apply Only.drewN) | (with_reducible apply Only.alloc) | (with_reducible refine only_set' ?_ ?_ _; (focus ((try simp) <;> omega))))
          have hL2 : Below w.heap.size w (W1.setCell ⟨w.heap.size + 1 + 1, 5, none⟩ (.bool true)) := HL1.out.setCell (by show w.heap.size ≤ w.heap.size + 1 + 1; omega) _
          have hR2 := H.out.keep (Only.empty hL2.drew (Nat.le_refl _)) (fun h => h) (fun h => h) (fun _ _ h => h)
          unfold Mid
          rw [e4]
          exact ⟨rfl, hR2.store m b', ho.blk hsB (by omega), ho.blk hs (by omega), Only.trans (Only.of_below hL2 fun k hk h => by omega) ho⟩
      · have hq : (x == a) = false := by simpa using hxa
        go_wp2_with fail
        go_meet
        case rel =>
          have e4 : becV ⟨3, m, a, b'⟩ x = (x, false, 0) := by
            simp only [becV, show ¬ ((3 : Int) = 1) by decide, if_false, if_true]
            rw [if_neg hxa]
          have hs := blk_set HD.out 5 (.bool false)
          simp only [List.setIfInBounds_toArray, List.set_cons_succ, List.set_cons_zero] at hs
          have hsB := blk_other HB.out (p := ⟨w.heap.size + 1 + 1, 5, none⟩) (by show w.heap.size + 1 ≠ w.heap.size + 1 + 1; omega) (.bool false)
          have hL2 : Below w.heap.size w (W1.setCell ⟨w.heap.size + 1 + 1, 5, none⟩ (.bool false)) := HL1.out.setCell (by show w.heap.size ≤ w.heap.size + 1 + 1; omega) _
          have hR2 := H.out.keep (Only.empty hL2 (Nat.le_refl _)) (fun h => h) (fun h => h) (fun _ _ h => h)
          unfold Mid
          rw [e4]
          refine ⟨rfl, ?_, hsB, hs, Only.of_below hL2 fun k hk h => by omega⟩
          simp only [HSET.out]
          exact hR2
    obtain rfl : k = 4 := by omega
    clear hk1 hk2 hk
    have hwr : IntKind.u64.wrap (18446744073709551615 - a) = 18446744073709551615 - a := by
      unfold U64 at *
      rw [IntKind.wrap_u64]
      omega
    by_cases hov : 18446744073709551615 - a < x
    · have hq : decide (18446744073709551615 - a < x) = true := by simpa using hov
      go_wp2_with fail
      have e4 : (becV ⟨4, m, a, b'⟩ x).2.2 = 4 := by
        simp only [becV, show ¬ ((4 : Int) = 1) by decide, show ¬ ((4 : Int) = 3) by decide, show ¬ ((4 : Int) = 2) by decide, if_false, if_true]
        rw [if_pos (by omega)]
      have e4' := HDE.out
      rw [e4] at e4'
      have hfin := fun w' hw' => HE.out w' hw' (by rw [e4']; decide)
      rw [e4'] at hfin
      refine bodyPost_ret (v := .tuple #[dnv noDn, .int .i64 4]) ?_ rfl ?_; (focus (simp [results, Try.results17, go_sem, dnv, noDn, r0, r1, r2, r3, r4, r5]; done))
      refine hfin _ ?_
      repeat (first | (with_reducible exact HL1.out) | (with_reducible refine below_set' ?_ ?_ _; (focus ((try simp) <;> omega))))
    · have hq : decide (18446744073709551615 - a < x) = false := by simpa using hov
      have hw2 : IntKind.u64.wrap (x + a) = x + a := by
        unfold U64 at *
        rw [IntKind.wrap_u64]
        omega
      go_wp2_with fail
      refine wp_region_tail 11 (by kernel_rfl) (by kernel_rfl) ?_; simp only [List.take_succ_cons, List.take_zero, List.drop_succ_cons, List.drop_zero]
      repeat (first | (with_reducible refine wpStill_skip ?_ ?_; (focus (simp [Region.wanted, yielded]; done)); simp only [Act.put, List.setIfInBounds_toArray, List.set_cons_succ, List.set_cons_zero]) | (with_reducible refine wpStill_step (fun KK hKK => ?_); go_simp; refine hKK _ ?_; clear hKK KK))
      with_reducible refine wpStill_nil ?_
      go_wp2_with fail
      go_meet
      case rel =>
        have e4 : becV ⟨4, m, a, b'⟩ x = (x + a, true, 0) := by
          simp only [becV, show ¬ ((4 : Int) = 1) by decide, show ¬ ((4 : Int) = 3) by decide, show ¬ ((4 : Int) = 2) by decide, if_false, if_true]
          rw [if_neg (by omega)]
        have ho : Only (fun k => k = wb) W1 (W1.drew.setCell ⟨wb, m, none⟩ (.int .u64 (x + a))) := by repeat (first | (with_reducible exact Only.refl _ _) | (with_reducible apply Only.drew) | (with_reducible apply Only.drewN) | (with_reducible apply Only.alloc) | (with_reducible refine only_set' ?_ ?_ _; (focus ((try simp) <;> omega))))
        unfold Mid
        rw [e4]
        refine ⟨rfl, ?_, ho.blk HB.out (by omega), ho.blk HD.out (by omega), Only.trans (Only.of_below HL1.out fun k hk h => by omega) ho⟩
        exact (HNN.out.keep (Only.empty ((Below.refl _ _).drew) (Nat.le_refl _)) (fun h => h) (fun h => h) (fun _ _ h => h)).store m (x + a)
  case rest =>
    obtain ⟨hz, hR, hB, hD, hO⟩ := hcut
    obtain ⟨i0, hi, hz0, hz1, hz2⟩ := info_parts infoL
    have HDF := HDD.out hz
    have HSF := HDS.out hz
    rw [hz] at HDE
    generalize (becV ⟨k, m, a, b'⟩ x).1 = y1 at *
    generalize (becV ⟨k, m, a, b'⟩ x).2.1 = y2 at *
    have HDF' := Lib.hid HDF; have HSF' := Lib.hid HSF
    clear h0 h1 a0 a1 a2 a3 d2 r0 r1 r2 r3 r4 r5 fb fd fw hc HDD HDS HDF HSF hz HE
    have e1 := blk_cell hR.obj 1
    have d0 := blk_cell hD 0; have d1 := blk_cell hD 1; have d2 := blk_cell hD 2; have d3 := blk_cell hD 3; have d4 := blk_cell hD 4; have d5 := blk_cell hD 5
    simp only [List.getElem?_toArray, List.getElem?_cons_zero, List.getElem?_cons_succ] at e1 d0 d1 d2 d3 d4 d5
    have KS : ∀ w', Below wc.heap.size wc w' → (w'.cell? ⟨b, 1, none⟩ = some v ∧ w'.cell? ⟨w.heap.size + 1 + 1, 0, none⟩ = some (.int .u8 k) ∧ w'.cell? ⟨w.heap.size + 1 + 1, 1, none⟩ = some (.int .i64 m) ∧ w'.cell? ⟨w.heap.size + 1 + 1, 2, none⟩ = some (.int .u64 a) ∧ w'.cell? ⟨w.heap.size + 1 + 1, 3, none⟩ = some (.int .u64 b') ∧ w'.cell? ⟨w.heap.size + 1 + 1, 4, none⟩ = some (.int .u64 x) ∧ w'.cell? ⟨w.heap.size + 1 + 1, 5, none⟩ = some (.bool y2)) := fun w' h =>
      ⟨bkeep h e1, bkeep h d0, bkeep h d1, bkeep h d2, bkeep h d3, bkeep h d4, bkeep h d5⟩
    have KX : ∀ w', Below wc.heap.size wc w' → w'.ownsRow 0 37 6 v s.log.length (logVals s.log) := fun w' h => ownsRow_only hR.log (Only.empty h (Nat.le_refl _)) (fun _ _ h => h)
    have KF : ∀ w', Below wc.heap.size wc w' → w'.frozen? ⟨b, 1, none⟩ = false := fun w' h => blk_free (bblk h hR.obj) 1
    have KE : ∀ W : World, wc.heap.size ≤ W.heap.size → (W.alloc (.cells #[] 37)).ownsRow wc.heap.size 37 6 (.slice (some ⟨W.heap.size, 0, none⟩) 0 0) 0 [] := by
      intro W hW
      have := World.ownsRow_lit (base := wc.heap.size) (e := 37) (size := 6) W #[] 0 hW (by decide) (by simp)
      simpa using this
    have KN : ∀ (W : World) j u, ([.int .u8 k, .int .i64 m, .int .u64 a, .int .u64 b', .int .u64 x, .bool y2] : List Value)[j]? = some u → (W.alloc (.cells #[.int .u8 k, .int .i64 m, .int .u64 a, .int .u64 b', .int .u64 x, .bool y2] 37)).cell? ((⟨W.heap.size, 0, none⟩ : Addr).add j) = some u := by
      intro W j u hu
      rw [Addr.add_lit, Nat.zero_add, blk_cell (blk_new W _) j]
      simpa using hu
    have hone : ∀ u ∈ ([.int .u8 k, .int .i64 m, .int .u64 a, .int .u64 b', .int .u64 x, .bool y2] : List Value), u.oneCell' = true := logVals_one [⟨⟨k, m, a, b'⟩, x, y2⟩]
    have hlm : s.log.length ≤ maxLen := by unfold maxLen; omega
    have hlb : s.log.length * 48 ≤ 140737488355328 := by omega
    have hlm1 : s.log.length + 1 ≤ maxLen := by unfold maxLen; omega
    have hlb1 : (s.log.length + 1) * 48 ≤ 140737488355328 := by omega
    have HKS := Lib.hid KS; have HKX := Lib.hid KX; have HKF := Lib.hid KF; have HKE := Lib.hid KE; have HKN := Lib.hid KN; have HONE := Lib.hid hone
    have HLO := Lib.hid (logVals_one s.log)
    clear KS KX KF KE KN hone
    have HR := Lib.hid hR; have HB' := Lib.hid hB; have HD' := Lib.hid hD; have HO := Lib.hid hO
    have hs0 : w.heap.size + 1 + 1 < wc.heap.size := blk_lt hD
    clear hR hB hD hO
    go_wp2_with fail
    refine wp_region_F (fun w' => w'.cell? ⟨b, 1, none⟩ = some v ∧ w'.cell? ⟨w.heap.size + 1 + 1, 0, none⟩ = some (.int .u8 k) ∧ w'.cell? ⟨w.heap.size + 1 + 1, 1, none⟩ = some (.int .i64 m) ∧ w'.cell? ⟨w.heap.size + 1 + 1, 2, none⟩ = some (.int .u64 a) ∧ w'.cell? ⟨w.heap.size + 1 + 1, 3, none⟩ = some (.int .u64 b') ∧ w'.cell? ⟨w.heap.size + 1 + 1, 4, none⟩ = some (.int .u64 x) ∧ w'.cell? ⟨w.heap.size + 1 + 1, 5, none⟩ = some (.bool y2)) 12 (by kernel_rfl) ?_
    have hS0 := HKS.out wc.drew ((Below.refl _ _).drew)
    refine wpAnyF_take (i := 0) (v := ?_) rfl (by kernel_rfl) (by kernel_rfl) (by kernel_rfl) (by kernel_rfl) (fun _ _ _ h => h) (Or.inl ⟨by rfl, ?_⟩) (by assumption) ?_; rotate_left; (focus (intro w hSw; (skip); (first | (go_simp; done) | (go_simp; with_reducible rfl)))); try simp only [Act.put, List.setIfInBounds_toArray, List.set_cons_zero, List.set_cons_succ]
    refine wpAnyF_take (i := 2) (v := ?_) rfl (by kernel_rfl) (by kernel_rfl) (by kernel_rfl) (by kernel_rfl) (fun _ _ _ h => h) (Or.inl ⟨by rfl, ?_⟩) (by assumption) ?_; rotate_left; (focus (intro w hSw; (skip); (first | (go_simp; done) | (go_simp; with_reducible rfl)))); try simp only [Act.put, List.setIfInBounds_toArray, List.set_cons_zero, List.set_cons_succ]
    refine wpAnyF_take (i := 3) (v := ?_) rfl (by kernel_rfl) (by kernel_rfl) (by kernel_rfl) (by kernel_rfl) (fun _ _ _ h => h) (Or.inl ⟨by rfl, ?_⟩) (by assumption) ?_; rotate_left; (focus (intro w hSw; (skip); (first | (go_simp; done) | (go_simp; with_reducible rfl)))); try simp only [Act.put, List.setIfInBounds_toArray, List.set_cons_zero, List.set_cons_succ]
    refine wpAnyF_take (i := 4) (v := ?_) rfl (by kernel_rfl) (by kernel_rfl) (by kernel_rfl) (by kernel_rfl) (fun _ _ _ h => h) (Or.inl ⟨by rfl, ?_⟩) (by assumption) ?_; rotate_left; (focus (intro w hSw; (skip); (first | (go_simp; done) | (go_simp; with_reducible rfl)))); try simp only [Act.put, List.setIfInBounds_toArray, List.set_cons_zero, List.set_cons_succ]
    refine wpAnyF_take (i := 5) (v := ?_) rfl (by kernel_rfl) (by kernel_rfl) (by kernel_rfl) (by kernel_rfl) (fun _ _ _ h => h) (Or.inl ⟨by rfl, ?_⟩) (by assumption) ?_; rotate_left; (focus (intro w hSw; (obtain ⟨q0, q1, q2, q3, q4, q5, q6⟩ := hSw); (first | (go_simp; done) | (go_simp; with_reducible rfl)))); try simp only [Act.put, List.setIfInBounds_toArray, List.set_cons_zero, List.set_cons_succ]
    refine wpAnyF_take (i := 7) (v := ?_) rfl (by kernel_rfl) (by kernel_rfl) (by kernel_rfl) (by kernel_rfl) (fun _ _ _ h => h) (Or.inl ⟨by rfl, ?_⟩) (by assumption) ?_; rotate_left; (focus (intro w hSw; (obtain ⟨q0, q1, q2, q3, q4, q5, q6⟩ := hSw); (first | (go_simp; done) | (go_simp; with_reducible rfl)))); try simp only [Act.put, List.setIfInBounds_toArray, List.set_cons_zero, List.set_cons_succ]
    refine wpAnyF_ready (rs := [1, 8]) (by kernel_rfl) (by simp) ?_
    refine AllF.cons rfl (fun K hK => ?_) ?_
    · go_simp
      have b1 : Below wc.heap.size wc (wc.drew.alloc (.cells #[] 37)) := ((Below.refl _ _).drew).alloc (Nat.le_refl _) _
      refine hK.out _ _ (fun _ => HKS.out _ b1) ?_; clear hK K; (try simp only [Act.put, List.setIfInBounds_toArray, List.set_cons_zero, List.set_cons_succ])
      refine wpAnyF_ready (rs := [6, 8]) (by kernel_rfl) (by simp) ?_
      refine AllF.cons rfl (fun K hK => ?_) ?_
      · refine step_append_copy rfl (.tmp 99) (.tmp 103) 48 rfl wc.heap.size 37 i0 (.agg #[.int .u8 0, .int .i64 0, .int .u64 0, .int .u64 0, .int .u64 0, .bool false]) 6 48 Try.underlying48 hi hz0 hz1 hz2 rfl (by decide) wc.heap.size rfl (HKE.out wc.drew (Nat.le_refl _)) v s.log.length 0 (logVals s.log) rfl (HKX.out _ b1) HLO.out hlm hlb b1.size ?_
        intro v1 w1 hown1 hgr1 hat1
        have b2 : Below wc.heap.size wc w1 := b1.grown hgr1 (by simp) (by simp)
        refine hK.out _ _ (fun _ => HKS.out _ b2) ?_; clear hK K; (try simp only [Act.put, List.setIfInBounds_toArray, List.set_cons_zero, List.set_cons_succ])
        refine wpAnyF_ready (rs := [8]) (by kernel_rfl) (by simp) ?_
        refine AllF.cons rfl (fun K hK => ?_) ?_
        · go_simp
          have b3 : Below wc.heap.size wc (w1.alloc (.cells #[.int .u8 k, .int .i64 m, .int .u64 a, .int .u64 b', .int .u64 x, .bool y2] 37)) := b2.alloc b2.size _
          refine hK.out _ _ (fun _ => HKS.out _ b3) ?_; clear hK K; (try simp only [Act.put, List.setIfInBounds_toArray, List.set_cons_zero, List.set_cons_succ])
          refine wpAnyF_ready (rs := [9]) (by kernel_rfl) (by simp) ?_
          refine AllF.cons rfl (fun K hK => ?_) ?_
          · refine step_append_own rfl (.tmp 104) (.tmp 106) 48 rfl wc.heap.size 37 i0 (.agg #[.int .u8 0, .int .i64 0, .int .u64 0, .int .u64 0, .int .u64 0, .bool false]) 6 48 Try.underlying48 hi hz0 hz1 hz2 rfl (by decide) v1 s.log.length (logVals s.log) rfl (hown1.alloc _) ⟨w1.heap.size, 0, none⟩ 1 1 [.int .u8 k, .int .i64 m, .int .u64 a, .int .u64 b', .int .u64 x, .bool y2] rfl rfl (HKN.out w1) HONE.out hlm1 hlb1 b3.size ?_
            intro v2 w2 hown2 hgr2 hat2
            have b4 : Below wc.heap.size wc w2 := b3.grown hgr2 b3.size (fun k hk => (hown1.lt k hk).1)
            refine hK.out _ _ (fun _ => HKS.out _ b4) ?_; clear hK K; (try simp only [Act.put, List.setIfInBounds_toArray, List.set_cons_zero, List.set_cons_succ])
            refine wpAnyF_ready (rs := [10]) (by kernel_rfl) (by simp) ?_
            refine AllF.cons rfl (fun K hK => ?_) AllF.nil
            go_simp
            refine hK.out _ _ (fun _ => HKS.out _ b4) ?_; clear hK K; (try simp only [Act.put, List.setIfInBounds_toArray, List.set_cons_zero, List.set_cons_succ])
            refine wpAnyF_ready (rs := [11]) (by kernel_rfl) (by simp) ?_
            refine AllF.cons rfl (fun K hK => ?_) AllF.nil
            go_simp
            refine hK.out _ _ (fun _ => HKS.out _ b4) ?_; clear hK K; (try simp only [Act.put, List.setIfInBounds_toArray, List.set_cons_zero, List.set_cons_succ])
            refine wpAnyF_ready (rs := [12]) (by kernel_rfl) (by simp) ?_
            refine AllF.cons rfl (fun K hK => ?_) AllF.nil
            obtain ⟨va, vc, rfl⟩ := ownsRow_slice hown2
            have hcell := (HKS.out _ b4).1
            have hfrz := HKF.out _ b4
            go_simp
            refine hK.out _ _ (fun h => absurd rfl h) ?_; clear hK K; (try simp only [Act.put, List.setIfInBounds_toArray, List.set_cons_zero, List.set_cons_succ]); refine wpAnyF_done (by kernel_rfl) ?_ _
            have hRf := rok_fin HR.out b4 hown2 (d := ⟨⟨k, m, a, b'⟩, x, y2⟩) rfl
            have hO2 := HO.out.after (Only.empty b4 (Nat.le_refl _)) (fun _ _ h => h.elim)
            have hO4 := (hO2.mono (T := fun k => k = wb ∨ k = b) (fun _ _ h => .inl h)).setCell (p := ⟨b, 1, none⟩) (.inr (.inr rfl)) (.slice va (s.log.length + 1) vc)
            have hDx := blk_other (bblk b4 HD'.out) (p := ⟨b, 1, none⟩) (by show w.heap.size + 1 + 1 ≠ b; omega) (.slice va (s.log.length + 1) vc)
            have hBx := blk_other (bblk b4 HB'.out) (p := ⟨b, 1, none⟩) (by show w.heap.size + 1 ≠ b; omega) (.slice va (s.log.length + 1) vc)
            have c0 := blk_cell hDx 0; have c1 := blk_cell hDx 1; have c2 := blk_cell hDx 2; have c3 := blk_cell hDx 3; have c4 := blk_cell hDx 4; have c5 := blk_cell hDx 5
            have x0 := blk_cell hBx 0; have x1 := blk_cell hBx 1; have x2 := blk_cell hBx 2; have x3 := blk_cell hBx 3; have x4 := blk_cell hBx 4; have x5 := blk_cell hBx 5
            have fx := blk_free hBx
            simp only [List.getElem?_toArray, List.getElem?_cons_zero, List.getElem?_cons_succ] at x0 x1 x2 x3 x4 x5 c0 c1 c2 c3 c4 c5
            have hv2 : ∀ j, (Value.slice va (s.log.length + 1) vc).ownBlock = some j → wc.heap.size ≤ j := fun j hj => (hown2.lt j hj).1
            have HRF := Lib.hid hRf; have HO4 := Lib.hid hO4; have HV2 := Lib.hid hv2; have HD4 := Lib.hid hDx; have HB4 := Lib.hid hBx
            clear hRf hO2 hO4 hDx hBx hown2 hgr2 hat2 hcell hfrz hv2
            go_wp2_with fail
            refine bodyPost_ret (v := .tuple #[dnv ⟨⟨k, m, a, b'⟩, x, y2⟩, .int .i64 0]) ?_ rfl ?_; (focus (simp [results, Try.results17, go_sem, dnv, x0, x1, x2, x3, x4, x5, c0, c1, c2, c3, c4, c5]; done))
            obtain ⟨hF1, hF2, hF3, hF4⟩ := HF.out
            have hfin := fun W' hW' => do_fin (W' := W') (w.heap.size + 1) HRF.out (HO4.out.mono (T := F) (fun j _ h => h.elim (fun h => h ▸ hF2) (fun h => h ▸ hF1))) hW' (by omega) (fun h => by have := HV2.out _ h; omega) hF1 hF2 (fun j hj => .inr (by have := HV2.out _ hj; omega)) hF4
            rw [DoPost, HDF'.out, HDE.out, HSF'.out]
            refine ⟨rfl, hfin _ ?_⟩
            repeat (first | (with_reducible exact Only.refl _ _) | (with_reducible apply Only.drew) | (with_reducible apply Only.drewN) | (with_reducible apply Only.alloc) | (with_reducible refine only_set' ?_ ?_ _; (focus ((try simp) <;> omega))))
          · exact AllF.nil
        · exact AllF.nil
      · refine AllF.cons rfl (fun K hK => ?_) AllF.nil
        go_simp
        have b2 : Below wc.heap.size wc ((wc.drew.alloc (.cells #[] 37)).alloc (.cells #[.int .u8 k, .int .i64 m, .int .u64 a, .int .u64 b', .int .u64 x, .bool y2] 37)) := b1.alloc b1.size _
        refine hK.out _ _ (fun _ => HKS.out _ b2) ?_; clear hK K; (try simp only [Act.put, List.setIfInBounds_toArray, List.set_cons_zero, List.set_cons_succ])
        refine wpAnyF_ready (rs := [6]) (by kernel_rfl) (by simp) ?_
        refine AllF.cons rfl (fun K hK => ?_) AllF.nil
        refine step_append_copy rfl (.tmp 99) (.tmp 103) 48 rfl wc.heap.size 37 i0 (.agg #[.int .u8 0, .int .i64 0, .int .u64 0, .int .u64 0, .int .u64 0, .bool false]) 6 48 Try.underlying48 hi hz0 hz1 hz2 rfl (by decide) wc.heap.size rfl ((HKE.out wc.drew (Nat.le_refl _)).alloc _) v s.log.length 0 (logVals s.log) rfl (HKX.out _ b2) HLO.out hlm hlb b2.size ?_
        intro v1 w1 hown1 hgr1 hat1
        have b3 : Below wc.heap.size wc w1 := b2.grown hgr1 b2.size (by simp)
        refine hK.out _ _ (fun _ => HKS.out _ b3) ?_; clear hK K; (try simp only [Act.put, List.setIfInBounds_toArray, List.set_cons_zero, List.set_cons_succ])
        refine wpAnyF_ready (rs := [9]) (by kernel_rfl) (by simp) ?_
        refine AllF.cons rfl (fun K hK => ?_) AllF.nil
        have hN1 : ∀ j u, ([.int .u8 k, .int .i64 m, .int .u64 a, .int .u64 b', .int .u64 x, .bool y2] : List Value)[j]? = some u → w1.cell? ((⟨wc.heap.size + 1, 0, none⟩ : Addr).add j) = some u := by
          intro j u hu
          have h1 := HKN.out (wc.drew.alloc (.cells #[] 37)) j u hu
          rw [show (wc.drew.alloc (.cells #[] 37)).heap.size = wc.heap.size + 1 by simp] at h1
          rw [Addr.add_lit] at h1 ⊢
          exact (Only.of_grown (S := fun k => wc.heap.size = k) hgr1 (fun k h => by injection h)).cell h1 (by show ¬ (wc.heap.size = wc.heap.size + 1); omega)
        refine step_append_own rfl (.tmp 104) (.tmp 106) 48 rfl wc.heap.size 37 i0 (.agg #[.int .u8 0, .int .i64 0, .int .u64 0, .int .u64 0, .int .u64 0, .bool false]) 6 48 Try.underlying48 hi hz0 hz1 hz2 rfl (by decide) v1 s.log.length (logVals s.log) rfl hown1 ⟨wc.heap.size + 1, 0, none⟩ 1 1 [.int .u8 k, .int .i64 m, .int .u64 a, .int .u64 b', .int .u64 x, .bool y2] rfl rfl hN1 HONE.out hlm1 hlb1 b3.size ?_
        intro v2 w2 hown2 hgr2 hat2
        have b4 : Below wc.heap.size wc w2 := b3.grown hgr2 b3.size (fun k hk => (hown1.lt k hk).1)
        clear hN1
        refine hK.out _ _ (fun _ => HKS.out _ b4) ?_; clear hK K; (try simp only [Act.put, List.setIfInBounds_toArray, List.set_cons_zero, List.set_cons_succ])
        refine wpAnyF_ready (rs := [10]) (by kernel_rfl) (by simp) ?_
        refine AllF.cons rfl (fun K hK => ?_) AllF.nil
        go_simp
        refine hK.out _ _ (fun _ => HKS.out _ b4) ?_; clear hK K; (try simp only [Act.put, List.setIfInBounds_toArray, List.set_cons_zero, List.set_cons_succ])
        refine wpAnyF_ready (rs := [11]) (by kernel_rfl) (by simp) ?_
        refine AllF.cons rfl (fun K hK => ?_) AllF.nil
        go_simp
        refine hK.out _ _ (fun _ => HKS.out _ b4) ?_; clear hK K; (try simp only [Act.put, List.setIfInBounds_toArray, List.set_cons_zero, List.set_cons_succ])
        refine wpAnyF_ready (rs := [12]) (by kernel_rfl) (by simp) ?_
        refine AllF.cons rfl (fun K hK => ?_) AllF.nil
        obtain ⟨va, vc, rfl⟩ := ownsRow_slice hown2
        have hcell := (HKS.out _ b4).1
        have hfrz := HKF.out _ b4
        go_simp
        refine hK.out _ _ (fun h => absurd rfl h) ?_; clear hK K; (try simp only [Act.put, List.setIfInBounds_toArray, List.set_cons_zero, List.set_cons_succ]); refine wpAnyF_done (by kernel_rfl) ?_ _
        have hRf := rok_fin HR.out b4 hown2 (d := ⟨⟨k, m, a, b'⟩, x, y2⟩) rfl
        have hO2 := HO.out.after (Only.empty b4 (Nat.le_refl _)) (fun _ _ h => h.elim)
        have hO4 := (hO2.mono (T := fun k => k = wb ∨ k = b) (fun _ _ h => .inl h)).setCell (p := ⟨b, 1, none⟩) (.inr (.inr rfl)) (.slice va (s.log.length + 1) vc)
        have hDx := blk_other (bblk b4 HD'.out) (p := ⟨b, 1, none⟩) (by show w.heap.size + 1 + 1 ≠ b; omega) (.slice va (s.log.length + 1) vc)
        have hBx := blk_other (bblk b4 HB'.out) (p := ⟨b, 1, none⟩) (by show w.heap.size + 1 ≠ b; omega) (.slice va (s.log.length + 1) vc)
        have c0 := blk_cell hDx 0; have c1 := blk_cell hDx 1; have c2 := blk_cell hDx 2; have c3 := blk_cell hDx 3; have c4 := blk_cell hDx 4; have c5 := blk_cell hDx 5
        have x0 := blk_cell hBx 0; have x1 := blk_cell hBx 1; have x2 := blk_cell hBx 2; have x3 := blk_cell hBx 3; have x4 := blk_cell hBx 4; have x5 := blk_cell hBx 5
        have fx := blk_free hBx
        simp only [List.getElem?_toArray, List.getElem?_cons_zero, List.getElem?_cons_succ] at x0 x1 x2 x3 x4 x5 c0 c1 c2 c3 c4 c5
        have hv2 : ∀ j, (Value.slice va (s.log.length + 1) vc).ownBlock = some j → wc.heap.size ≤ j := fun j hj => (hown2.lt j hj).1
        have HRF := Lib.hid hRf; have HO4 := Lib.hid hO4; have HV2 := Lib.hid hv2; have HD4 := Lib.hid hDx; have HB4 := Lib.hid hBx
        clear hRf hO2 hO4 hDx hBx hown2 hgr2 hat2 hcell hfrz hv2
        go_wp2_with fail
        refine bodyPost_ret (v := .tuple #[dnv ⟨⟨k, m, a, b'⟩, x, y2⟩, .int .i64 0]) ?_ rfl ?_; (focus (simp [results, Try.results17, go_sem, dnv, x0, x1, x2, x3, x4, x5, c0, c1, c2, c3, c4, c5]; done))
        obtain ⟨hF1, hF2, hF3, hF4⟩ := HF.out
        have hfin := fun W' hW' => do_fin (W' := W') (w.heap.size + 1) HRF.out (HO4.out.mono (T := F) (fun j _ h => h.elim (fun h => h ▸ hF2) (fun h => h ▸ hF1))) hW' (by omega) (fun h => by have := HV2.out _ h; omega) hF1 hF2 (fun j hj => .inr (by have := HV2.out _ hj; omega)) hF4
        rw [DoPost, HDF'.out, HDE.out, HSF'.out]
        refine ⟨rfl, hfin _ ?_⟩
        repeat (first | (with_reducible exact Only.refl _ _) | (with_reducible apply Only.drew) | (with_reducible apply Only.drewN) | (with_reducible apply Only.alloc) | (with_reducible refine only_set' ?_ ?_ _; (focus ((try simp) <;> omega))))
    · refine AllF.cons rfl (fun K hK => ?_) AllF.nil
      go_simp
      have b1 : Below wc.heap.size wc (wc.drew.alloc (.cells #[.int .u8 k, .int .i64 m, .int .u64 a, .int .u64 b', .int .u64 x, .bool y2] 37)) := ((Below.refl _ _).drew).alloc (Nat.le_refl _) _
      refine hK.out _ _ (fun _ => HKS.out _ b1) ?_; clear hK K; (try simp only [Act.put, List.setIfInBounds_toArray, List.set_cons_zero, List.set_cons_succ])
      refine wpAnyF_ready (rs := [1]) (by kernel_rfl) (by simp) ?_
      refine AllF.cons rfl (fun K hK => ?_) AllF.nil
      go_simp
      have b2 : Below wc.heap.size wc ((wc.drew.alloc (.cells #[.int .u8 k, .int .i64 m, .int .u64 a, .int .u64 b', .int .u64 x, .bool y2] 37)).alloc (.cells #[] 37)) := b1.alloc b1.size _
      refine hK.out _ _ (fun _ => HKS.out _ b2) ?_; clear hK K; (try simp only [Act.put, List.setIfInBounds_toArray, List.set_cons_zero, List.set_cons_succ])
      refine wpAnyF_ready (rs := [6]) (by kernel_rfl) (by simp) ?_
      refine AllF.cons rfl (fun K hK => ?_) AllF.nil
      have hE3 := HKE.out (wc.drew.alloc (.cells #[.int .u8 k, .int .i64 m, .int .u64 a, .int .u64 b', .int .u64 x, .bool y2] 37)) (by simp)
      rw [show (wc.drew.alloc (.cells #[.int .u8 k, .int .i64 m, .int .u64 a, .int .u64 b', .int .u64 x, .bool y2] 37)).heap.size = wc.heap.size + 1 by simp] at hE3
      refine step_append_copy rfl (.tmp 99) (.tmp 103) 48 rfl wc.heap.size 37 i0 (.agg #[.int .u8 0, .int .i64 0, .int .u64 0, .int .u64 0, .int .u64 0, .bool false]) 6 48 Try.underlying48 hi hz0 hz1 hz2 rfl (by decide) (wc.heap.size + 1) rfl hE3 v s.log.length 0 (logVals s.log) rfl (HKX.out _ b2) HLO.out hlm hlb b2.size ?_
      intro v1 w1 hown1 hgr1 hat1
      have b3 : Below wc.heap.size wc w1 := b2.grown hgr1 b2.size (by simp)
      clear hE3
      refine hK.out _ _ (fun _ => HKS.out _ b3) ?_; clear hK K; (try simp only [Act.put, List.setIfInBounds_toArray, List.set_cons_zero, List.set_cons_succ])
      refine wpAnyF_ready (rs := [9]) (by kernel_rfl) (by simp) ?_
      refine AllF.cons rfl (fun K hK => ?_) AllF.nil
      have hN1 : ∀ j u, ([.int .u8 k, .int .i64 m, .int .u64 a, .int .u64 b', .int .u64 x, .bool y2] : List Value)[j]? = some u → w1.cell? ((⟨wc.heap.size, 0, none⟩ : Addr).add j) = some u := by
        intro j u hu
        have h1 := HKN.out wc.drew j u hu
        rw [show wc.drew.heap.size = wc.heap.size from rfl] at h1
        rw [Addr.add_lit] at h1 ⊢
        have h2 := bkeep ((Below.refl _ (wc.drew.alloc (.cells #[.int .u8 k, .int .i64 m, .int .u64 a, .int .u64 b', .int .u64 x, .bool y2] 37))).alloc (Nat.le_refl _) (.cells #[] 37)) h1
        exact (Only.of_grown (S := fun k => wc.heap.size + 1 = k) hgr1 (fun k h => by injection h)).cell h2 (by show ¬ (wc.heap.size + 1 = wc.heap.size); omega)
      refine step_append_own rfl (.tmp 104) (.tmp 106) 48 rfl wc.heap.size 37 i0 (.agg #[.int .u8 0, .int .i64 0, .int .u64 0, .int .u64 0, .int .u64 0, .bool false]) 6 48 Try.underlying48 hi hz0 hz1 hz2 rfl (by decide) v1 s.log.length (logVals s.log) rfl hown1 ⟨wc.heap.size, 0, none⟩ 1 1 [.int .u8 k, .int .i64 m, .int .u64 a, .int .u64 b', .int .u64 x, .bool y2] rfl rfl hN1 HONE.out hlm1 hlb1 b3.size ?_
      intro v2 w2 hown2 hgr2 hat2
      have b4 : Below wc.heap.size wc w2 := b3.grown hgr2 b3.size (fun k hk => (hown1.lt k hk).1)
      clear hN1
      refine hK.out _ _ (fun _ => HKS.out _ b4) ?_; clear hK K; (try simp only [Act.put, List.setIfInBounds_toArray, List.set_cons_zero, List.set_cons_succ])
      refine wpAnyF_ready (rs := [10]) (by kernel_rfl) (by simp) ?_
      refine AllF.cons rfl (fun K hK => ?_) AllF.nil
      go_simp
      refine hK.out _ _ (fun _ => HKS.out _ b4) ?_; clear hK K; (try simp only [Act.put, List.setIfInBounds_toArray, List.set_cons_zero, List.set_cons_succ])
      refine wpAnyF_ready (rs := [11]) (by kernel_rfl) (by simp) ?_
      refine AllF.cons rfl (fun K hK => ?_) AllF.nil
      go_simp
      refine hK.out _ _ (fun _ => HKS.out _ b4) ?_; clear hK K; (try simp only [Act.put, List.setIfInBounds_toArray, List.set_cons_zero, List.set_cons_succ])
      refine wpAnyF_ready (rs := [12]) (by kernel_rfl) (by simp) ?_
      refine AllF.cons rfl (fun K hK => ?_) AllF.nil
      obtain ⟨va, vc, rfl⟩ := ownsRow_slice hown2
      have hcell := (HKS.out _ b4).1
      have hfrz := HKF.out _ b4
      go_simp
      refine hK.out _ _ (fun h => absurd rfl h) ?_; clear hK K; (try simp only [Act.put, List.setIfInBounds_toArray, List.set_cons_zero, List.set_cons_succ]); refine wpAnyF_done (by kernel_rfl) ?_ _
      have hRf := rok_fin HR.out b4 hown2 (d := ⟨⟨k, m, a, b'⟩, x, y2⟩) rfl
      have hO2 := HO.out.after (Only.empty b4 (Nat.le_refl _)) (fun _ _ h => h.elim)
      have hO4 := (hO2.mono (T := fun k => k = wb ∨ k = b) (fun _ _ h => .inl h)).setCell (p := ⟨b, 1, none⟩) (.inr (.inr rfl)) (.slice va (s.log.length + 1) vc)
      have hDx := blk_other (bblk b4 HD'.out) (p := ⟨b, 1, none⟩) (by show w.heap.size + 1 + 1 ≠ b; omega) (.slice va (s.log.length + 1) vc)
      have hBx := blk_other (bblk b4 HB'.out) (p := ⟨b, 1, none⟩) (by show w.heap.size + 1 ≠ b; omega) (.slice va (s.log.length + 1) vc)
      have c0 := blk_cell hDx 0; have c1 := blk_cell hDx 1; have c2 := blk_cell hDx 2; have c3 := blk_cell hDx 3; have c4 := blk_cell hDx 4; have c5 := blk_cell hDx 5
      have x0 := blk_cell hBx 0; have x1 := blk_cell hBx 1; have x2 := blk_cell hBx 2; have x3 := blk_cell hBx 3; have x4 := blk_cell hBx 4; have x5 := blk_cell hBx 5
      have fx := blk_free hBx
      simp only [List.getElem?_toArray, List.getElem?_cons_zero, List.getElem?_cons_succ] at x0 x1 x2 x3 x4 x5 c0 c1 c2 c3 c4 c5
      have hv2 : ∀ j, (Value.slice va (s.log.length + 1) vc).ownBlock = some j → wc.heap.size ≤ j := fun j hj => (hown2.lt j hj).1
      have HRF := Lib.hid hRf; have HO4 := Lib.hid hO4; have HV2 := Lib.hid hv2; have HD4 := Lib.hid hDx; have HB4 := Lib.hid hBx
      clear hRf hO2 hO4 hDx hBx hown2 hgr2 hat2 hcell hfrz hv2
      go_wp2_with fail
      refine bodyPost_ret (v := .tuple #[dnv ⟨⟨k, m, a, b'⟩, x, y2⟩, .int .i64 0]) ?_ rfl ?_; (focus (simp [results, Try.results17, go_sem, dnv, x0, x1, x2, x3, x4, x5, c0, c1, c2, c3, c4, c5]; done))
      obtain ⟨hF1, hF2, hF3, hF4⟩ := HF.out
      have hfin := fun W' hW' => do_fin (W' := W') (w.heap.size + 1) HRF.out (HO4.out.mono (T := F) (fun j _ h => h.elim (fun h => h ▸ hF2) (fun h => h ▸ hF1))) hW' (by omega) (fun h => by have := HV2.out _ h; omega) hF1 hF2 (fun j hj => .inr (by have := HV2.out _ hj; omega)) hF4
      rw [DoPost, HDF'.out, HDE.out, HSF'.out]
      refine ⟨rfl, hfin _ ?_⟩
      repeat (first | (with_reducible exact Only.refl _ _) | (with_reducible apply Only.drew) | (with_reducible apply Only.drewN) | (with_reducible apply Only.alloc) | (with_reducible refine only_set' ?_ ?_ _; (focus ((try simp) <;> omega))))

theorem rdo_any {F : Nat → Prop} (w : World) (b : Nat) (s : CSt) (hI : s.Inv) (hl : s.log.length < 1000) (h : CellsAt 71 w b F s) (o : OpV) (ho : o.Fit) :
    Calls Try.prog 17 #[ptr b, opv o] w (DoPost 71 w b F s o) := by
  cases hr : s.inr o.c with
  | false => exact rdo_range w b s h o hr
  | true =>
    by_cases hk : o.k < 1 ∨ 4 < o.k
    · exact rdo_form w b s hI h o ho hr hk
    · exact rdo_in w b s hI hl h o ho hr (by omega)
end Go.Proofs.Ytiopopplbehieaa.Cel
