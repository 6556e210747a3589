/- The other side: Register. -/
import Derived.Test.YtddcpehncbcliaaWaiS
import Derived.Deep.MidRow
import Derived.Laws.Rows
import Derived.Laws.Tables
import Derived.Deep.WholeRow
namespace Go.Proofs.Ytddcpehncbcliaa.Wai
open Go.RowKit
set_option linter.unusedSimpArgs false
set_option linter.unusedVariables false

theorem infoO : (Try.prog.info? 76).map (fun i => (i.zero, i.size, i.bytes)) = some (some (.agg (rcW ⟨0, 0, false⟩).toArray), 14, 24) := by kernel_rfl
theorem sizeO : (Try.prog.info? 76).map (·.size) = some 14 := by kernel_rfl
theorem zO : (Value.agg (rcW ⟨0, 0, false⟩).toArray).cells.size = 14 := by kernel_rfl
theorem rcW_set (th : Int) (s t : Nat) (b : Bool) (h : t < 12) : (rcW ⟨th, s, b⟩).set (1 + t) (.bool true) = rcW ⟨th, s ||| 2 ^ t, b⟩ := by
  unfold rcW
  rw [show 1 + t = t + 1 by omega, List.set_cons_succ]
  simp only
  congr 1
  rw [List.set_append_left _ _ (by simpa using h)]
  congr 1
  apply List.ext_getElem?
  intro j
  rw [List.getElem?_set]
  by_cases hj : j < 12
  · by_cases hjt : t = j
    · subst hjt
      rw [if_pos rfl, if_pos (by simpa using h)]
      simp [hj, Nat.testBit_or, Nat.testBit_two_pow]
    · rw [if_neg hjt]
      simp [hj, Nat.testBit_or, Nat.testBit_two_pow, hjt]
  · rw [if_neg (by omega), List.getElem?_eq_none (by simp; omega), List.getElem?_eq_none (by simp; omega)]
theorem fold_one (x : Wt) : Array.foldl (fun (cs : Array Value) (y : Value × Nat) => cs.setIfInBounds y.2 y.1) #[.int .i64 0, .bool false, .bool false, .bool false, .bool false, .bool false, .bool false, .bool false, .bool false, .bool false, .bool false, .bool false, .bool false, .bool false] (rcW x).toArray.zipIdx 0 14 = (rcW x).toArray := by kernel_rfl
/-- the row is the old one or a new one -/
def Fresh (w w' : World) (b : Nat) : Prop := ∀ v k, w'.cell? ⟨b, 0, none⟩ = some v → v.ownBlock = some k → w.cell? ⟨b, 0, none⟩ = some v ∨ w.heap.size ≤ k
theorem Fresh.refl (w : World) (b : Nat) : Fresh w w b := fun v k h _ => .inl h
theorem Fresh.below {w w' : World} {b : Nat} (l : Below w.heap.size w w') (hb : b < w.heap.size) : Fresh w w' b := fun v k h _ => .inl ((l.cell (show (⟨b, 0, none⟩ : Addr).block < _ from hb)).symm.trans h)
def ROpPost (w : World) (b : Nat) (er : Int) (ws : Ws) (e : Ending) (w' : World) : Prop := e = .returned (.int .i64 er) ∧ Only (fun k => k = b) w w' ∧ RAt w' b ws ∧ Fresh w w' b
theorem RAt.op {w w' : World} {b : Nat} {ws : Ws} (h : RAt w b ws) (l : Below w.heap.size w w') : Only (fun k => k = b) w w' ∧ RAt w' b ws ∧ Fresh w w' b :=
  ⟨Only.of_below l fun k hk h => absurd hk (Nat.not_lt.2 h), h.below l, Fresh.below l h.lt⟩
theorem empty_row (w : World) (e : TypeId) (size base : Nat) (hb : base ≤ w.heap.size) : (w.alloc (.cells #[] e)).ownsRow base e size (.slice (some ⟨w.heap.size, 0, none⟩) 0 0) 0 [] :=
  ⟨by simp, .inr ⟨w.heap.size, 0, #[], rfl, hb, blk_new _ _, Nat.le_refl _, by decide, by simp, by simp⟩⟩
theorem range_blk {w : World} {b : Nat} {cs : List Value} {A : Array Value} {t : TypeId} {fr : Nat × Nat} (h : w.heap[b]? = some (.cells A t fr)) (hA : A.toList = cs) : w.rangeAt b 0 cs := by
  intro j v hv
  rw [Nat.zero_add, blk_cell h j, ← hv, ← hA]
  simp
theorem blk_news {w : World} {b : Nat} {cs : List Value} {A : Array Value} {t : TypeId} {fr : Nat × Nat} (h : w.heap[b]? = some (.cells A t fr)) (hA : A.toList = cs) : ∀ j u, cs[j]? = some u → w.cell? ((⟨b, 0, none⟩ : Addr).add j) = some u := by
  intro j u hu
  rw [Addr.add_lit, Nat.zero_add, blk_cell h j, ← hu, ← hA]
  simp
/-- the end of what turns the other side's row -/
theorem row_end {w w5 : World} {b n : Nat} {ws : Ws} {va : Option Addr} {vc : Nat} {v : Value} (hb : w.heap[b]? = some (.cells #[v] 71 (0, 0))) (hl : Below w.heap.size w w5)
    (hown : w5.ownsRow w.heap.size 76 14 (.slice va n vc) n (rowW ws)) (hn : ws.length = n) (hwf : WfW ws) :
    Only (fun k => k = b) w (w5.setCell ⟨b, 0, none⟩ (.slice va n vc)) ∧ RAt (w5.setCell ⟨b, 0, none⟩ (.slice va n vc)) b ws ∧ Fresh w (w5.setCell ⟨b, 0, none⟩ (.slice va n vc)) b := by
  have hblt := blk_lt hb
  have hb5 := bblk hl hb
  have ho4 : Only (fun q => q = b) w5 (w5.setCell ⟨b, 0, none⟩ (.slice va n vc)) := (Only.refl (fun q => q = b) w5).setCell (p := ⟨b, 0, none⟩) (.inr rfl) _
  have hset : (w5.setCell ⟨b, 0, none⟩ (.slice va n vc)).heap[b]? = some (.cells #[.slice va n vc] 71 (0, 0)) := by
    have := blk_set hb5 0 (.slice va n vc)
    simpa using this
  refine ⟨(Only.of_below hl fun k hk h => absurd hk (Nat.not_lt.2 h)).trans ho4, ⟨va, vc, ?_, ?_, hwf⟩, ?_⟩
  · rw [hn]
    exact hset
  · rw [hn]
    refine ownsRow_base (ownsRow_only hown ho4 (fun k hk e => ?_)) (fun _ _ => Nat.zero_le _)
    have := (hown.lt k hk).1
    omega
  · intro u k hu hk
    have hc := blk_cell hset 0
    rw [hc] at hu
    simp only [List.getElem?_toArray, List.getElem?_cons_zero] at hu
    injection hu with hu
    subst hu
    exact .inr (hown.lt k hk).1
set_option maxRecDepth 50000 in
set_option maxHeartbeats 6400000 in
theorem rreg_any (w : World) (b : Nat) (ws : Ws) (h : RAt w b ws) (th : Int) (a : Option Addr) (m c : Nat) (ts : List Int) (hts : IntsIn w a m ts) (hm : m ≤ 1000000) :
    Calls Try.prog 40 #[ptr b, .int .i64 th, .slice a m c] w (ROpPost w b (regE ws th ts) (regS ws th ts)) := by
  obtain ⟨i0, hi, hz0, hz1, hz2⟩ := info_parts infoO
  have H := Lib.hid h
  have HMAY := Lib.hid (rmay_any w b th)
  have HTS := Lib.hid hts
  have HL := Lib.hid hts.1
  unfold ROpPost
  by_cases ht : okTh th
  · have hg : getEr th = 0 := by unfold getEr; rw [if_pos ht]
    rw [hg] at HMAY
    have HWF := Lib.hid (h.wf.reg th ts)
    have hE' : regE ws th ts = if ts.all okB = false then 2 else if ts = [] then 3 else if (findW ws th).isSome then 6 else 0 := by
      unfold regE
      rw [if_neg (by simpa using ht)]
    have HE := Lib.hid hE'
    have HS := Lib.hid (show regS ws th ts = if regE ws th ts = 0 then ws ++ [⟨th, setN ts, false⟩] else ws from rfl)
    generalize regE ws th ts = er at *
    generalize regS ws th ts = ws' at *
    obtain ⟨la, lc, hb, ho, hwf⟩ := h
    have HB := Lib.hid hb; have HO := Lib.hid ho; have HWF0 := Lib.hid hwf
    have hlen := hwf.len
    have hblt := blk_lt hb
    clear hg hE' ht hts hb ho hwf
    go_enter Try.func40, Try.ntmps40
    go_wp2_with fail; refine (HMAY.out).mono ?_; rintro e w0 ⟨rfl, rfl⟩
    go_wp2_with fail
    have hA0 : (#[.int .i64 th, .bool false, .bool false, .bool false, .bool false, .bool false, .bool false, .bool false, .bool false, .bool false, .bool false, .bool false, .bool false, .bool false] : Array Value).toList = rcW ⟨th, 0, false⟩ := by simp [rcW, List.range, List.range.loop]
    have HA0 := Lib.hid hA0
    clear hA0
    refine wp_at (fun w' => Below w.heap.size w w' ∧ ∃ A : Array Value, A.toList = rcW ⟨th, 0, false⟩ ∧ w'.heap[w.heap.size]? = some (.cells A 76 (0, 0))) ⟨by repeat (first | (with_reducible exact Below.refl _ _) | (with_reducible apply Below.drew) | (with_reducible refine below_drewN ?_ _) | (with_reducible refine below_alloc' ?_ ?_ _; (focus ((try simp) <;> omega))) | (with_reducible refine below_set' ?_ ?_ _; (focus ((try simp) <;> omega)))), _, HA0.out, by simp [↓heap_alloc_eq, ↓heap_set_eq, ↓heap_drew_eq, ↓heap_drewN_eq, setObj, size_drewN]⟩ ?_
    rintro W1 ⟨l1, A0, hA0, hx0⟩
    have L1 := Lib.hid l1; have HX0 := Lib.hid hx0; have HAA := Lib.hid hA0
    obtain ⟨xb, hxb⟩ : ∃ xb, w.heap.size = xb := ⟨_, rfl⟩
    have HXB := Lib.hid hxb
    have hxlt : xb ≤ w.heap.size := by omega
    rw [hxb] at HX0 ⊢
    clear l1 hx0 hA0 HA0 hxb
    go_loopw [9] (fun i wr => ∃ (k : Nat) (A : Array Value), i = .int .i64 k ∧ k ≤ m ∧ (ts.take k).all okB = true ∧ A.toList = rcW ⟨th, setN (ts.take k), false⟩ ∧ wr.heap[xb]? = some (.cells A 76 (0, 0)) ∧ Below w.heap.size w wr) (fun i _ => m - (intOf i).toNat)
    case atStart => exact ⟨0, A0, rfl, Nat.zero_le _, rfl, HAA.out, HX0.out, L1.out⟩
    case round =>
      obtain ⟨k, A, rfl, hk, hall, hA, hx, hB⟩ := hrel
      have HB1 := Lib.hid hB; have HAL := Lib.hid hA; have HX := Lib.hid hx; have HALL := Lib.hid hall
      by_cases hlt : k < m
      · obtain ⟨g, off, rfl, hc⟩ := HTS.out.2.resolve_left (by omega)
        have c0 := bkeep hB (hc k hlt)
        have hT := take_snoc ts k (by rw [HL.out]; exact hlt)
        have hmem : ts.getD k 0 ∈ ts := by rw [List.getD_eq_getElem?_getD, List.getElem?_eq_getElem (by rw [HL.out]; exact hlt)]; exact List.getElem_mem _
        have HT := Lib.hid hT; have HM := Lib.hid hmem
        clear hc hT hmem hall hA hB
        generalize ts.getD k 0 = t at *
        by_cases h0 : t < 0
        · have hd : decide (t < 0) = true := by simpa using h0
          have hbad : ts.all okB = false := by rw [List.all_eq_false]; exact ⟨t, HM.out, by simp [okB]; omega⟩
          have HER := Lib.hid (show er = 2 by rw [HE.out, hbad]; rfl)
          have HSR := Lib.hid (show ws' = ws by rw [HS.out, HER.out]; rfl)
          clear h0 hbad hx
          go_wp2_with fail
          go_ret
          rw [HER.out, HSR.out]
          exact ⟨rfl, H.out.op HB1.out⟩
        · have hd : decide (t < 0) = false := by simpa using h0
          by_cases h12 : 12 ≤ t
          · have hd2 : decide (12 ≤ t) = true := by simpa using h12
            have hbad : ts.all okB = false := by rw [List.all_eq_false]; exact ⟨t, HM.out, by simp [okB]; omega⟩
            have HER := Lib.hid (show er = 2 by rw [HE.out, hbad]; rfl)
            have HSR := Lib.hid (show ws' = ws by rw [HS.out, HER.out]; rfl)
            clear h0 hbad hx h12
            go_wp2_with fail
            go_ret
            rw [HER.out, HSR.out]
            exact ⟨rfl, H.out.op HB1.out⟩
          · have hd2 : decide (12 ≤ t) = false := by simpa using h12
            obtain ⟨q, rfl⟩ : ∃ q : Nat, t = q := ⟨t.toNat, by omega⟩
            have hq : q < 12 := by omega
            have hq12 : (q : Int) < 12 := by omega
            have hcq : ∃ v, A[1 + q]? = some v := by
              have h14 : A.size = 14 := by have := congrArg List.length HAL.out; simpa [rcW_len] using this
              exact ⟨A[1 + q]'(by omega), Array.getElem?_eq_getElem _⟩
            obtain ⟨v0, hv0⟩ := hcq
            have cq := blk_cell hx (1 + q)
            rw [hv0] at cq
            have fq := blk_free hx (1 + q)
            have HX2 := Lib.hid (blk_set hx (1 + q) (.bool true))
            have HA2 := Lib.hid (show (A.setIfInBounds (1 + q) (.bool true)).toList = rcW ⟨th, setN (ts.take (k + 1)), false⟩ by
              rw [Array.toList_setIfInBounds, HAL.out, rcW_set _ _ _ _ hq, HT.out, setN_snoc]; rfl)
            have HALL2 := Lib.hid (show (ts.take (k + 1)).all okB = true by rw [HT.out, List.all_append, HALL.out]; simp [okB]; omega)
            clear h0 h12 hx hv0
            go_wp2_with fail
            exact ⟨⟨k + 1, _, by go_num, by omega, HALL2.out, HA2.out, HX2.out, HB1.out.setCell (p := ⟨xb, 1 + q, none⟩) (by show w.heap.size ≤ xb; rw [HXB.out]; exact Nat.le_refl _) _⟩, by simp [intOf]; omega⟩
      · obtain rfl : k = m := by omega
        rw [List.take_of_length_le (by rw [HL.out]; exact Nat.le_refl _)] at hall hA
        rw [hall, if_neg (by decide)] at HE
        have HRAT := Lib.hid (rat_any wr b ws (H.out.below hB) th)
        by_cases hnil : ts = []
        · have hk0 : k = 0 := by rw [← HL.out, hnil]; rfl
          have HER := Lib.hid (show er = 3 by rw [HE.out, if_pos hnil])
          have HSR := Lib.hid (show ws' = ws by rw [HS.out, HER.out]; rfl)
          subst hk0
          clear hnil hall hA hx hB
          go_wp2_with fail
          go_ret
          rw [HER.out, HSR.out]
          exact ⟨rfl, H.out.op HB1.out⟩
        · have hk0 : ((k : Int) == 0) = false := by
            have : ts.length ≠ 0 := fun h => hnil (List.length_eq_zero_iff.1 h)
            have := HL.out
            simp; omega
          rw [if_neg hnil] at HE
          clear hnil hall hB
          go_wp2_with fail
          refine HRAT.out.mono ?_
          rintro e w0 ⟨rfl, ⟨hf, rfl⟩ | ⟨kk, x, hxk, hf, rfl⟩⟩
          · have HER := Lib.hid (show er = 0 by rw [HE.out, hf]; rfl)
            have HSR := Lib.hid (show ws' = ws ++ [⟨th, setN ts, false⟩] by rw [HS.out, HER.out]; rfl)
            have HX0W := Lib.hid (show WfW (ws ++ [⟨th, setN ts, false⟩]) from HSR.out ▸ HWF.out)
            obtain ⟨x0, hx0⟩ : ∃ x0 : Wt, (⟨th, setN ts, false⟩ : Wt) = x0 := ⟨_, rfl⟩
            rw [hx0] at hA HX0W HSR
            obtain ⟨n, hn⟩ : ∃ n, ws.length = n := ⟨_, rfl⟩
            have HN := Lib.hid hn
            rw [hn] at HB HO hlen
            have hbr := bblk HB1.out HB.out
            have hor := ownsRow_only HO.out (Only.empty HB1.out (Nat.le_refl _)) (fun _ _ h => h)
            have EA := Lib.hid (show (rcW x0).toArray = A by rw [← hA])
            have EAL := Lib.hid hA
            have HSZ := Lib.hid (show A.size = 14 by have := congrArg List.length hA; simpa [rcW_len] using this)
            have HA1 := Lib.hid (show A.all (·.oneCell') = true from Array.all_eq_true_iff_forall_mem.2 (fun v hv => rcW_one x0 v (by rw [← hA]; simpa using hv)))
            have KW := Lib.hid (show ∀ W, Below wr.heap.size wr W → (W.cell? ⟨b, 0, none⟩ = some (.slice la n lc) ∧ W.rangeAt xb 0 (rcW x0) ∧ W.ownsRow 0 76 14 (.slice la n lc) n (rowW ws)) from fun W l => ⟨blk_cell (bblk l hbr) 0, range_blk (bblk l hx) hA, ownsRow_only hor (Only.empty l (Nat.le_refl _)) (fun _ _ h => h)⟩)
            have KF := Lib.hid (show ∀ W, Below wr.heap.size wr W → W.frozen? ⟨b, 0, none⟩ = false from fun W l => blk_free (bblk l hbr) 0)
            have hsz14 : A.size = 14 := HSZ.out
            have hfold := fold_one x0
            rw [EA.out] at hfold
            have hwr := HB1.out.size
            have hblr : b < wr.heap.size := blk_lt hbr
            clear hf HE HS hA hx hx0 hbr hor hn HRAT
            go_wp2_with fail
            have hS0 : Below wr.heap.size wr wr.drew := (Below.refl _ _).drew
            refine wp_region_F (fun w' => Below wr.heap.size wr w') 12 (by kernel_rfl) ?_
            refine wpAnyF_take (i := 0) (v := ?_) rfl (by kernel_rfl) (by kernel_rfl) (by kernel_rfl) (by kernel_rfl) (fun _ _ _ h => h) (Or.inl ⟨by rfl, ?_⟩) (by assumption) ?_; rotate_left; (focus (intro w hSw; (skip); (first | (go_simp; done) | (go_simp; with_reducible rfl)))); (try simp only [Act.put, List.setIfInBounds_toArray, List.set_cons_zero, List.set_cons_succ])
            refine wpAnyF_take (i := 2) (v := ?_) rfl (by kernel_rfl) (by kernel_rfl) (by kernel_rfl) (by kernel_rfl) (fun _ _ _ h => h) (Or.inl ⟨by rfl, ?_⟩) (by assumption) ?_; rotate_left; (focus (intro w hSw; (skip); (first | (go_simp; done) | (go_simp; with_reducible rfl)))); (try simp only [Act.put, List.setIfInBounds_toArray, List.set_cons_zero, List.set_cons_succ])
            refine wpAnyF_take (i := 3) (v := ?_) rfl (by kernel_rfl) (by kernel_rfl) (by kernel_rfl) (by kernel_rfl) (fun _ _ _ h => h) (Or.inl ⟨by rfl, ?_⟩) (by assumption) ?_; rotate_left; (focus (intro w hSw; (skip); (first | (go_simp; done) | (go_simp; with_reducible rfl)))); (try simp only [Act.put, List.setIfInBounds_toArray, List.set_cons_zero, List.set_cons_succ])
            refine wpAnyF_take (i := 4) (v := ?_) rfl (by kernel_rfl) (by kernel_rfl) (by kernel_rfl) (by kernel_rfl) (fun _ _ _ h => h) (Or.inl ⟨by rfl, ?_⟩) (by assumption) ?_; rotate_left; (focus (intro w hSw; (skip); (first | (go_simp; done) | (go_simp; with_reducible rfl)))); (try simp only [Act.put, List.setIfInBounds_toArray, List.set_cons_zero, List.set_cons_succ])
            refine wpAnyF_take (i := 5) (v := ?_) rfl (by kernel_rfl) (by kernel_rfl) (by kernel_rfl) (by kernel_rfl) (fun _ _ _ h => h) (Or.inl ⟨by rfl, ?_⟩) (by assumption) ?_; rotate_left; (focus (intro w hSw; (obtain ⟨q0, q1, q2⟩ := KW.out _ hSw); (first | (go_simp; done) | (go_simp; with_reducible rfl)))); (try simp only [Act.put, List.setIfInBounds_toArray, List.set_cons_zero, List.set_cons_succ])
            refine wpAnyF_take (i := 7) (v := .agg (rcW x0).toArray) rfl (by kernel_rfl) (by kernel_rfl) (by kernel_rfl) (by kernel_rfl) (fun _ _ _ h => h) (yieldsIf_load_mid ?_ 76 _ rfl xb (0) rfl (rcW x0) _ ?_ Try.underlying76 rfl (by rw [sizeO, rcW_len])) (by assumption) ?_; (focus (rfl)); (focus (exact fun w h => (KW.out w h).2.1)); (try simp only [Act.put, List.setIfInBounds_toArray, List.set_cons_zero, List.set_cons_succ]); rw [EA.out]
            refine wpAnyF_ready (rs := [1, 8]) (by kernel_rfl) (by simp) ?_
            refine AllF.cons rfl (fun K hK => ?_) ?_
            · go_simp
              refine hK.out _ _ (fun _ => ?_) ?_; (focus (repeat (first | (with_reducible exact Below.refl _ _) | (with_reducible apply Below.drew) | (with_reducible refine below_drewN ?_ _) | (with_reducible refine below_alloc' ?_ ?_ _; (focus ((try simp) <;> omega))) | (with_reducible refine below_set' ?_ ?_ _; (focus ((try simp) <;> omega)))))); clear hK K; (try simp only [Act.put, List.setIfInBounds_toArray, List.set_cons_zero, List.set_cons_succ])
              refine wpAnyF_ready (rs := [6, 8]) (by kernel_rfl) (by simp) ?_
              refine AllF.cons rfl (fun K hK => ?_) ?_
              · -- the copy ahead of the new one's block
                have lA : Below wr.heap.size wr (wr.drew.alloc (.cells #[] 76)) := by repeat (first | (with_reducible exact Below.refl _ _) | (with_reducible apply Below.drew) | (with_reducible refine below_drewN ?_ _) | (with_reducible refine below_alloc' ?_ ?_ _; (focus ((try simp) <;> omega))) | (with_reducible refine below_set' ?_ ?_ _; (focus ((try simp) <;> omega))))
                refine step_append_copy rfl (.tmp 52) (.tmp 56) 69 rfl w.heap.size 76 i0 (.agg (rcW ⟨0, 0, false⟩).toArray) 14 24 Try.underlying69 hi hz0 hz1 hz2 zO (by decide) wr.heap.size rfl (empty_row wr.drew 76 14 w.heap.size hwr) (.slice la n lc) n 0 (rowW ws) rfl (KW.out _ lA).2.2 (rowW_one ws) (by unfold maxLen; omega) (by omega) (Nat.le_trans hwr lA.size) ?_
                intro v1 w2 hown1 hgr1 hat1
                obtain ⟨v1a, v1c, rfl⟩ := ownsRow_slice hown1
                have lB : Below wr.heap.size wr w2 := lA.grown hgr1 lA.size (fun k hk => by injection hk with hk; omega)
                refine hK.out _ _ (fun _ => lB) ?_; clear hK K; (try simp only [Act.put, List.setIfInBounds_toArray, List.set_cons_zero, List.set_cons_succ])
                refine wpAnyF_ready (rs := [8]) (by kernel_rfl) (by simp) ?_
                refine AllF.cons rfl (fun K hK => ?_) AllF.nil
                go_simp
                have lC : Below wr.heap.size wr (w2.alloc (.cells A 76)) := lB.alloc lB.size _
                have hown1' := ownsRow_only hown1 (Only.empty (show Below w2.heap.size w2 (w2.alloc (.cells A 76)) from by repeat (first | (with_reducible exact Below.refl _ _) | (with_reducible apply Below.drew) | (with_reducible refine below_drewN ?_ _) | (with_reducible refine below_alloc' ?_ ?_ _; (focus ((try simp) <;> omega))) | (with_reducible refine below_set' ?_ ?_ _; (focus ((try simp) <;> omega))))) (Nat.le_refl _)) (fun _ _ h => h)
                refine hK.out _ _ (fun _ => lC) ?_; clear hK K; (try simp only [Act.put, List.setIfInBounds_toArray, List.set_cons_zero, List.set_cons_succ])
                refine wpAnyF_ready (rs := [9]) (by kernel_rfl) (by simp) ?_; refine AllF.cons rfl (fun K hK => ?_) AllF.nil; refine step_append_own rfl (.tmp 57) (.tmp 59) 69 rfl w.heap.size 76 i0 (.agg (rcW ⟨0, 0, false⟩).toArray) 14 24 Try.underlying69 hi hz0 hz1 hz2 zO (by decide) (.slice v1a n v1c) n (rowW ws) rfl hown1' ⟨w2.heap.size, 0, none⟩ 1 1 (rcW x0) rfl (by rw [rcW_len]) (blk_news (blk_new w2 (.cells A 76)) EAL.out) (rcW_one x0) (by unfold maxLen; omega) (by omega) (Nat.le_trans hwr (lC).size) ?_; intro v2 w3 hown2 hgr2 hat2; obtain ⟨v2a, v2c, rfl⟩ := ownsRow_slice hown2; have lD : Below wr.heap.size wr w3 := (lC).grown hgr2 (lC).size (fun k hk => by rcases hat1 with h | h <;> (have e := h.symm.trans hk; have := lA.size; simp at e this; omega)); refine hK.out _ _ (fun _ => lD) ?_; clear hK K; (try simp only [Act.put, List.setIfInBounds_toArray, List.set_cons_zero, List.set_cons_succ]); refine wpAnyF_ready (rs := [10]) (by kernel_rfl) (by simp) ?_; refine AllF.cons rfl (fun K hK => ?_) AllF.nil; go_simp; refine hK.out _ _ (fun _ => lD) ?_; clear hK K; (try simp only [Act.put, List.setIfInBounds_toArray, List.set_cons_zero, List.set_cons_succ]); refine wpAnyF_ready (rs := [11]) (by kernel_rfl) (by simp) ?_; refine AllF.cons rfl (fun K hK => ?_) AllF.nil; go_simp; refine hK.out _ _ (fun _ => lD) ?_; clear hK K; (try simp only [Act.put, List.setIfInBounds_toArray, List.set_cons_zero, List.set_cons_succ]); refine wpAnyF_ready (rs := [12]) (by kernel_rfl) (by simp) ?_; refine AllF.cons rfl (fun K hK => ?_) AllF.nil; have q0 := (KW.out _ lD).1; have qf := KF.out _ lD; go_simp; refine hK.out _ _ (fun h => absurd rfl h) ?_; clear hK K; (try simp only [Act.put, List.setIfInBounds_toArray, List.set_cons_zero, List.set_cons_succ]); refine wpAnyF_done (by kernel_rfl) ?_ _; have HO2 := Lib.hid hown2; have LD := Lib.hid lD; clear hown1' hgr1 hat1 hgr2 hat2 hown2 lD; go_wp2_with fail; go_ret; rw [HER.out, HSR.out]; have hnd := row_end (ws := ws ++ [x0]) HB.out (btrans HB1.out (Nat.le_refl _) LD.out) (by rw [rowW_append]; have e : rowW [x0] = rcW x0 := (by simp [rowW]); rw [e]; exact HO2.out) (by rw [List.length_append, HN.out]; rfl) HX0W.out; exact ⟨rfl, hnd.1, hnd.2⟩
              refine AllF.cons rfl (fun K hK => ?_) AllF.nil
              go_simp
              refine hK.out _ _ (fun _ => ?_) ?_; (focus (repeat (first | (with_reducible exact Below.refl _ _) | (with_reducible apply Below.drew) | (with_reducible refine below_drewN ?_ _) | (with_reducible refine below_alloc' ?_ ?_ _; (focus ((try simp) <;> omega))) | (with_reducible refine below_set' ?_ ?_ _; (focus ((try simp) <;> omega)))))); clear hK K; (try simp only [Act.put, List.setIfInBounds_toArray, List.set_cons_zero, List.set_cons_succ])
              refine wpAnyF_ready (rs := [6]) (by kernel_rfl) (by simp) ?_
              refine AllF.cons rfl (fun K hK => ?_) AllF.nil
              have lA : Below wr.heap.size wr ((wr.drew.alloc (.cells #[] 76)).alloc (.cells A 76)) := by repeat (first | (with_reducible exact Below.refl _ _) | (with_reducible apply Below.drew) | (with_reducible refine below_drewN ?_ _) | (with_reducible refine below_alloc' ?_ ?_ _; (focus ((try simp) <;> omega))) | (with_reducible refine below_set' ?_ ?_ _; (focus ((try simp) <;> omega))))
              refine step_append_copy rfl (.tmp 52) (.tmp 56) 69 rfl w.heap.size 76 i0 (.agg (rcW ⟨0, 0, false⟩).toArray) 14 24 Try.underlying69 hi hz0 hz1 hz2 zO (by decide) wr.heap.size rfl ((empty_row wr.drew 76 14 w.heap.size hwr).alloc _) (.slice la n lc) n 0 (rowW ws) rfl (KW.out _ lA).2.2 (rowW_one ws) (by unfold maxLen; omega) (by omega) (Nat.le_trans hwr lA.size) ?_
              intro v1 w2 hown1' hgr1 hat1
              obtain ⟨v1a, v1c, rfl⟩ := ownsRow_slice hown1'
              have lC : Below wr.heap.size wr w2 := lA.grown hgr1 lA.size (fun k hk => by injection hk with hk; omega)
              have he8 : (wr.drew.alloc (.cells #[] 76)).heap.size = wr.heap.size + 1 := by simp
              have hp8 : w2.heap[wr.heap.size + 1]? = some (.cells A 76 (0, 0)) := (Only.of_grown (S := fun k => k = wr.heap.size) hgr1 (fun k h => by injection h with h; exact h.symm)).blk (he8 ▸ blk_new _ _) (by show ¬ (wr.heap.size + 1 = wr.heap.size); omega)
              refine hK.out _ _ (fun _ => lC) ?_; clear hK K; (try simp only [Act.put, List.setIfInBounds_toArray, List.set_cons_zero, List.set_cons_succ])
              refine wpAnyF_ready (rs := [9]) (by kernel_rfl) (by simp) ?_; refine AllF.cons rfl (fun K hK => ?_) AllF.nil; refine step_append_own rfl (.tmp 57) (.tmp 59) 69 rfl w.heap.size 76 i0 (.agg (rcW ⟨0, 0, false⟩).toArray) 14 24 Try.underlying69 hi hz0 hz1 hz2 zO (by decide) (.slice v1a n v1c) n (rowW ws) rfl hown1' ⟨wr.heap.size + 1, 0, none⟩ 1 1 (rcW x0) rfl (by rw [rcW_len]) (blk_news (hp8) EAL.out) (rcW_one x0) (by unfold maxLen; omega) (by omega) (Nat.le_trans hwr (lC).size) ?_; intro v2 w3 hown2 hgr2 hat2; obtain ⟨v2a, v2c, rfl⟩ := ownsRow_slice hown2; have lD : Below wr.heap.size wr w3 := (lC).grown hgr2 (lC).size (fun k hk => by rcases hat1 with h | h <;> (have e := h.symm.trans hk; have := lA.size; simp at e this; omega)); refine hK.out _ _ (fun _ => lD) ?_; clear hK K; (try simp only [Act.put, List.setIfInBounds_toArray, List.set_cons_zero, List.set_cons_succ]); refine wpAnyF_ready (rs := [10]) (by kernel_rfl) (by simp) ?_; refine AllF.cons rfl (fun K hK => ?_) AllF.nil; go_simp; refine hK.out _ _ (fun _ => lD) ?_; clear hK K; (try simp only [Act.put, List.setIfInBounds_toArray, List.set_cons_zero, List.set_cons_succ]); refine wpAnyF_ready (rs := [11]) (by kernel_rfl) (by simp) ?_; refine AllF.cons rfl (fun K hK => ?_) AllF.nil; go_simp; refine hK.out _ _ (fun _ => lD) ?_; clear hK K; (try simp only [Act.put, List.setIfInBounds_toArray, List.set_cons_zero, List.set_cons_succ]); refine wpAnyF_ready (rs := [12]) (by kernel_rfl) (by simp) ?_; refine AllF.cons rfl (fun K hK => ?_) AllF.nil; have q0 := (KW.out _ lD).1; have qf := KF.out _ lD; go_simp; refine hK.out _ _ (fun h => absurd rfl h) ?_; clear hK K; (try simp only [Act.put, List.setIfInBounds_toArray, List.set_cons_zero, List.set_cons_succ]); refine wpAnyF_done (by kernel_rfl) ?_ _; have HO2 := Lib.hid hown2; have LD := Lib.hid lD; clear hown1' hgr1 hat1 hgr2 hat2 hown2 lD; go_wp2_with fail; go_ret; rw [HER.out, HSR.out]; have hnd := row_end (ws := ws ++ [x0]) HB.out (btrans HB1.out (Nat.le_refl _) LD.out) (by rw [rowW_append]; have e : rowW [x0] = rcW x0 := (by simp [rowW]); rw [e]; exact HO2.out) (by rw [List.length_append, HN.out]; rfl) HX0W.out; exact ⟨rfl, hnd.1, hnd.2⟩
            refine AllF.cons rfl (fun K hK => ?_) AllF.nil
            go_simp
            refine hK.out _ _ (fun _ => ?_) ?_; (focus (repeat (first | (with_reducible exact Below.refl _ _) | (with_reducible apply Below.drew) | (with_reducible refine below_drewN ?_ _) | (with_reducible refine below_alloc' ?_ ?_ _; (focus ((try simp) <;> omega))) | (with_reducible refine below_set' ?_ ?_ _; (focus ((try simp) <;> omega)))))); clear hK K; (try simp only [Act.put, List.setIfInBounds_toArray, List.set_cons_zero, List.set_cons_succ])
            refine wpAnyF_ready (rs := [1]) (by kernel_rfl) (by simp) ?_
            refine AllF.cons rfl (fun K hK => ?_) AllF.nil
            go_simp
            refine hK.out _ _ (fun _ => ?_) ?_; (focus (repeat (first | (with_reducible exact Below.refl _ _) | (with_reducible apply Below.drew) | (with_reducible refine below_drewN ?_ _) | (with_reducible refine below_alloc' ?_ ?_ _; (focus ((try simp) <;> omega))) | (with_reducible refine below_set' ?_ ?_ _; (focus ((try simp) <;> omega)))))); clear hK K; (try simp only [Act.put, List.setIfInBounds_toArray, List.set_cons_zero, List.set_cons_succ])
            refine wpAnyF_ready (rs := [6]) (by kernel_rfl) (by simp) ?_
            refine AllF.cons rfl (fun K hK => ?_) AllF.nil
            have lA : Below wr.heap.size wr ((wr.drew.alloc (.cells A 76)).alloc (.cells #[] 76)) := by repeat (first | (with_reducible exact Below.refl _ _) | (with_reducible apply Below.drew) | (with_reducible refine below_drewN ?_ _) | (with_reducible refine below_alloc' ?_ ?_ _; (focus ((try simp) <;> omega))) | (with_reducible refine below_set' ?_ ?_ _; (focus ((try simp) <;> omega))))
            have he8 : (wr.drew.alloc (.cells A 76)).heap.size = wr.heap.size + 1 := by simp
            have hemp := empty_row (wr.drew.alloc (.cells A 76)) 76 14 w.heap.size (Nat.le_trans hwr (by simp))
            rw [he8] at hemp
            refine step_append_copy rfl (.tmp 52) (.tmp 56) 69 rfl w.heap.size 76 i0 (.agg (rcW ⟨0, 0, false⟩).toArray) 14 24 Try.underlying69 hi hz0 hz1 hz2 zO (by decide) (wr.heap.size + 1) rfl hemp (.slice la n lc) n 0 (rowW ws) rfl (KW.out _ lA).2.2 (rowW_one ws) (by unfold maxLen; omega) (by omega) (Nat.le_trans hwr lA.size) ?_
            intro v1 w2 hown1' hgr1 hat1
            obtain ⟨v1a, v1c, rfl⟩ := ownsRow_slice hown1'
            have lC : Below wr.heap.size wr w2 := lA.grown hgr1 lA.size (fun k hk => by injection hk with hk; omega)
            have hp8 : w2.heap[wr.heap.size]? = some (.cells A 76 (0, 0)) := (Only.of_grown (S := fun k => k = wr.heap.size + 1) hgr1 (fun k h => by injection h with h; exact h.symm)).blk (blk_alloc (blk_new wr.drew (.cells A 76)) _) (by show ¬ (wr.heap.size = wr.heap.size + 1); omega)
            refine hK.out _ _ (fun _ => lC) ?_; clear hK K; (try simp only [Act.put, List.setIfInBounds_toArray, List.set_cons_zero, List.set_cons_succ])
            refine wpAnyF_ready (rs := [9]) (by kernel_rfl) (by simp) ?_; refine AllF.cons rfl (fun K hK => ?_) AllF.nil; refine step_append_own rfl (.tmp 57) (.tmp 59) 69 rfl w.heap.size 76 i0 (.agg (rcW ⟨0, 0, false⟩).toArray) 14 24 Try.underlying69 hi hz0 hz1 hz2 zO (by decide) (.slice v1a n v1c) n (rowW ws) rfl hown1' ⟨wr.heap.size, 0, none⟩ 1 1 (rcW x0) rfl (by rw [rcW_len]) (blk_news (hp8) EAL.out) (rcW_one x0) (by unfold maxLen; omega) (by omega) (Nat.le_trans hwr (lC).size) ?_; intro v2 w3 hown2 hgr2 hat2; obtain ⟨v2a, v2c, rfl⟩ := ownsRow_slice hown2; have lD : Below wr.heap.size wr w3 := (lC).grown hgr2 (lC).size (fun k hk => by rcases hat1 with h | h <;> (have e := h.symm.trans hk; have := lA.size; simp at e this; omega)); refine hK.out _ _ (fun _ => lD) ?_; clear hK K; (try simp only [Act.put, List.setIfInBounds_toArray, List.set_cons_zero, List.set_cons_succ]); refine wpAnyF_ready (rs := [10]) (by kernel_rfl) (by simp) ?_; refine AllF.cons rfl (fun K hK => ?_) AllF.nil; go_simp; refine hK.out _ _ (fun _ => lD) ?_; clear hK K; (try simp only [Act.put, List.setIfInBounds_toArray, List.set_cons_zero, List.set_cons_succ]); refine wpAnyF_ready (rs := [11]) (by kernel_rfl) (by simp) ?_; refine AllF.cons rfl (fun K hK => ?_) AllF.nil; go_simp; refine hK.out _ _ (fun _ => lD) ?_; clear hK K; (try simp only [Act.put, List.setIfInBounds_toArray, List.set_cons_zero, List.set_cons_succ]); refine wpAnyF_ready (rs := [12]) (by kernel_rfl) (by simp) ?_; refine AllF.cons rfl (fun K hK => ?_) AllF.nil; have q0 := (KW.out _ lD).1; have qf := KF.out _ lD; go_simp; refine hK.out _ _ (fun h => absurd rfl h) ?_; clear hK K; (try simp only [Act.put, List.setIfInBounds_toArray, List.set_cons_zero, List.set_cons_succ]); refine wpAnyF_done (by kernel_rfl) ?_ _; have HO2 := Lib.hid hown2; have LD := Lib.hid lD; clear hown1' hgr1 hat1 hgr2 hat2 hown2 lD; go_wp2_with fail; go_ret; rw [HER.out, HSR.out]; have hnd := row_end (ws := ws ++ [x0]) HB.out (btrans HB1.out (Nat.le_refl _) LD.out) (by rw [rowW_append]; have e : rowW [x0] = rcW x0 := (by simp [rowW]); rw [e]; exact HO2.out) (by rw [List.length_append, HN.out]; rfl) HX0W.out; exact ⟨rfl, hnd.1, hnd.2⟩
          · have HER := Lib.hid (show er = 6 by rw [HE.out, hf]; rfl)
            have HSR := Lib.hid (show ws' = ws by rw [HS.out, HER.out]; rfl)
            clear hf hxk hx hA
            go_wp2_with fail
            go_ret
            rw [HER.out, HSR.out]
            exact ⟨rfl, H.out.op HB1.out⟩
  · have hg : getEr th = 2 := by unfold getEr; rw [if_neg ht]
    have hE : regE ws th ts = 2 := by unfold regE; rw [if_pos ht]
    have hS : regS ws th ts = ws := by unfold regS; rw [hE]; rfl
    rw [hg] at HMAY
    rw [hE, hS]
    clear hg hE hS h hts ht
    go_enter Try.func40, Try.ntmps40
    go_wp2_with fail; refine (HMAY.out).mono ?_; rintro e w0 ⟨rfl, rfl⟩
    go_wp2_with fail
    go_ret
    exact ⟨rfl, Only.refl _ _, H.out, Fresh.refl _ _⟩
end Go.Proofs.Ytddcpehncbcliaa.Wai
