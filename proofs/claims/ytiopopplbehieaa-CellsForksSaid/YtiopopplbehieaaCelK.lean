/- Fork of both. -/
import Derived.Test.YtiopopplbehieaaCelQ
import Derived.Test.YtiopopplbehieaaCopy
import Derived.Deep.RegionHeld3
namespace Go.Proofs.Ytiopopplbehieaa.Cel
open Go.RowKit
set_option linter.unusedSimpArgs false
set_option linter.unusedVariables false

def ForkPost (T : TypeId) (w : World) (s : CSt) (e : Ending) (w' : World) : Prop :=
  ∃ f, e = .returned (ptr f) ∧ CellsAt T w' f (Grow (fun _ => False) w w') s ∧ Below w.heap.size w w'

structure Made (w wc : World) (n m f wr lr : Nat) : Prop where
  box : wc.heap[f]? = some (.cells #[.slice (some ⟨wr, 0, none⟩) n n, .slice (some ⟨lr, 0, none⟩) m m] 66 (0, 0))
  wrow : wc.heap[wr]? = some (.cells (madeCells #[.int .u64 0] n) 23 (0, 0))
  lrow : wc.heap[lr]? = some (.cells (madeCells #[.int .u8 0, .int .i64 0, .int .u64 0, .int .u64 0, .int .u64 0, .bool false] (m * 6)) 37 (0, 0))
  ne1 : f ≠ wr
  ne2 : f ≠ lr
  ne3 : wr ≠ lr
  lo : w.heap.size ≤ f ∧ w.heap.size ≤ wr ∧ w.heap.size ≤ lr
  bel : Below w.heap.size w wc

theorem fork_any {F : Nat → Prop} (w : World) (b : Nat) (s : CSt) (hI : s.Inv) (h : CellsAt 66 w b F s) : Calls Try.prog 15 #[ptr b] w (ForkPost 66 w s) := by
  obtain ⟨wb, wcap, v, h, _⟩ := h
  obtain ⟨la, lc, rfl⟩ := ownsRow_slice h.log
  have h0 := blk_cell h.obj 0; have h1 := blk_cell h.obj 1
  simp only [List.getElem?_toArray, List.getElem?_cons_zero, List.getElem?_cons_succ] at h0 h1
  have hn := hI.small
  have hm := hI.log
  have H := Lib.hid h
  have hblt := h.lt.1
  clear h hI
  obtain ⟨n, hn'⟩ : ∃ n, s.ws.length = n := ⟨_, rfl⟩
  obtain ⟨m, hm'⟩ : ∃ m, s.log.length = m := ⟨_, rfl⟩
  rw [hn'] at h0 hn; rw [hm'] at h1 hm
  have HN := Lib.hid hn'; have HM := Lib.hid hm'; clear hn' hm'
  have hmkW := run_make_row' (P := Try.prog) 46 23 (.int .u64 0) 8 Try.underlying46 infoW rfl .i64 .i64 n (by omega) (by omega)
  obtain ⟨i0, hi, hz0, hz1, hz2⟩ := info_parts infoL
  have hmkL : ∀ W : World, (Instr.makeSlice 48 (.int .i64 (m : Int)) (.int .i64 (m : Int))).run Try.prog W = .ok (.slice (some ⟨W.heap.size, 0, none⟩) m m) (W.alloc (.cells (madeCells #[.int .u8 0, .int .i64 0, .int .u64 0, .int .u64 0, .int .u64 0, .bool false] (m * 6)) 37)) := by
    intro W
    have := run_make (P := Try.prog) W 48 37 i0 _ Try.underlying48 hi hz0 .i64 .i64 m m (by omega) (by omega) (by rw [hz2]; omega) (by omega)
    rw [hz1] at this
    simpa [show (Value.agg #[Value.int IntKind.u8 0, Value.int IntKind.i64 0, Value.int IntKind.u64 0, Value.int IntKind.u64 0, Value.int IntKind.u64 0, Value.bool false]).cells = #[Value.int IntKind.u8 0, Value.int IntKind.i64 0, Value.int IntKind.u64 0, Value.int IntKind.u64 0, Value.int IntKind.u64 0, Value.bool false] from rfl] using this
  have HKS := Lib.hid (show ∀ w', Below w.heap.size w w' → w'.cell? ⟨b, 0, none⟩ = some (.slice (some ⟨wb, 0, none⟩) n wcap) ∧ w'.cell? ⟨b, 1, none⟩ = some (.slice la m lc) from fun w' h => ⟨bkeep h h0, bkeep h h1⟩)
  go_enter Try.func15, Try.ntmps15
  go_upto_region 3 with (fail)
  go_cut [3] (fun s3 wc => ∃ f wr lr, s3 = ptr f ∧ Made w wc n m f wr lr)
  case first =>
    go_region_held3 (fun w' => w'.cell? ⟨b, 0, none⟩ = some (.slice (some ⟨wb, 0, none⟩) n wcap) ∧ w'.cell? ⟨b, 1, none⟩ = some (.slice la m lc)) (exact HKS.out _ (by repeat (first | (with_reducible exact Below.refl _ _) | (with_reducible apply Below.drew) | (with_reducible refine below_drewN ?_ _) | (with_reducible refine below_alloc' ?_ ?_ _; (focus ((try simp) <;> omega))) | (with_reducible refine below_set' ?_ ?_ _; (focus ((try simp) <;> omega)))))) (fail)
    all_goals go_wp2_with fail
    · go_meet
      case rel =>
        exact ⟨_, w.heap.size, w.heap.size + 1, rfl, by simp [↓heap_alloc_eq, ↓heap_set_eq, ↓heap_drew_eq, ↓heap_drewN_eq, setObj, size_drewN], by simp [↓heap_alloc_eq, ↓heap_set_eq, ↓heap_drew_eq, ↓heap_drewN_eq, setObj, size_drewN]; try omega, by simp [↓heap_alloc_eq, ↓heap_set_eq, ↓heap_drew_eq, ↓heap_drewN_eq, setObj, size_drewN]; try omega, by omega, by omega, by omega, ⟨by omega, by omega, by omega⟩, by repeat (first | (with_reducible exact Below.refl _ _) | (with_reducible apply Below.drew) | (with_reducible refine below_drewN ?_ _) | (with_reducible refine below_alloc' ?_ ?_ _; (focus ((try simp) <;> omega))) | (with_reducible refine below_set' ?_ ?_ _; (focus ((try simp) <;> omega))))⟩
    · go_meet
      case rel =>
        exact ⟨_, w.heap.size + 1, w.heap.size, rfl, by simp [↓heap_alloc_eq, ↓heap_set_eq, ↓heap_drew_eq, ↓heap_drewN_eq, setObj, size_drewN], by simp [↓heap_alloc_eq, ↓heap_set_eq, ↓heap_drew_eq, ↓heap_drewN_eq, setObj, size_drewN]; try omega, by simp [↓heap_alloc_eq, ↓heap_set_eq, ↓heap_drew_eq, ↓heap_drewN_eq, setObj, size_drewN]; try omega, by omega, by omega, by omega, ⟨by omega, by omega, by omega⟩, by repeat (first | (with_reducible exact Below.refl _ _) | (with_reducible apply Below.drew) | (with_reducible refine below_drewN ?_ _) | (with_reducible refine below_alloc' ?_ ?_ _; (focus ((try simp) <;> omega))) | (with_reducible refine below_set' ?_ ?_ _; (focus ((try simp) <;> omega))))⟩
  case rest =>
    obtain ⟨f, wr, lr, rfl, hM⟩ := hcut
    have HMd := Lib.hid hM
    clear hmkW hmkL h0 h1 hM
    have f0 := blk_cell HMd.out.box 0; have f1 := blk_cell HMd.out.box 1
    simp only [List.getElem?_toArray, List.getElem?_cons_zero, List.getElem?_cons_succ] at f0 f1
    obtain ⟨h0, h1⟩ := HKS.out wc HMd.out.bel
    have hX := H.out.keep (Only.empty HMd.out.bel (Nat.le_refl _)) (fun h => h) (fun h => h) (fun _ _ h => h)
    have HX := Lib.hid hX; clear hX
    have hfl := blk_lt HMd.out.box
    go_wp2_with fail
    refine wp_region_tail 8 (by kernel_rfl) (by kernel_rfl) ?_; simp only [List.take_succ_cons, List.take_zero, List.drop_succ_cons, List.drop_zero]
    repeat (first | (with_reducible refine wpStill_skip ?_ ?_; (focus (simp [Region.wanted, yielded]; done)); simp only [Act.put, List.setIfInBounds_toArray, List.set_cons_succ, List.set_cons_zero]) | (with_reducible refine wpStill_step (fun KK hKK => ?_); go_simp; refine hKK _ ?_; clear hKK KK))
    with_reducible refine wpStill_nil ?_
    obtain ⟨j0, hj, hj0, hj1, hj2⟩ := info_parts infoW
    have hRW := HX.out.ws
    rw [HN.out] at hRW
    refine wpList_copy_all rfl (.tmp 23) (.tmp 27) 46 rfl 23 j0 1 Try.underlying46 hj hj1 wr n rfl _ HMd.out.wrow (by simp [size_madeCells]) (.slice (some ⟨wb, 0, none⟩) n wcap) 0 (wordVals s.ws) rfl hRW (wordVals_one _) (by unfold maxLen; omega) ?_
    intro w1 hw1 o1'
    have o1 : Only (fun k => k = wr) wc w1 := ⟨o1'.os, o1'.tape, o1'.output, o1'.size, o1'.block⟩
    clear o1'
    have hbw : b ≠ wr := by have := HMd.out.lo.2.1; omega
    have f1 := o1.cell (p := ⟨f, 1, none⟩) f1 HMd.out.ne1
    have h1 := o1.cell (p := ⟨b, 1, none⟩) h1 hbw
    have hlr := o1.blk HMd.out.lrow (fun h => HMd.out.ne3 h.symm)
    have hbx := o1.blk HMd.out.box HMd.out.ne1
    have hRL := ownsRow_only HX.out.log o1 (fun k hk (h : k = wr) => by have := ownsRow_lt H.out.log hk; have := HMd.out.lo.2.1; omega)
    rw [HM.out] at hRL
    have HW1 := Lib.hid hw1; have O1 := Lib.hid o1; have HLR := Lib.hid hlr; have HBX := Lib.hid hbx; have HRL := Lib.hid hRL
    clear hw1 o1 hlr hbx hRL hRW f0 h0
    go_wp2_with fail
    refine wp_region_tail 8 (by kernel_rfl) (by kernel_rfl) ?_; simp only [List.take_succ_cons, List.take_zero, List.drop_succ_cons, List.drop_zero]
    repeat (first | (with_reducible refine wpStill_skip ?_ ?_; (focus (simp [Region.wanted, yielded]; done)); simp only [Act.put, List.setIfInBounds_toArray, List.set_cons_succ, List.set_cons_zero]) | (with_reducible refine wpStill_step (fun KK hKK => ?_); go_simp; refine hKK _ ?_; clear hKK KK))
    with_reducible refine wpStill_nil ?_
    refine wpList_copy_all rfl (.tmp 32) (.tmp 36) 48 rfl 37 i0 6 Try.underlying48 hi hz1 lr m rfl _ HLR.out (by simp [size_madeCells]) (.slice la m lc) 0 (logVals s.log) rfl HRL.out (logVals_one _) (by unfold maxLen; omega) ?_
    intro w2 hw2 o2'
    have o2 : Only (fun k => k = lr) w1 w2 := ⟨o2'.os, o2'.tape, o2'.output, o2'.size, o2'.block⟩
    clear o2'
    have HW2 := Lib.hid hw2; have O2 := Lib.hid o2
    clear hw2 o2
    go_wp2_with fail
    go_ret
    have b1 : Below w.heap.size w w1 := HMd.out.bel.trans (O1.out.below (B := w.heap.size) HMd.out.bel.size (fun k hk h => by have := HMd.out.lo.2.1; omega))
    have b2 : Below w.heap.size w w2 := b1.trans (O2.out.below (B := w.heap.size) b1.size (fun k hk h => by have := HMd.out.lo.2.2; omega))
    have e1 : wr < w2.heap.size := Nat.lt_of_lt_of_le (blk_lt HMd.out.wrow) (Nat.le_trans O1.out.size O2.out.size)
    have e2 : lr < w2.heap.size := Nat.lt_of_lt_of_le (blk_lt HLR.out) O2.out.size
    have e3 : f < w2.heap.size := Nat.lt_of_lt_of_le (blk_lt HBX.out) O2.out.size
    have ws2 := ownsRow_only (HW1.out 0 (Nat.zero_le _)) O2.out (fun k hk h => by
      injection hk with hk
      exact HMd.out.ne3 (hk.trans h))
    have lg2 := HW2.out 0 (Nat.zero_le _)
    refine ⟨f, rfl, ⟨wr, n, .slice (some ⟨lr, 0, none⟩) m m, ⟨?_, ?_, ?_, HMd.out.ne1, ?_, ?_⟩, ?_, ?_, ?_, ?_⟩, b2⟩
    · rw [HN.out]
      exact O2.out.blk HBX.out HMd.out.ne2
    · rw [HN.out]
      exact ws2
    · rw [HM.out]
      exact lg2
    · intro h
      injection h with h
      exact HMd.out.ne2 h.symm
    · intro h
      injection h with h
      exact HMd.out.ne3 h.symm
    · exact .inr ⟨HMd.out.lo.1, e3⟩
    · exact .inr ⟨HMd.out.lo.2.1, e1⟩
    · intro k hk
      injection hk with hk
      subst hk
      exact .inr ⟨HMd.out.lo.2.2, e2⟩
    · exact Within.grow (fun k h => h.elim) b2.size

theorem rfork_any {F : Nat → Prop} (w : World) (b : Nat) (s : CSt) (hI : s.Inv) (hp : 0 < s.ws.length) (h : CellsAt 71 w b F s) : Calls Try.prog 16 #[ptr b] w (ForkPost 71 w s) := by
  have H := Lib.hid h; have HI := Lib.hid hI; clear h hI
  go_enter Try.func16, Try.ntmps16
  go_wp2_with fail
  refine (rwords_any w b s HI.out H.out).mono ?_
  rintro e w1 ⟨v1, rfl, r1, l1⟩
  have H1 := Lib.hid (H.out.below l1); have L1 := Lib.hid l1; have R1 := Lib.hid r1
  clear r1 l1 H
  go_wp2_with fail
  refine (rlog_any w1 b s HI.out H1.out).mono ?_
  rintro e w2 ⟨v2, rfl, r2, l2⟩
  have R1' := Lib.hid (ownsRow_only R1.out (Only.empty l2 (Nat.le_refl _)) (fun _ _ h => h)); have L2 := Lib.hid (btrans L1.out (Nat.le_refl _) l2); have R2 := Lib.hid r2
  have s12 := l2.size
  have hno : ∀ k, v1.ownBlock = some k → k < w1.heap.size := fun k hk => ownsRow_lt R1.out hk
  have HNO := Lib.hid hno
  clear r2 l2 hno H1 L1 R1
  rcases R1'.out.2 with ⟨h0, hz⟩ | ⟨g, cap, cur, hv, _⟩
  · omega
  subst hv
  have hg1 : g < w1.heap.size := HNO.out g rfl
  obtain ⟨va, vc, rfl⟩ := ownsRow_slice R2.out
  go_wp2_with fail
  go_ret
  have b2 : Below w.heap.size w (w2.alloc (.cells #[.slice (some ⟨g, 0, none⟩) s.ws.length cap, .slice va s.log.length vc] 71)) := L2.out.alloc L2.out.size _
  have hb := blk_new w2 (.cells #[.slice (some ⟨g, 0, none⟩) s.ws.length cap, .slice va s.log.length vc] 71)
  have ra := ownsRow_base (base' := 0) (R1'.out.alloc (.cells #[.slice (some ⟨g, 0, none⟩) s.ws.length cap, .slice va s.log.length vc] 71)) (fun _ _ => Nat.zero_le _)
  have rb := ownsRow_base (base' := 0) (R2.out.alloc (.cells #[.slice (some ⟨g, 0, none⟩) s.ws.length cap, .slice va s.log.length vc] 71)) (fun _ _ => Nat.zero_le _)
  have hg := R1'.out.lt g rfl
  have h2 : ∀ k, (Value.slice va s.log.length vc).ownBlock = some k → w1.heap.size ≤ k ∧ k < w2.heap.size := fun k hk => R2.out.lt k hk
  refine ⟨w2.heap.size, rfl, ⟨g, cap, _, ⟨hb, ra, rb, by omega, ?_, ?_⟩, ?_, ?_, ?_, ?_⟩, b2⟩
  · intro h
    have := (h2 _ h).2
    omega
  · intro h
    have := (h2 _ h).1
    omega
  · exact .inr ⟨L2.out.size, by simp⟩
  · exact .inr ⟨hg.1, by simp; omega⟩
  · intro k hk
    have := h2 k hk
    have := R2.out.lt k hk
    exact .inr ⟨Nat.le_trans (show w.heap.size ≤ w1.heap.size from (by have := hg.1; omega)) this.1, by simp; omega⟩
  · exact Within.grow (fun k h => h.elim) b2.size

theorem Pair.fork {w0 w w1 w2 : World} {n k c r f g : Nat} {F G : Nat → Prop} {s : CSt} (h : Pair w0 w n k c r F G s)
    (hf : CellsAt 66 w1 f (Grow (fun _ => False) w w1) s) (l1 : Below w.heap.size w w1) (hg : CellsAt 71 w2 g (Grow (fun _ => False) w1 w2) s) (l2 : Below w1.heap.size w1 w2) :
    Pair w w2 n k f g (Grow (fun _ => False) w w1) (Grow (fun _ => False) w1 w2) s := by
  refine ⟨⟨hf.below l2, hg, ?_, h.b.inv⟩, h.p, grow_lo (fun _ h => h.elim) (Nat.le_refl _), grow_lo (fun _ h => h.elim) l1.size, l1.trans (l2.mono l1.size)⟩
  rintro k (h | ⟨h1, h2⟩) (h' | ⟨h3, h4⟩)
  · exact h
  · exact h
  · exact h'
  · omega
end Go.Proofs.Ytiopopplbehieaa.Cel
