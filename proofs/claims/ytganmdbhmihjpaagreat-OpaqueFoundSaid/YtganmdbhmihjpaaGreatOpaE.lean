/- The real side: slices.Sorted(slices.Values(..)) of ints. -/
import Derived.Test.YtganmdbhmihjpaaGreatOpaD
import Derived.Test.YtganmdbhmihjpaaGreatOpaSort
import Derived.Sort.OwnSortedInts
import Derived.RangeFuncNested
import Derived.RangeFuncBound
import Derived.RangeFuncCalls
import Derived.RangeFuncLeaves
import Derived.RangeFuncBox
import Derived.Maps.AppendAt
import Derived.Shelf.Abstract
import Derived.Shelf.RegionOpen
import Derived.WalkKit
import Derived.OwnWalkIn
import Derived.TacticsInMore
import Derived.LoopNIn
import Derived.LoopIn
namespace Go.Proofs.YtganmdbhmihjpaaGreat.Opa
open Go.RowKit Go.Shelf Go.Sort Go.Proofs.YtganmdbhmihjpaaGreat.Wri Go.Proofs.YtganmdbhmihjpaaGreat.His
set_option linter.unusedSimpArgs false
set_option linter.unusedVariables false
set_option maxRecDepth 50000
attribute [local go_sem] Oper.semAt_some

theorem take_all (ts : List Int) : ts.take ts.length = ts := List.take_of_length_le (Nat.le_refl _)
set_option maxRecDepth 100000 in
set_option maxHeartbeats 2000000 in
theorem values1_in (n : Nat) (hn : 1 ≤ n) (l Bs n₀ b off len cap : Nat) (zs : List Int) (hz : zs.length = len) (hreach : len ≤ 1000000) (hb : b < n₀) (J Jx : List Int → World → Prop)
    (hY : ∀ pre x W, J pre W → pre.length < len → YieldAt Fence.wide (n - 1) Tryz.prog l #[.int .i64 x] W fun e W' =>
      (e = .returned (.bool true) ∧ J (pre ++ [x]) W' ∧ Below n₀ W W') ∨ (e = .returned (.bool false) ∧ Jx (pre ++ [x]) W'))
    (W : World) (hBs : W.cell? ⟨Bs, 0, none⟩ = some (.slice (some ⟨b, off, none⟩) len cap)) (hc : ∀ j, j < len → W.cell? ⟨b, off + j, none⟩ = some (.int .i64 (zs.getD j 0))) (h0 : J [] W) :
    CallsIn Fence.wide n Tryz.prog 87 #[.func (.yield l) #[] #[], .pointer (some ⟨Bs, 0, none⟩)] W fun e W' => (∃ v, e = .returned v) ∧
      ((∃ ys, ys = zs ∧ J ys W') ∨ (∃ pre, pre <+: zs ∧ Jx pre W')) := by
  refine callsIn_of_wp Tryz.func87 rfl trivial ?_ rfl
  simp only [Tryz.ntmps87, List.size_toArray, List.length_cons, List.length_nil, Nat.reduceAdd, Nat.reduceSub, Array.replicate_succ, Array.replicate_zero, List.push_toArray, List.append_toArray, List.nil_append, List.cons_append]
  gi_wp2
  gi_loopw [7] (fun i wr => ∃ k : Nat, k ≤ len ∧ i = .int .i64 k ∧ J (zs.take k) wr ∧ Below n₀ W wr)
    (fun i _ => len - (intOf i).toNat)
  case atStart => exact ⟨0, Nat.zero_le _, rfl, h0, Below.refl _ _⟩
  case round =>
    obtain ⟨k, hk, rfl, hJs, hnx⟩ := hrel
    have hcx : k < len → wr.cell? ⟨b, off + k, none⟩ = some (.int .i64 (zs.getD k 0)) := fun h => (hnx.cell (p := ⟨b, off + k, none⟩) hb).trans (hc k h)
    by_cases hlt : k < len
    · have hT := take_snoc zs k (by omega)
      obtain ⟨t, ht⟩ : ∃ t, zs.getD k 0 = t := ⟨_, rfl⟩
      rw [ht] at hcx hT
      obtain ⟨fn, tmps, assign, body, hy, hR⟩ := hY _ t wr hJs (by rw [List.length_take]; omega)
      rw [← hT] at hR
      have HT := Lib.hid hT
      clear hT ht
      have hcx' := hcx hlt
      gi_wp2
      refine hR.mono ?_
      rintro e W3 (⟨rfl, hJ3, hk3⟩ | ⟨rfl, hJx3⟩)
      · gi_wp2
        go_roundw
        case rel => exact ⟨k + 1, by omega, by simp, hJ3, hnx.trans hk3⟩
        case measure => simp [intOf]; omega
      · gi_wp2
        refine bodyPost_ret (results_none rfl _ _ _) rfl ?_
        exact ⟨⟨_, rfl⟩, .inr ⟨_, List.take_prefix _ _, hJx3⟩⟩
    · obtain rfl : k = len := by omega
      gi_wp2
      go_end0
      exact ⟨⟨_, rfl⟩, .inl ⟨_, List.take_of_length_le (by omega), hJs⟩⟩
set_option maxRecDepth 100000 in
set_option maxHeartbeats 1000000 in
theorem values1_nil_in (n : Nat) (l Bs : Nat) (a : Option Addr) (cap : Nat) (J : List Int → World → Prop) (W : World) (hBs : W.cell? ⟨Bs, 0, none⟩ = some (.slice a 0 cap)) (h0 : J [] W) :
    CallsIn Fence.wide n Tryz.prog 87 #[.func (.yield l) #[] #[], .pointer (some ⟨Bs, 0, none⟩)] W fun e W' => (∃ v, e = .returned v) ∧ J [] W' := by
  refine callsIn_of_wp Tryz.func87 rfl trivial ?_ rfl
  simp only [Tryz.ntmps87, List.size_toArray, List.length_cons, List.length_nil, Nat.reduceAdd, Nat.reduceSub, Array.replicate_succ, Array.replicate_zero, List.push_toArray, List.append_toArray, List.nil_append, List.cons_append]
  gi_wp2
  gi_loopw [7] (fun i wr => i = .int .i64 0 ∧ J [] wr) (fun _ _ => 0)
  case atStart => exact ⟨rfl, h0⟩
  case round =>
    obtain ⟨rfl, hJs⟩ := hrel
    gi_wp2
    go_end0
    exact ⟨⟨_, rfl⟩, hJs⟩
theorem values_any (a : Option Addr) (len cap : Nat) (w : World) :
    Calls Tryz.prog 69 #[.slice a len cap] w fun e w' => e = .returned (.func (.func 87) #[] #[.pointer (some ⟨w.heap.size, 0, none⟩)]) ∧ w' = w.alloc (.cells #[.slice a len cap] 24) := by
  have hmf : ∀ (fn : Fn) (first cap : Array Value) (w : World), (Instr.makeFunc fn first cap).run Tryz.prog w = .ok (.func fn first cap) w := fun _ _ _ _ => rfl
  go_enter Tryz.func69, Tryz.ntmps69
  go_wp2_with fail
  go_ret
  exact ⟨rfl, rfl⟩
theorem ints_lt {w : World} {b off n : Nat} {ts : List Int} (h : ∀ i, i < n → w.cell? ⟨b, off + i, none⟩ = some (.int .i64 (ts.getD i 0))) (h0 : 0 < n) : b < w.heap.size :=
  World.block_lt_of_cell? w _ (h 0 h0)
theorem values_stops (n : Nat) (hn : 1 ≤ n) (Bs : Nat) (a : Option Addr) (len cap : Nat) (zs : List Int) (hreach : len ≤ 1000000) (w0 w : World) (hl0 : Below w0.heap.size w0 w) (hBs : Bs < w.heap.size)
    (hc : w.cell? ⟨Bs, 0, none⟩ = some (.slice a len cap)) (hI : IntsIn w0 a len zs) :
    SeqStopsK Fence.wide n Tryz.prog 87 #[.pointer (some ⟨Bs, 0, none⟩)] (fun x : Int => #[Value.int .i64 x]) (Below w0.heap.size) (fun ys => ys = zs) (fun pre => pre <+: zs) len w := fun l J Jx W hW _ _ hY h0 => by
  have hc' := (hW.cell (p := ⟨Bs, 0, none⟩) hBs).trans hc
  by_cases hz : len = 0
  · subst hz
    have : zs = [] := List.length_eq_zero_iff.1 hI.1
    subst this
    exact (values1_nil_in n l Bs a cap J W hc' h0).mono fun e W' ⟨he, hj⟩ => ⟨he, .inl ⟨_, rfl, hj⟩⟩
  · obtain ⟨b, off, rfl, hcs⟩ := hI.2.resolve_left hz
    have hb := ints_lt hcs (by omega)
    refine (values1_in n hn l Bs w0.heap.size b off len cap zs hI.1 hreach hb J Jx hY W hc' (fun j hj => ((hl0.trans (hW.mono hl0.size)).cell (p := ⟨b, off + j, none⟩) hb).trans (hcs j hj)) h0).mono ?_
    rintro e W' ⟨he, h⟩
    exact ⟨he, h⟩
set_option maxRecDepth 100000 in
set_option maxHeartbeats 4000000 in
theorem appSeq_in (w : World) (Bs : Nat) (hBs : Bs < w.heap.size) (a : Option Addr) (len cap : Nat) (zs : List Int) (hreach : len ≤ 1000000)
    (hc : w.cell? ⟨Bs, 0, none⟩ = some (.slice a len cap)) (hI : IntsIn w a len zs) :
    CallsIn Fence.wide 3 Tryz.prog 100 #[.slice none 0 0, .func (.func 87) #[] #[.pointer (some ⟨Bs, 0, none⟩)]] w fun e w' => ∃ v, e = .returned v ∧ IntsAt w.heap.size w' v zs ∧ Below w.heap.size w w' := by
  obtain ⟨i0, hi, hz0, hz1, hz2⟩ := info_parts infoI
  have hlen := hI.1
  refine callsIn_of_wp_marks Tryz.func100 rfl trivial ?_ rfl
  simp only [Tryz.ntmps100, List.size_toArray, List.length_cons, List.length_nil, Nat.reduceAdd, Nat.reduceSub, Array.replicate_succ, Array.replicate_zero, List.push_toArray, List.append_toArray, List.nil_append, List.cons_append]
  gi_wp2
  have bS := Boxed.new w 24 (.slice none 0 0)
  have hB0 : Below w.heap.size w (w.alloc (.cells #[.slice none 0 0] 24)) := by repeat (first | (with_reducible exact Below.refl _ _) | (with_reducible apply Below.drew) | (with_reducible refine below_drewN ?_ _) | (with_reducible refine below_alloc' ?_ ?_ _; (focus ((try simp) <;> omega))) | (with_reducible refine below_set' ?_ ?_ _; (focus ((try simp) <;> omega))))
  have hc0 := bkeep hB0 hc
  have hI0 := hI.below hB0
  refine wpIn_rangeFunc_ownG rfl (by decide) (gf := 87) (lb := #[.pointer (some ⟨Bs, 0, none⟩)]) rfl trivial (enters_of Tryz.func87 (by kernel_rfl) rfl)
    (values_stops _ (by decide) Bs a len cap zs hreach w _ hB0 (by simp; omega) hc0 hI) belowK_t (belowK_b (by simp)) (Below.refl _ _) (fun _ => rfl)
    (fun pre W => (∃ v, Boxed W w.heap.size 24 v ∧ W.ownsRow w.heap.size 3 1 v pre.length (pre.map fun t => .int .i64 t) ∧ True) ∧ Below w.heap.size w W ∧ w.heap.size + 1 ≤ W.heap.size)
    (fun _ _ _ => False)
    (OwnFrom.and (Own.from (holdsRow_own w.heap.size w.heap.size 24 3 1 (fun pre : List Int => pre.length) (fun pre => pre.map fun t => .int .i64 t) (fun _ _ => True)) _) (OwnFrom.and (ownFrom_below (Nat.le_refl _) (by simp)) (fun _ X Y row hs hg hr => Nat.le_trans hs hg.size)))
    (fun _ _ _ _ _ hs _ _ => hs)
    ⟨⟨_, bS, World.ownsRow_nil _ _ _ _, trivial⟩, hB0, by simp⟩
    (fun x => { tmps := #[.slice none 0 0, .func (.func 87) #[] #[.pointer (some ⟨Bs, 0, none⟩)], .pointer (some ⟨w.heap.size, 0, none⟩), undef, .slice none 0 0, .int .i64 x, .func (.func 87) #[] #[.pointer (some ⟨Bs, 0, none⟩)], .int .i64 x, undef, undef, undef, undef, undef], defers := [] }) ?assign ?body ?done ?stop
  case assign =>
    intro l x W K hK
    gi_wp2
    exact hK
  case body =>
    rintro l pre x W ⟨⟨v, hv, hrow, _⟩, hB, hs⟩ hlt
    have cv := hv.cell
    have hml : (1000000 : Nat) ≤ maxLen := by decide
    have hm1 : pre.length + 1 ≤ maxLen := by omega
    gi_wp2_with (gi_at_builtin; refine wpListIn_append_own _ rfl _ _ 24 rfl w.heap.size 3 i0 (.int .i64 0) 1 8 Tryz.underlying24 hi hz0 hz1 hz2 rfl (by decide) _ _ _ rfl (hrow.alloc _) ⟨W.heap.size, 0, none⟩ 1 1 [.int .i64 x] rfl rfl (cell_one_new _ _ _) (by simp [Value.oneCell']) (by omega) (by omega) (by simp; omega) ?_; intro v' w1 hown' hgrow _; obtain ⟨g', cap', rfl⟩ := ownsRow_succ hown'; obtain ⟨hv1, hv2, hr2, hk2, hb2⟩ := hv.appended (by decide) hrow (by omega) (by omega) hown' hgrow; have hc1 := hv1.cell; have hf1 := hv1.frozen)
    exact ⟨hk2.from _, hb2, ⟨⟨_, hv2, by simpa using hr2, trivial⟩, hB.trans hb2, Nat.le_trans hs hb2.size⟩⟩
  case done =>
    rintro D ys W hD rfl ⟨⟨v, hv, hrow, _⟩, hB, hs⟩ hK
    have c5 := hv.cell
    gi_wp2
    refine ⟨by simp, .inl ⟨_, _, rfl, run_takeDeferred hK, ?_⟩⟩
    refine ⟨_, results_tmp rfl _ _ _, v, rfl, ownsRow_putObj hrow _ hK rfl, hB.trans (belowK_b (w := w) (Nat.le_refl _) W D _ _ (by simp at hD; omega) hK rfl rfl)⟩
  case stop =>
    rintro D c pre W _ _ h _
    exact h.elim
theorem collect_any (w : World) (Bs : Nat) (hBs : Bs < w.heap.size) (a : Option Addr) (len cap : Nat) (zs : List Int) (hreach : len ≤ 1000000)
    (hc : w.cell? ⟨Bs, 0, none⟩ = some (.slice a len cap)) (hI : IntsIn w a len zs) :
    Calls Tryz.prog 85 #[.func (.func 87) #[] #[.pointer (some ⟨Bs, 0, none⟩)]] w fun e w' => ∃ v, e = .returned v ∧ IntsAt w.heap.size w' v zs ∧ Below w.heap.size w w' := by
  have HA := Lib.hid (callsIn_wide.1 (appSeq_in w Bs hBs a len cap zs hreach hc hI))
  clear hc hI
  go_enter Tryz.func85, Tryz.ntmps85
  go_wp2_with fail
  refine HA.out.mono ?_
  rintro e w' ⟨v, rfl, hv, l⟩
  have HV := Lib.hid hv; have L := Lib.hid l
  clear hv l
  go_wp2_with fail
  go_ret
  exact ⟨v, rfl, HV.out, L.out⟩
def sortL (zs : List Int) : List Int := zs.mergeSort fun x y => decide (x ≤ y)
theorem sortL_perm (zs : List Int) : (sortL zs).Perm zs := List.mergeSort_perm _ _
theorem sortL_len (zs : List Int) : (sortL zs).length = zs.length := (sortL_perm zs).length_eq
def SortPost (B : Nat) (w : World) (v : Value) (ts : List Int) (e : Ending) (w' : World) : Prop := e = .returned (.tuple #[]) ∧ IntsAt B w' v (sortL ts) ∧ w.grownBy w' v.ownBlock
theorem sort_any (B : Nat) (w : World) (v : Value) (ts : List Int) (h : IntsAt B w v ts) (hl : ts.length ≤ 1000000) : Calls Tryz.prog 86 #[v] w (SortPost B w v ts) := by
  rcases h.2 with ⟨rfl, h0⟩ | ⟨g, cap, cur, rfl, hb, hg, h1, h2, h3, h4⟩
  · have : ts = [] := List.length_eq_zero_iff.1 h0
    subst this
    refine (show Calls Tryz.prog 86 #[.slice none 0 0] w _ from AnyM.slices_Sort_int_none Tryz.laySort none 0 w).mono ?_
    rintro e w' ⟨rfl, rfl⟩
    exact ⟨rfl, by rw [show sortL [] = [] by simp [sortL]]; exact World.ownsRow_nil _ _ _ _, ⟨rfl, rfl, rfl, Nat.le_refl _, fun _ _ _ => rfl⟩⟩
  · have hH : Holds (Value.int .i64) w g 0 ts.toArray := holds_of_blockI hg (by simpa using h4)
    refine (show Calls Tryz.prog 86 #[.slice (some ⟨g, 0, none⟩) ts.length cap] w _ from AnyM.slices_Sort_int Tryz.laySort g 0 cap ts w hH (blk_lt hg) (by omega)).mono ?_
    rintro e w' ⟨rfl, nn, os, rfl⟩
    refine ⟨rfl, ?_, grownBy_sortedI _⟩
    have := ownsRow_sortedI (w := w) (os := os) (n := nn) (ts := sortL ts) (ss := ts) (base := B) (sortL_len ts) hb hg h1 h2 h3
    unfold IntsAt
    rw [sortL_len]
    exact this
theorem sorted_any (w : World) (Bs : Nat) (hBs : Bs < w.heap.size) (a : Option Addr) (len cap : Nat) (zs : List Int) (hreach : len ≤ 1000000)
    (hc : w.cell? ⟨Bs, 0, none⟩ = some (.slice a len cap)) (hI : IntsIn w a len zs) :
    Calls Tryz.prog 68 #[.func (.func 87) #[] #[.pointer (some ⟨Bs, 0, none⟩)]] w fun e w' => ∃ v, e = .returned v ∧ IntsAt w.heap.size w' v (sortL zs) ∧ Below w.heap.size w w' := by
  have HA := Lib.hid (collect_any w Bs hBs a len cap zs hreach hc hI)
  have HL := Lib.hid hI.1
  clear hc hI
  go_enter Tryz.func68, Tryz.ntmps68
  go_wp2_with fail
  refine HA.out.mono ?_
  rintro e w1 ⟨v, rfl, hv, l⟩
  have HV := Lib.hid hv; have L := Lib.hid l
  have HS := Lib.hid (sort_any _ w1 v zs hv (by rw [HL.out]; exact hreach))
  clear hv l
  go_wp2_with fail
  refine HS.out.mono ?_
  rintro e w2 ⟨rfl, hv2, hg⟩
  have HV2 := Lib.hid hv2
  have L2 := Lib.hid (L.out.grown hg L.out.size (fun k e => (HV.out.lt k e).1))
  clear hv2 hg
  go_wp2_with fail
  go_ret
  exact ⟨v, rfl, HV2.out, L2.out⟩
end Go.Proofs.YtganmdbhmihjpaaGreat.Opa
