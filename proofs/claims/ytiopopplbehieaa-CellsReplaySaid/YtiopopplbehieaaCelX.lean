/- cells.Last: it ranges over slices.Backward. -/
import Derived.Test.YtiopopplbehieaaCelZ
import Derived.RangeFuncNested
import Derived.RangeFuncBound
import Derived.RangeFuncCalls
import Derived.RangeFuncLeaves
import Derived.RangeFuncBox
import Derived.Shelf.Abstract
import Derived.Shelf.RegionOpen
import Derived.WalkKit
import Derived.OwnWalkIn
import Derived.TacticsInMore
import Derived.LoopNIn
import Derived.LoopIn
namespace Go.Proofs.Ytiopopplbehieaa.Cel
open Go.RowKit Go.Shelf
set_option linter.unusedSimpArgs false
set_option linter.unusedVariables false
attribute [local go_sem] Oper.semAt_some

def Dn.agg (d : Dn) : Value := .agg #[.int .u8 d.o.k, .int .i64 d.o.c, .int .u64 d.o.a, .int .u64 d.o.b, .int .u64 d.w, .bool d.ok]
/-- what has come when k rounds are over -/
def upto {α : Type} (f : Nat → α) (k : Nat) : List α := (List.range k).map f
theorem upto_succ {α : Type} (f : Nat → α) (k : Nat) : upto f (k + 1) = upto f k ++ [f k] := by simp [upto, List.range_succ]
theorem upto_length {α : Type} (f : Nat → α) (k : Nat) : (upto f k).length = k := by simp [upto]
def fromEnd (ds : List Dn) (j : Nat) : Nat × Dn := (ds.length - 1 - j, (ds[ds.length - 1 - j]?).getD noDn)

set_option maxRecDepth 100000 in
set_option maxHeartbeats 2000000 in
theorem back1_in (F : Fence) (n : Nat) (hf : F.fn 39) (hro : F.round = none) (hn : 1 ≤ n) (l Bs n₀ b off cap : Nat) (ds : List Dn) (hreach : ds.length ≤ 900) (hb : b < n₀) (hbs : Bs < n₀) (J Jx : List (Nat × Dn) → World → Prop)
    (hY : ∀ pre x W, J pre W → pre.length < ds.length → YieldAt F (n - 1) Try.prog l #[.int .i64 (x.1 : Int), x.2.agg] W fun e W' =>
      (e = .returned (.bool true) ∧ J (pre ++ [x]) W' ∧ Below n₀ W W') ∨ (e = .returned (.bool false) ∧ Jx (pre ++ [x]) W'))
    (W : World) (hBs : W.cell? ⟨Bs, 0, none⟩ = some (.slice (some ⟨b, off, none⟩) ds.length cap))
    (hc : ∀ (i : Nat) d, ds[i]? = some d →
      W.cell? ⟨b, off + i * 6, none⟩ = some (.int .u8 d.o.k) ∧ W.cell? ⟨b, off + i * 6 + 1, none⟩ = some (.int .i64 d.o.c) ∧ W.cell? ⟨b, off + i * 6 + 2, none⟩ = some (.int .u64 d.o.a) ∧
      W.cell? ⟨b, off + i * 6 + 3, none⟩ = some (.int .u64 d.o.b) ∧ W.cell? ⟨b, off + i * 6 + 4, none⟩ = some (.int .u64 d.w) ∧ W.cell? ⟨b, off + i * 6 + 5, none⟩ = some (.bool d.ok))
    (h0 : J [] W) :
    CallsIn F n Try.prog 39 #[.func (.yield l) #[] #[], .pointer (some ⟨Bs, 0, none⟩)] W fun e W' => (∃ v, e = .returned v) ∧
      ((∃ ys, ys = upto (fromEnd ds) ds.length ∧ J ys W') ∨ (∃ pre, (∃ k, k ≤ ds.length ∧ pre = upto (fromEnd ds) k) ∧ Jx pre W')) := by
  obtain ⟨len, hlen⟩ : ∃ len, ds.length = len := ⟨_, rfl⟩
  rw [hlen] at hreach hY hBs ⊢
  have HLEN := Lib.hid hlen
  have HC := Lib.hid hc
  clear hlen hc
  refine callsIn_of_wp Try.func39 rfl hf ?_ hro
  simp only [Try.ntmps39, List.size_toArray, List.length_cons, List.length_nil, Nat.reduceAdd, Nat.reduceSub, Array.replicate_succ, Array.replicate_zero, List.push_toArray, List.append_toArray, List.nil_append, List.cons_append]
  have hw0 : IntKind.i64.wrap ((len : Int) - 1) = (len : Int) - 1 := by rw [IntKind.wrap_i64]; omega
  gi_wp2
  gi_loopw [3] (fun i wr => ∃ (k : Nat) (m : Int), k ≤ len ∧ i = .int .i64 m ∧ m = (len : Int) - 1 - k ∧ J (upto (fromEnd ds) k) wr ∧ Below n₀ W wr) (fun i _ => (intOf i + 1).toNat)
  case atStart => exact ⟨0, _, Nat.zero_le _, rfl, by omega, h0, Below.refl _ _⟩
  case round =>
    obtain ⟨k, m, hk, rfl, hm, hJs, hnx⟩ := hrel
    by_cases hlt : k < len
    · obtain ⟨j, rfl⟩ : ∃ j : Nat, m = j := ⟨m.toNat, by omega⟩
      have hjl : j < ds.length := by rw [HLEN.out]; omega
      have hjk : ds.length - 1 - k = j := by rw [HLEN.out]; omega
      obtain ⟨d, hd⟩ : ∃ d, ds[j]? = some d := ⟨ds[j]'hjl, List.getElem?_eq_getElem _⟩
      obtain ⟨c0, c1, c2, c3, c4, c5⟩ := HC.out j d hd
      have hfe : fromEnd ds k = (j, d) := by unfold fromEnd; rw [hjk, hd]; rfl
      replace c0 := (hnx.cell (p := ⟨b, off + j * 6, none⟩) hb).trans c0
      replace c1 := (hnx.cell (p := ⟨b, off + j * 6 + 1, none⟩) hb).trans c1
      replace c2 := (hnx.cell (p := ⟨b, off + j * 6 + 2, none⟩) hb).trans c2
      replace c3 := (hnx.cell (p := ⟨b, off + j * 6 + 3, none⟩) hb).trans c3
      replace c4 := (hnx.cell (p := ⟨b, off + j * 6 + 4, none⟩) hb).trans c4
      replace c5 := (hnx.cell (p := ⟨b, off + j * 6 + 5, none⟩) hb).trans c5
      have cbs := (hnx.cell (p := ⟨Bs, 0, none⟩) hbs).trans hBs
      obtain ⟨fn, tmps, assign, body, hy, hR⟩ := hY _ (j, d) wr hJs (by rw [upto_length]; exact hlt)
      dsimp only [Dn.agg] at hy
      have hge : decide (0 ≤ (j : Int)) = true := by simp
      have hjlen : (j : Int) < len := by omega
      have hw1 : IntKind.i64.wrap ((j : Int) - 1) = (j : Int) - 1 := by rw [IntKind.wrap_i64]; omega
      have HR := Lib.hid hR; have HM := Lib.hid hm; have HFE := Lib.hid hfe
      clear hR hd hY hm hjk hfe hjl
      gi_wp2
      refine HR.out.mono ?_
      rintro e W3 (⟨rfl, hJ3, hk3⟩ | ⟨rfl, hJx3⟩)
      · gi_wp2
        go_roundw
        case rel => exact ⟨k + 1, (j : Int) - 1, by omega, rfl, by have := HM.out; omega, by rw [upto_succ, HFE.out]; exact hJ3, hnx.trans hk3⟩
        case measure => simp [intOf]
      · gi_wp2
        refine bodyPost_ret (results_none rfl _ _ _) rfl ?_
        exact ⟨⟨_, rfl⟩, .inr ⟨_, ⟨k + 1, by omega, by rw [upto_succ, HFE.out]⟩, hJx3⟩⟩
    · obtain rfl : k = len := by omega
      obtain rfl : m = -1 := by omega
      gi_wp2
      go_end0
      exact ⟨⟨_, rfl⟩, .inl ⟨_, rfl, hJs⟩⟩
set_option maxRecDepth 100000 in
set_option maxHeartbeats 1000000 in
theorem back1_nil_in (F : Fence) (n : Nat) (hf : F.fn 39) (hro : F.round = none) (l Bs : Nat) (a : Option Addr) (cap : Nat) (J : List (Nat × Dn) → World → Prop) (W : World) (hBs : W.cell? ⟨Bs, 0, none⟩ = some (.slice a 0 cap)) (h0 : J [] W) :
    CallsIn F n Try.prog 39 #[.func (.yield l) #[] #[], .pointer (some ⟨Bs, 0, none⟩)] W fun e W' => (∃ v, e = .returned v) ∧ J [] W' := by
  refine callsIn_of_wp Try.func39 rfl hf ?_ hro
  simp only [Try.ntmps39, List.size_toArray, List.length_cons, List.length_nil, Nat.reduceAdd, Nat.reduceSub, Array.replicate_succ, Array.replicate_zero, List.push_toArray, List.append_toArray, List.nil_append, List.cons_append]
  gi_wp2
  gi_loopw [3] (fun i wr => i = .int .i64 (-1) ∧ J [] wr) (fun _ _ => 0)
  case atStart => exact ⟨by first | rfl | (congr 1), h0⟩
  case round =>
    obtain ⟨rfl, hJs⟩ := hrel
    gi_wp2
    go_end0
    exact ⟨⟨_, rfl⟩, hJs⟩
set_option maxHeartbeats 1000000 in
theorem back_in (F : Fence) (n : Nat) (hf : F.fn 37) (hro : F.round = none) (a : Option Addr) (len cap : Nat) (w : World) :
    CallsIn F n Try.prog 37 #[.slice a len cap] w fun e w' => e = .returned (.func (.func 39) #[] #[.pointer (some ⟨w.heap.size, 0, none⟩)]) ∧ w' = w.alloc (.cells #[.slice a len cap] 48) := by
  refine callsIn_of_wp Try.func37 rfl hf ?_ hro
  simp only [Try.ntmps37, List.size_toArray, List.length_cons, List.length_nil, Nat.reduceAdd, Nat.reduceSub, Array.replicate_succ, Array.replicate_zero, List.push_toArray, List.append_toArray, List.nil_append, List.cons_append]
  gi_wp2
  go_ret
  exact ⟨rfl, rfl⟩
theorem back_stops (F : Fence) (n : Nat) (hf : F.fn 39) (hro : F.round = none) (hn : 1 ≤ n) (Bs : Nat) (a : Option Addr) (len cap : Nat) (ds : List Dn) (hreach : len ≤ 900) (w : World) (hBs : Bs < w.heap.size)
    (hc : w.cell? ⟨Bs, 0, none⟩ = some (.slice a len cap)) (hD : Dones w a len ds) :
    SeqStopsK F n Try.prog 39 #[.pointer (some ⟨Bs, 0, none⟩)] (fun x : Nat × Dn => #[Value.int .i64 (x.1 : Int), x.2.agg]) (Below w.heap.size) (fun ys => ys = upto (fromEnd ds) ds.length)
      (fun pre => ∃ k, k ≤ ds.length ∧ pre = upto (fromEnd ds) k) ds.length w := fun l J Jx W hW _ _ hY h0 => by
  have hc' := (hW.cell (p := ⟨Bs, 0, none⟩) hBs).trans hc
  have hD' := hD.below hW
  rcases hD'.2.2 with rfl | ⟨b, off, rfl, hcs⟩
  · have h00 : ds = [] := List.length_eq_zero_iff.1 hD.1
    subst h00
    exact (back1_nil_in F n hf hro l Bs a cap J W hc' h0).mono fun e W' ⟨he, hj⟩ => ⟨he, .inl ⟨_, rfl, hj⟩⟩
  · have hlen := hD.1
    by_cases hz : ds.length = 0
    · have h00 : ds = [] := List.length_eq_zero_iff.1 hz
      subst h00
      obtain rfl : len = 0 := by simpa using hlen.symm
      exact (back1_nil_in F n hf hro l Bs _ cap J W hc' h0).mono fun e W' ⟨he, hj⟩ => ⟨he, .inl ⟨_, rfl, hj⟩⟩
    · have hb : b < w.heap.size := by
        rcases hD.2.2 with h | ⟨b', off', e, hcs'⟩
        · omega
        · injection e with e
          injection e with e1 _ _
          subst e1
          obtain ⟨d, hd⟩ : ∃ d, ds[0]? = some d := ⟨ds[0]'(by omega), List.getElem?_eq_getElem _⟩
          exact World.block_lt_of_cell? w _ (hcs' 0 d hd).1
      subst hlen
      exact back1_in F n hf hro hn l Bs w.heap.size b off cap ds hreach hb hBs J Jx hY W hc' hcs h0

def LastIn (w : World) (ds : List Dn) (c : Int) (e : Ending) (w' : World) : Prop := ∃ a b, e = .returned (.tuple #[.int .i64 a, .bool b]) ∧ LastIs ds c ds.length a b ∧ Below w.heap.size w w'
theorem lastIs_none {ds : List Dn} {c : Int} (h : ∀ p ∈ upto (fromEnd ds) ds.length, p.2.hits c = false) : LastIs ds c ds.length 0 false := by
  refine .inl ⟨rfl, rfl, fun i d hi hd => ?_⟩
  have := h (fromEnd ds (ds.length - 1 - i)) (by simp only [upto, List.mem_map, List.mem_range]; exact ⟨_, by omega, rfl⟩)
  unfold fromEnd at this
  rw [show ds.length - 1 - (ds.length - 1 - i) = i by omega, hd] at this
  exact this
theorem lastIs_some {ds : List Dn} {c : Int} {k : Nat} (hk : k < ds.length) (h : ∀ p ∈ upto (fromEnd ds) k, p.2.hits c = false) (hh : (fromEnd ds k).2.hits c = true) : LastIs ds c ds.length ((fromEnd ds k).1 : Int) true := by
  refine .inr ⟨rfl, ds.length - 1 - k, by omega, rfl, ?_, fun j d h1 h2 hd => ?_⟩
  · obtain ⟨d, hd⟩ : ∃ d, ds[ds.length - 1 - k]? = some d := ⟨ds[ds.length - 1 - k]'(by omega), List.getElem?_eq_getElem _⟩
    refine ⟨d, hd, ?_⟩
    unfold fromEnd at hh
    rw [hd] at hh
    exact hh
  · have := h (fromEnd ds (ds.length - 1 - j)) (by simp only [upto, List.mem_map, List.mem_range]; exact ⟨_, by omega, rfl⟩)
    unfold fromEnd at this
    rw [show ds.length - 1 - (ds.length - 1 - j) = j by omega, hd] at this
    exact this

set_option maxRecDepth 100000 in
set_option maxHeartbeats 4000000 in
theorem last_in (F : Fence) (n : Nat) (h3 : F.fn 24) (h5 : F.fn 37) (h7 : F.fn 39) (hro : F.round = none) (hn : 3 ≤ n) (w : World) (a : Option Addr) (len cap : Nat) (ds : List Dn) (h : Dones w a len ds) (hl : len ≤ 900) (c : Int) :
    CallsIn F n Try.prog 24 #[.slice a len cap, .int .i64 c] w (LastIn w ds c) := by
  have h1 : 1 ≤ n := by omega
  refine callsIn_of_wp_marks Try.func24 rfl h3 ?_ hro
  simp only [Try.ntmps24, List.size_toArray, List.length_cons, List.length_nil, Nat.reduceAdd, Nat.reduceSub, Array.replicate_succ, Array.replicate_zero, List.push_toArray, List.append_toArray, List.nil_append, List.cons_append]
  gi_wp2_with (gi_at_call 37; refine (back_in F (n - 1) h5 hro _ _ _ _).mono ?_; rintro e w' ⟨rfl, rfl⟩)
  have bC := (((Boxed.new w 3 (.int .i64 c)).alloc (.cells #[.int .i64 0] 3)).alloc (.cells #[.bool false] 4)).alloc (.cells #[.slice a len cap] 48)
  have bR := ((Boxed.new (w.alloc (.cells #[.int .i64 c] 3)) 3 (.int .i64 0)).alloc (.cells #[.bool false] 4)).alloc (.cells #[.slice a len cap] 48)
  have bB := (Boxed.new ((w.alloc (.cells #[.int .i64 c] 3)).alloc (.cells #[.int .i64 0] 3)) 4 (.bool false)).alloc (.cells #[.slice a len cap] 48)
  have bS := Boxed.new (((w.alloc (.cells #[.int .i64 c] 3)).alloc (.cells #[.int .i64 0] 3)).alloc (.cells #[.bool false] 4)) 48 (.slice a len cap)
  simp only [World.size_alloc] at bR bB bS
  have hB0 : Below w.heap.size w ((((w.alloc (.cells #[.int .i64 c] 3)).alloc (.cells #[.int .i64 0] 3)).alloc (.cells #[.bool false] 4)).alloc (.cells #[.slice a len cap] 48)) := by repeat (first | (with_reducible exact Below.refl _ _) | (with_reducible apply Below.drew) | (with_reducible refine below_drewN ?_ _) | (with_reducible refine below_alloc' ?_ ?_ _; (focus ((try simp) <;> omega))) | (with_reducible refine below_set' ?_ ?_ _; (focus ((try simp) <;> omega))))
  have hsz : ((((w.alloc (.cells #[.int .i64 c] 3)).alloc (.cells #[.int .i64 0] 3)).alloc (.cells #[.bool false] 4)).alloc (.cells #[.slice a len cap] 48)).heap.size = w.heap.size + 4 := by simp
  obtain ⟨W0, hW0⟩ : ∃ W0, ((((w.alloc (.cells #[.int .i64 c] 3)).alloc (.cells #[.int .i64 0] 3)).alloc (.cells #[.bool false] 4)).alloc (.cells #[.slice a len cap] 48)) = W0 := ⟨_, rfl⟩
  rw [hW0] at bC bR bB bS hB0 hsz ⊢
  clear hW0
  refine wpIn_rangeFunc_ownH hro h1 (gf := 39) (lb := #[.pointer (some ⟨w.heap.size + 1 + 1 + 1, 0, none⟩)]) rfl h7 (enters_of Try.func39 (by kernel_rfl) rfl)
    (back_stops F (n - 1) h7 hro (by omega) (w.heap.size + 1 + 1 + 1) a len cap ds hl W0 (by omega) bS.cell (h.below hB0)) belowK_t (belowK_b (Nat.le_refl _)) (Below.refl _ _) (fun _ => rfl)
    (fun pre W => (((∀ p ∈ pre, p.2.hits c = false) ∧ Boxed W w.heap.size 3 (.int .i64 c)) ∧ Boxed W (w.heap.size + 1) 3 (.int .i64 0) ∧ Boxed W (w.heap.size + 1 + 1) 4 (.bool false)) ∧ (Below w.heap.size w W ∧ W0.heap.size ≤ W.heap.size))
    (fun j pre W => (j = .ret ∧ ∃ ini last, pre = ini ++ [last] ∧ (∀ p ∈ ini, p.2.hits c = false) ∧ last.2.hits c = true ∧ Boxed W (w.heap.size + 1) 3 (.int .i64 (last.1 : Int)) ∧ Boxed W (w.heap.size + 1 + 1) 4 (.bool true)) ∧ Below w.heap.size w W)
    (OwnFrom.and (OwnFrom.and (OwnFrom.and (ownFrom_pure _ _) (Own.from (boxed_own _ _ _) _)) (OwnFrom.and (Own.from (boxed_own _ _ _) _) (Own.from (boxed_own _ _ _) _))) (OwnFrom.and (ownFrom_below (Nat.le_refl _) (by omega)) (fun _ X Y row hs hg hr => Nat.le_trans hs hg.size)))
    (fun j => OwnFrom.and (fun s X Y row hs hg hr => by
      obtain ⟨e0, ini, last, e1, e2, e3, e4, e5⟩ := hs
      exact ⟨e0, ini, last, e1, e2, e3, boxed_own _ _ (fun (_ : Unit) => Value.int .i64 (last.1 : Int)) () X Y row e4 hg (fun r e => (hr r e).2), boxed_own _ _ (fun (_ : Unit) => Value.bool true) () X Y row e5 hg (fun r e => (hr r e).2)⟩) (ownFrom_below (Nat.le_refl _) (by omega)))
    ⟨⟨⟨by simp, bC⟩, bR, bB⟩, hB0, Nat.le_refl _⟩
    (fun x a' W => ∃ Bx, w.heap.size + 1 + 1 < Bx ∧ W.heap[Bx]? = some (.cells #[.int .u8 x.2.o.k, .int .i64 x.2.o.c, .int .u64 x.2.o.a, .int .u64 x.2.o.b, .int .u64 x.2.w, .bool x.2.ok] 37 (0, 0)) ∧ a' = { tmps := #[.slice a len cap, .int .i64 c, undef, .pointer (some ⟨w.heap.size, 0, none⟩), .pointer (some ⟨w.heap.size + 1, 0, none⟩), .pointer (some ⟨w.heap.size + 1 + 1, 0, none⟩), .int .i64 (x.1 : Int), .pointer (some ⟨Bx, 0, none⟩), .slice a len cap, .func (.func 39) #[] #[.pointer (some ⟨w.heap.size + 1 + 1 + 1, 0, none⟩)], .int .i64 (x.1 : Int), x.2.agg, undef, undef, undef, undef, undef, undef, undef, undef, undef, undef, undef, undef, undef, undef, undef, undef], defers := [] })
    (fun x a' _ X Y row hs hg hr => by
      obtain ⟨Bx, h1, h2, h3⟩ := hs
      refine ⟨Bx, h1, (hg.block Bx (blk_lt h2) (fun e => ?_)).trans h2, h3⟩
      obtain ⟨_, o, ho, hc⟩ := hr Bx e.symm
      rw [h2] at ho
      cases ho
      cases hc)
    ?assign ?body ?done ?stop
  case assign =>
    rintro l pre x W K ⟨⟨⟨hp, bC1⟩, bR1, bB1⟩, hB1, hs1⟩ hK
    have hsz2 : w.heap.size + 1 + 1 < W.heap.size := by omega
    dsimp only [Dn.agg]
    gi_wp2
    exact hK _ _ ((KeepsOthers.alloc _ _).from _) ((Below.refl _ W).alloc hs1 _) ⟨⟨⟨hp, bC1.alloc _⟩, bR1.alloc _, bB1.alloc _⟩, hB1.alloc hB1.size _, by simp; omega⟩ ⟨W.heap.size, hsz2, blk_new _ _, rfl⟩
  case body =>
    rintro l pre x a' W hl ⟨r, hr⟩ ⟨⟨⟨hp, bC1⟩, bR1, bB1⟩, hB1, hs1⟩ ⟨Bx, hBx, bX, rfl⟩ hlt
    have cC := bC1.cell
    have cR := bR1.cell; have fR := bR1.frozen
    have cB := bB1.cell; have fB := bB1.frozen
    have x0 := blk_cell bX 0; have x1 := blk_cell bX 1; have x5 := blk_cell bX 5
    simp only [List.getElem?_toArray, List.getElem?_cons_zero, List.getElem?_cons_succ] at x0 x1 x5
    obtain ⟨xi, ⟨⟨xk, xc, xa, xb⟩, xw, xok⟩⟩ := x
    simp only at x0 x1 x5
    have hits : Dn.hits ⟨⟨xk, xc, xa, xb⟩, xw, xok⟩ c = (xok && (xc == c) && (xk != 1)) := rfl
    have HIT := Lib.hid hits
    clear hits bX
    cases xok <;> cases h2 : (xc == c) <;> cases h3 : (xk != 1)
    all_goals
      have hh := HIT.out
      rw [h2, h3] at hh
      simp only [Bool.and_true, Bool.and_false, Bool.true_and, Bool.false_and] at hh
      have HH := Lib.hid hh
      clear hh HIT
      gi_wp2
      first
        | exact ⟨KeepsFrom.refl _ _, Below.refl _ _, ⟨⟨fun p hp' => (List.mem_append.1 hp').elim (hp p) (fun e => by simp at e; subst e; exact HH.out), bC1⟩, bR1, bB1⟩, hB1, hs1⟩
        | exact ⟨((KeepsOthers.setCell _ _ _).trans (KeepsOthers.setCell _ _ _)).from _, ⟨rfl, pre, _, rfl, hp, HH.out, (bR1.set _).other (by omega) _, (bB1.other (by omega) _).set _⟩, (hB1.setCell (p := ⟨w.heap.size + 1, 0, none⟩) (by simp) _).setCell (p := ⟨w.heap.size + 1 + 1, 0, none⟩) (by simp; omega) _⟩
  case done =>
    rintro D ys W hD rfl ⟨⟨⟨hp, bC1⟩, bR1, bB1⟩, hB1, hs1⟩ hK
    have cR := bR1.cell; have fR := bR1.frozen
    have cB := bB1.cell; have fB := bB1.frozen
    gi_wp2
    have hK2 := ((KeepsOthers.setCell W ⟨w.heap.size + 1, 0, none⟩ (.int .i64 0)).trans (KeepsOthers.setCell _ ⟨w.heap.size + 1 + 1, 0, none⟩ (.bool false))).same D _ hK rfl
    have bR2 := (bR1.set (.int .i64 0)).other (B' := w.heap.size + 1 + 1) (by omega) (.bool false)
    have bB2 := (bB1.other (B' := w.heap.size + 1) (by omega) (.int .i64 0)).set (.bool false)
    have hZ : Below w.heap.size w ((W.setCell ⟨w.heap.size + 1, 0, none⟩ (.int .i64 0)).setCell ⟨w.heap.size + 1 + 1, 0, none⟩ (.bool false)) := (hB1.setCell (p := ⟨w.heap.size + 1, 0, none⟩) (by simp) _).setCell (p := ⟨w.heap.size + 1 + 1, 0, none⟩) (by simp; omega) _
    generalize (W.setCell ⟨w.heap.size + 1, 0, none⟩ (.int .i64 0)).setCell ⟨w.heap.size + 1 + 1, 0, none⟩ (.bool false) = WZ at *
    refine ⟨by simp, .inl ⟨_, _, rfl, run_takeDeferred hK2, ?_⟩⟩
    have c5 := cell_kept bR2.cell (grownBy_putObj' _ D (.deferred none)) (fun r e => by cases e; exact ⟨_, hK2, rfl⟩)
    have c6 := cell_kept bB2.cell (grownBy_putObj' _ D (.deferred none)) (fun r e => by cases e; exact ⟨_, hK2, rfl⟩)
    refine ⟨.tuple #[.int .i64 0, .bool false], ?_, ⟨0, false, rfl, lastIs_none hp, hZ.trans (belowK_b (w := w) (Nat.le_refl _) _ D _ _ (by omega) hK2 rfl rfl)⟩⟩
    simp [results, Try.f24, go_sem, c5, c6]
  case stop =>
    rintro D j pre W hD ⟨k, hk, rfl⟩ ⟨⟨rfl, ini, last, e1, e2, e3, e4, e5⟩, hB⟩ hK
    gi_wp2
    refine ⟨by simp, .inl ⟨_, _, rfl, run_takeDeferred hK, ?_⟩⟩
    have c5 := cell_kept e4.cell (grownBy_putObj' _ D (.deferred none)) (fun r e => by cases e; exact ⟨_, hK, rfl⟩)
    have c6 := cell_kept e5.cell (grownBy_putObj' _ D (.deferred none)) (fun r e => by cases e; exact ⟨_, hK, rfl⟩)
    obtain ⟨k', rfl⟩ : ∃ k', k = k' + 1 := by
      cases k with
      | zero => simp [upto] at e1
      | succ k' => exact ⟨k', rfl⟩
    rw [upto_succ] at e1
    obtain ⟨rfl, e6⟩ := List.append_inj' e1 rfl
    obtain rfl : fromEnd ds k' = last := by simpa using e6
    refine ⟨.tuple #[.int .i64 ((fromEnd ds k').1 : Int), .bool true], ?_, ⟨_, true, rfl, lastIs_some (by omega) e2 e3, hB.trans (belowK_b (w := w) (Nat.le_refl _) W D _ _ (by omega) hK rfl rfl)⟩⟩
    simp [results, Try.f24, go_sem, c5, c6]
theorem last_any (w : World) (a : Option Addr) (len cap : Nat) (ds : List Dn) (h : Dones w a len ds) (hl : len ≤ 900) (c : Int) : Calls Try.prog 24 #[.slice a len cap, .int .i64 c] w (LastIn w ds c) :=
  callsIn_wide.1 (last_in Fence.wide 3 trivial trivial trivial rfl (by decide) w a len cap ds h hl c)
end Go.Proofs.Ytiopopplbehieaa.Cel
