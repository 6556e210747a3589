/- The statements on seqlock: each walk answers true and leaves what was there. -/
import Derived.Test.YtggpfmemfdlmiaaSeqP
import Derived.Test.YtggpfmemfdlmiaaRow
namespace Go.Proofs.Ytggpfmemfdlmiaa.Seq
open Go.RowKit
set_option linter.unusedSimpArgs false
set_option linter.unusedVariables false

theorem cells_deed : Try.prog.cellsOf 46 = 3 := by kernel_rfl
theorem deed_of {H : Type} {enc : TypeId × Value → H} {w : World} {cs : List Value} (h : Fits enc Try.prog w 46 cs) : ∃ k o t, cs = [.int .i64 k, .int .i64 o, .int .u64 t] := by
  obtain ⟨hl, hf⟩ := h.struct Try.underlying46
  rw [cells_deed] at hl
  match cs, hl with
  | [c0, c1, c2], _ =>
    obtain ⟨k, h0, _⟩ := (hf 0 _ rfl).int (k := .i64) (by kernel_rfl)
    obtain ⟨o, h1, _⟩ := (hf 1 _ rfl).int (k := .i64) (by kernel_rfl)
    obtain ⟨t, h2, _⟩ := (hf 2 _ rfl).int (k := .u64) (by kernel_rfl)
    refine ⟨k, o, t, ?_⟩
    have e0 := take_one h0; have e1 := take_one h1; have e2 := take_one h2
    simp at e0 e1 e2
    rw [e0, e1, e2]
theorem deeds_of {H : Type} {enc : TypeId × Value → H} {w : World} {a : Option Addr} {len cap : Nat} (h : Fits enc Try.prog w 22 [.slice a len cap]) : Deeds w a len := by
  obtain ⟨hm, hh⟩ := h.slice Try.underlying22 (by rw [cells_deed]; decide)
  refine ⟨hm, ?_⟩
  rcases hh with hh | ⟨b, off, rfl, hh⟩
  · exact .inl hh
  refine .inr ⟨b, off, rfl, fun i hi => ?_⟩
  obtain ⟨cs, hl, hc, hf⟩ := hh i hi
  obtain ⟨k, o, t, rfl⟩ := deed_of hf
  rw [cells_deed] at hc
  exact ⟨k, o, t, hc 0 (by decide), hc 1 (by decide), hc 2 (by decide)⟩

theorem plays {H : Type} (enc : TypeId × Value → H) (w : World) (a : Option Addr) (len cap : Nat) (h : Fits enc Try.prog w 22 [.slice a len cap]) (t : Int) (ht : (Lit.int .u64 t).wf = true) :
    Calls Try.prog 4 #[.slice a len cap, .int .u64 t] w fun e w' => e = .returned (.bool true) ∧ Below w.heap.size w w' := by
  have HD := Lib.hid (deeds_of h)
  clear h ht
  go_enter Try.func4, Try.ntmps4
  go_wp2_with fail
  refine (play_any w a len cap HD.out).mono ?_
  rintro e w1 ⟨lb, rb, s, rfl, hB, h0, h1, h2, l1⟩
  clear HD
  go_wp2_with fail
  refine (live_any w1).mono ?_
  rintro e w2 ⟨rfl, o2⟩
  have hB2 := hB.below o2
  have l2 := l1.trans (o2.mono l1.size)
  clear hB l1 o2
  go_wp2_with fail
  refine (same_any w2 lb rb s hB2 t).mono ?_
  rintro e w3 ⟨rfl, o3⟩
  have l3 := l2.trans (o3.mono l2.size)
  clear hB2 l2 o3
  go_wp2_with fail
  go_ret
  exact ⟨rfl, l3⟩

theorem even {H : Type} (enc : TypeId × Value → H) (w : World) (a : Option Addr) (len cap : Nat) (h : Fits enc Try.prog w 22 [.slice a len cap]) :
    Calls Try.prog 5 #[.slice a len cap] w fun e w' => e = .returned (.bool true) ∧ Below w.heap.size w w' := by
  have HD := Lib.hid (deeds_of h)
  clear h
  go_enter Try.func5, Try.ntmps5
  go_wp2_with fail
  refine (play_any w a len cap HD.out).mono ?_
  rintro e w1 ⟨lb, rb, ⟨own, cnt⟩, rfl, ⟨hL, hR, hI⟩, h0, h1, h2, l1⟩
  clear HD hR
  cases own with
  | none =>
    have he := hI.free rfl
    have he' : ((cnt % 2 : Int) == 0) = true := by simpa using he
    have hlo : 0 ≤ cnt := hI.lo
    clear hI he
    go_wp2_with fail
    refine (live_any w1).mono ?_
    rintro e w2 ⟨rfl, o2⟩
    have hB2 := hL.below o2
    have l2 := l1.trans (o2.mono l1.size)
    clear hL l1 o2
    go_wp2_with fail
    refine (owner_any _ _ _ hB2).mono ?_
    rintro e w3 ⟨rfl, rfl⟩
    go_wp2_with fail
    refine (snap_to (v := cnt) (n := 0) hB2 (by rfl) (by rfl)).mono ?_
    rintro e w3 ⟨rfl, o3⟩
    have hB3 := hB2.below o3
    have l3 := l2.trans (o3.mono l2.size)
    clear hB2 l2 o3
    go_wp2_with fail
    refine (count_any _ _ _ hB3).mono ?_
    rintro e w4 ⟨rfl, rfl⟩
    go_wp2_with fail
    refine (count_any _ _ _ hB3).mono ?_
    rintro e w4 ⟨rfl, rfl⟩
    go_wp2_with fail
    refine (since_any _ _ _ hB3 _).mono ?_
    rintro e w4 ⟨rfl, rfl⟩
    go_wp2_with fail
    go_ret
    exact ⟨by simp, l3⟩
  | some o =>
    have he := hI.held o rfl
    have he' : ((cnt % 2 : Int) == 0) = false := by have := he.1; simp at this ⊢; omega
    have hlo : 0 ≤ cnt := hI.lo
    clear hI he
    go_wp2_with fail
    refine (live_any w1).mono ?_
    rintro e w2 ⟨rfl, o2⟩
    have hB2 := hL.below o2
    have l2 := l1.trans (o2.mono l1.size)
    clear hL l1 o2
    go_wp2_with fail
    refine (owner_any _ _ _ hB2).mono ?_
    rintro e w3 ⟨rfl, rfl⟩
    go_wp2_with fail
    refine (snap_to (v := 0) (n := 7) hB2 (by rfl) (by rfl)).mono ?_
    rintro e w3 ⟨rfl, o3⟩
    have hB3 := hB2.below o3
    have l3 := l2.trans (o3.mono l2.size)
    clear hB2 l2 o3
    go_wp2_with fail
    refine (count_any _ _ _ hB3).mono ?_
    rintro e w4 ⟨rfl, rfl⟩
    go_wp2_with fail
    go_ret
    exact ⟨by simp, l3⟩

theorem since {H : Type} (enc : TypeId × Value → H) (w : World) (a : Option Addr) (len cap : Nat) (h : Fits enc Try.prog w 22 [.slice a len cap]) (n : Int) (hn : (Lit.int .u8 n).wf = true) (br : Bool) :
    Calls Try.prog 3 #[.slice a len cap, .int .u8 n, .bool br] w fun e w' => e = .returned (.bool true) ∧ Below w.heap.size w w' := by
  have HD := Lib.hid (deeds_of h)
  have hn' := bounds_u8 hn
  have hn0 : 0 ≤ n := hn'.1
  have hn1 : n ≤ 255 := hn'.2
  clear h hn hn'
  go_enter Try.func3, Try.ntmps3
  go_wp2_with fail
  refine (play_any w a len cap HD.out).mono ?_
  rintro e w1 ⟨lb, rb, ⟨own, cnt⟩, rfl, ⟨hL, hR, hI⟩, h0, h1, h2, l1⟩
  clear HD hR
  replace h0 : cnt ≤ 60 := h0
  cases own with
  | none =>
    have hlo : 0 ≤ cnt := hI.lo
    go_wp2_with fail
    refine (live_any w1).mono ?_
    rintro e w2 ⟨rfl, o2⟩
    have hB2 := hL.below o2
    have l2 := l1.trans (o2.mono l1.size)
    clear hL l1 o2
    go_wp2_with fail
    refine (snap_to (v := cnt) (n := 0) hB2 (by rfl) (by rfl)).mono ?_
    rintro e w3 ⟨rfl, o3⟩
    have hB3 := hB2.below o3
    have l3 := l2.trans (o3.mono l2.size)
    clear hB2 l2 o3
    go_wp2_with fail
    have e1 : St.tryE ⟨none, cnt⟩ (n % 4) cnt = 0 := by simp [St.tryE]; omega
    have e2 : St.trySt ⟨none, cnt⟩ (n % 4) cnt = ⟨some (n % 4), cnt + 1⟩ := by simp [St.trySt, e1]
    have hI1 : St.Inv ⟨some (n % 4), cnt + 1⟩ := by have := inv_try hI (n % 4) cnt; rwa [e2] at this
    refine (try_to (n := 0) (s' := ⟨some (n % 4), cnt + 1⟩) hI hB3 e1 e2).mono ?_
    rintro e w4 ⟨rfl, hB4, o4⟩
    have l4 := l3.trans (o4.below (B := w.heap.size) l3.size (by intro j hj h; omega))
    clear hB3 l3 o4 e1 e2
    have q1 : (cnt + 1 == cnt) = false := by simp; omega
    go_wp2_with fail
    refine (since_any _ _ _ hB4 _).mono ?_
    rintro e w5 ⟨rfl, rfl⟩
    go_wp2_with fail
    have m0 : 0 ≤ (n + 1) % 4 := by omega
    have m1 : (n + 1) % 4 < 4 := by omega
    have e7 : ∀ m : Int, 0 ≤ m → m < 4 → St.tryE ⟨some (n % 4), cnt + 1⟩ m cnt = 7 := by intro m m0 m1; simp [St.tryE]; omega
    have e8 : ∀ m : Int, 0 ≤ m → m < 4 → St.trySt ⟨some (n % 4), cnt + 1⟩ m cnt = ⟨some (n % 4), cnt + 1⟩ := by intro m m0 m1; simp [St.trySt, e7 m m0 m1]
    refine (try_to (n := 7) (s' := ⟨some (n % 4), cnt + 1⟩) hI1 hB4 (e7 _ m0 m1) (e8 _ m0 m1)).mono ?_
    rintro e w5 ⟨rfl, hB5, o5⟩
    have l5 := l4.trans (o5.below (B := w.heap.size) l4.size (by intro j hj h; omega))
    clear hB4 l4 o5 e7 e8
    cases br with
    | true =>
      go_wp2_with fail
      refine (break_to (o := n % 4) (n := 0) (s' := ⟨none, cnt⟩) hI1 hB5 (by simp [St.freeE]) (by simp [St.breakSt])).mono ?_
      rintro e w6 ⟨rfl, hB6, o6⟩
      have l6 := l5.trans (o6.below (B := w.heap.size) l5.size (by intro j hj h; omega))
      clear hB5 l5 o6
      go_wp2_with fail
      refine (since_any _ _ _ hB6 _).mono ?_
      rintro e w7 ⟨rfl, rfl⟩
      go_wp2_with fail
      go_ret
      exact ⟨by simp, l6⟩
    | false =>
      go_wp2_with fail
      refine (unlock_to (o := n % 4) (n := 0) (s' := ⟨none, cnt + 2⟩) hI1 hB5 (by simp [St.freeE]) (by simp [St.unlockSt]; omega)).mono ?_
      rintro e w6 ⟨rfl, hB6, o6⟩
      have l6 := l5.trans (o6.below (B := w.heap.size) l5.size (by intro j hj h; omega))
      have hI2 : St.Inv ⟨none, cnt + 2⟩ := by have := inv_unlock hI1 (n % 4); simp [St.unlockSt] at this; rwa [show cnt + 1 + 1 = cnt + 2 by omega] at this
      clear hB5 l5 o6
      have q2 : (cnt + 2 == cnt) = false := by simp; omega
      go_wp2_with fail
      refine (since_any _ _ _ hB6 _).mono ?_
      rintro e w7 ⟨rfl, rfl⟩
      go_wp2_with fail
      have e8 : St.tryE ⟨none, cnt + 2⟩ (n % 4) cnt = 8 := by simp [St.tryE]; omega
      refine (try_to (n := 8) (s' := ⟨none, cnt + 2⟩) hI2 hB6 e8 (by simp [St.trySt, e8])).mono ?_
      rintro e w7 ⟨rfl, hB7, o7⟩
      have l7 := l6.trans (o7.below (B := w.heap.size) l6.size (by intro j hj h; omega))
      clear hB6 l6 o7
      go_wp2_with fail
      go_ret
      exact ⟨by simp, l7⟩
  | some o =>
    clear hI
    go_wp2_with fail
    refine (live_any w1).mono ?_
    rintro e w2 ⟨rfl, o2⟩
    have hB2 := hL.below o2
    have l2 := l1.trans (o2.mono l1.size)
    clear hL l1 o2
    go_wp2_with fail
    refine (snap_to (v := 0) (n := 7) hB2 (by rfl) (by rfl)).mono ?_
    rintro e w3 ⟨rfl, o3⟩
    have l3 := l2.trans (o3.mono l2.size)
    clear hB2 l2 o3
    go_wp2_with fail
    go_ret
    exact ⟨rfl, l3⟩

theorem none_ {H : Type} (enc : TypeId × Value → H) (w : World) (c : Array Value) (h : Fits enc Try.prog w 46 c.toList) :
    Calls Try.prog 7 #[.agg c] w fun e w' => e = .returned (.bool true) ∧ Below w.heap.size w w' := by
  obtain ⟨k, o, t, hc⟩ := deed_of h
  obtain rfl : c = #[.int .i64 k, .int .i64 o, .int .u64 t] := by cases c; simp_all
  clear h hc
  have l0 : Below w.heap.size w (w.alloc (.cells #[.int .i64 k, .int .i64 o, .int .u64 t] 46)) := by repeat (first | exact Below.refl _ _ | apply Below.drew | refine Below.alloc ?_ (by (try simp) <;> omega) _ | refine Below.setCell ?_ (by (try simp) <;> omega) _)
  have hx : (w.alloc (.cells #[.int .i64 k, .int .i64 o, .int .u64 t] 46)).heap[w.heap.size]? = some (.cells #[.int .i64 k, .int .i64 o, .int .u64 t] 46 (0, 0)) := blk_new _ _
  have c1 := blk_cell hx 1
  have c2 := blk_cell hx 2
  simp only [List.getElem?_toArray, List.getElem?_cons_zero, List.getElem?_cons_succ] at c1 c2
  clear hx
  go_enter Try.func7, Try.ntmps7
  go_wp2_with fail
  generalize w.alloc (.cells #[.int .i64 k, .int .i64 o, .int .u64 t] 46) = W at *
  go_wp2_with fail; refine (snap_nil _).mono ?_; rintro e w1 ⟨rfl, o1⟩; have l1 := btrans l0 (Nat.le_refl _) o1
  replace c1 := bkeep o1 c1; replace c2 := bkeep o1 c2; clear l0 o1
  go_wp2_with fail; refine (owner_nil _).mono ?_; rintro e w2 ⟨rfl, rfl⟩
  go_wp2_with fail; refine (live_any _).mono ?_; rintro e w2 ⟨rfl, o2⟩; have l2 := btrans l1 (Nat.le_refl _) o2
  replace c1 := bkeep o2 c1; replace c2 := bkeep o2 c2; clear l1 o2
  go_wp2_with fail; refine (try_nil _ _ _).mono ?_; rintro e w3 ⟨rfl, o3⟩; have l3 := btrans l2 (Nat.le_refl _) o3
  replace c1 := bkeep o3 c1; replace c2 := bkeep o3 c2; clear l2 o3
  go_wp2_with fail; refine (unlock_nil _ _).mono ?_; rintro e w4 ⟨rfl, o4⟩; have l4 := btrans l3 (Nat.le_refl _) o4
  replace c1 := bkeep o4 c1; replace c2 := bkeep o4 c2; clear l3 o4
  go_wp2_with fail; refine (break_nil _ _).mono ?_; rintro e w5 ⟨rfl, o5⟩; have l5 := btrans l4 (Nat.le_refl _) o5
  replace c1 := bkeep o5 c1; replace c2 := bkeep o5 c2; clear l4 o5
  go_wp2_with fail; refine (count_nil _).mono ?_; rintro e w6 ⟨rfl, rfl⟩
  go_wp2_with fail; refine (since_nil _ _).mono ?_; rintro e w6 ⟨rfl, rfl⟩
  go_wp2_with fail; refine (fork_nil _).mono ?_; rintro e w6 ⟨rfl, rfl⟩
  go_wp2_with fail
  go_ret
  exact ⟨by simp, l5⟩

/-- What is done on a Fork leaves the other one. -/
theorem LockAt.keep2 {S : Nat → Prop} {w w' : World} {b : Nat} {s : St} (h : LockAt w b s) (hc : ∀ k, S k → ∃ cs t, w.heap[k]? = some (.cells cs t (0, 0)) ∧ t ≠ 3) (ho : Only S w w') (hne : ¬ S b) : LockAt w' b s := by
  unfold LockAt at *
  split
  · rename_i e
    rw [e] at h
    exact ho.blk h hne
  · rename_i o e
    rw [e] at h
    obtain ⟨x, hx, h1, h2⟩ := h
    refine ⟨x, hx, ho.blk h1 hne, ho.blk h2 fun hS => ?_⟩
    obtain ⟨cs, t, hk, ht⟩ := hc x hS
    rw [h2] at hk
    injection hk with hk
    injection hk with _ hk
    exact ht hk.symm
theorem Both.keep {w w' : World} {lb rb fb gb : Nat} {s s' : St} (h : Both w lb rb s) (hf : Both w fb gb s') (ho : Only (fun k => k = fb ∨ k = gb) w w') (h1 : lb < fb) (h2 : rb < fb) (h3 : fb < gb) : Both w' lb rb s := by
  refine ⟨h.l.keep2 (fun k hk => ?_) ho (by omega), h.r.only ho (by omega), h.inv⟩
  rcases hk with rfl | rfl
  · obtain ⟨cs, hcs⟩ := hf.l.obj
    exact ⟨cs, _, hcs, by decide⟩
  · exact ⟨_, _, hf.r, by decide⟩

/-- the loop of more deeds on the Fork -/
theorem forks {H : Type} (enc : TypeId × Value → H) (w : World) (a : Option Addr) (len cap : Nat) (h : Fits enc Try.prog w 22 [.slice a len cap]) (a' : Option Addr) (len' cap' : Nat) (h' : Fits enc Try.prog w 22 [.slice a' len' cap']) :
    Calls Try.prog 6 #[.slice a len cap, .slice a' len' cap'] w fun e w' => e = .returned (.bool true) ∧ Below w.heap.size w w' := by
  have HD := Lib.hid (deeds_of h)
  obtain ⟨hm, hd⟩ := deeds_of h'
  clear h h'
  rcases hd with rfl | ⟨b, off, rfl, hc⟩
  · go_enter Try.func6, Try.ntmps6
    go_wp2_with fail; refine (play_any w a len cap HD.out).mono ?_; rintro e w1 ⟨lb, rb, s, rfl, hB, h0, h1, h2, l1⟩; clear HD; go_wp2_with fail; refine (live_any w1).mono ?_; rintro e w2 ⟨rfl, o2⟩; have l2 := btrans l1 (Nat.le_refl _) o2; have hB2 := hB.below o2; have hBlt : lb < w2.heap.size ∧ rb < w2.heap.size := ⟨hB2.l.lt, hB2.r.lt⟩; clear hB o2; go_wp2_with fail; refine (fork_any _ _ _ hB2.l).mono ?_; rintro e w3 ⟨rfl, hF, o3⟩; have hB3 := hB2.below o3; have l3 := btrans l2 (Nat.le_refl _) o3; have s2 := l2.size; clear l2 hB2; go_wp2_with fail; refine (rfork_any _ _ _ hB3.r).mono ?_; rintro e w4 ⟨rfl, hG, o4⟩; have hB4 := hB3.below o4; have hF4 : Both w4 w2.heap.size w3.heap.size s := ⟨hF.below o4, hG, hB3.inv⟩; have l4 := btrans l3 (Nat.le_refl _) o4; have q1 := hB3.l.lt; have q2 := hB3.r.lt
    go_wp2_with fail
    go_loopw [10] (fun i wr => i = .int .i64 0 ∧ wr = w4) (fun _ _ => 0)
    case atStart => exact ⟨rfl, rfl⟩
    case round =>
      obtain ⟨rfl, rfl⟩ := hrel
      go_wp2_with fail
      go_wp2_with fail; refine (same_any _ _ _ _ hB4 _).mono ?_; rintro e w5 ⟨rfl, o5⟩; have l5 := btrans l4 (Nat.le_refl _) o5; go_wp2_with fail; refine (same_any _ _ _ _ (hF4.below o5) _).mono ?_; rintro e w6 ⟨rfl, o6⟩; have l6 := btrans l5 (Nat.le_refl _) o6; go_wp2_with fail; go_ret; exact ⟨rfl, l6⟩
  · have HC := Lib.hid hc; clear hc
    go_enter Try.func6, Try.ntmps6
    go_wp2_with fail; refine (play_any w a len cap HD.out).mono ?_; rintro e w1 ⟨lb, rb, s, rfl, hB, h0, h1, h2, l1⟩; clear HD; go_wp2_with fail; refine (live_any w1).mono ?_; rintro e w2 ⟨rfl, o2⟩; have l2 := btrans l1 (Nat.le_refl _) o2; have hB2 := hB.below o2; have hBlt : lb < w2.heap.size ∧ rb < w2.heap.size := ⟨hB2.l.lt, hB2.r.lt⟩; clear hB o2; go_wp2_with fail; refine (fork_any _ _ _ hB2.l).mono ?_; rintro e w3 ⟨rfl, hF, o3⟩; have hB3 := hB2.below o3; have l3 := btrans l2 (Nat.le_refl _) o3; have s2 := l2.size; clear l2 hB2; go_wp2_with fail; refine (rfork_any _ _ _ hB3.r).mono ?_; rintro e w4 ⟨rfl, hG, o4⟩; have hB4 := hB3.below o4; have hF4 : Both w4 w2.heap.size w3.heap.size s := ⟨hF.below o4, hG, hB3.inv⟩; have l4 := btrans l3 (Nat.le_refl _) o4; have q1 := hB3.l.lt; have q2 := hB3.r.lt
    go_wp2_with fail
    have p2 : w2.heap.size < w3.heap.size := hF.lt
    have p0 : lb < w2.heap.size := by have := l1.size; have := hBlt.1; omega
    have p1 : rb < w2.heap.size := by have := hBlt.2; omega
    go_loopw [10] (fun i wr => ∃ (k : Nat) (s' : St), k ≤ len' ∧ k ≤ 14 ∧ i = .int .i64 k ∧ Both wr lb rb s ∧ Both wr w2.heap.size w3.heap.size s' ∧ Below w.heap.size w wr) (fun i _ => len' - (intOf i).toNat)
    case atStart => exact ⟨0, s, Nat.zero_le _, Nat.zero_le _, rfl, hB4, hF4, l4⟩
    case round =>
      clear hB4 hF4 l4 hB3 hF hG
      obtain ⟨k, s', hk, hk6, rfl, hB4, hF4, hL⟩ := hrel
      by_cases hlt : k < len'
      · by_cases h60 : k < 14
        · have HB := Lib.hid hB4; have HF := Lib.hid hF4; have HL := Lib.hid hL; clear hB4 hF4 hL
          obtain ⟨x, o, t, c0, c1, c2⟩ := HC.out k hlt
          have lt0 := World.block_lt_of_cell? w _ c0
          replace c0 := (HL.out.cell (p := ⟨b, off + k * 3, none⟩) lt0).trans c0
          replace c1 := (HL.out.cell (p := ⟨b, off + k * 3 + 1, none⟩) lt0).trans c1
          replace c2 := (HL.out.cell (p := ⟨b, off + k * 3 + 2, none⟩) lt0).trans c2
          go_wp2_with (first | (go_at_call 20; refine (do_any _ _ _ s' HF.out _ _ _).mono ?_; rintro e w5 ⟨rfl, s2, hB', hcn', hO'⟩))
          have HN := HL.out.trans (hO'.below HL.out.size (by intro j hj h; omega))
          exact ⟨⟨k + 1, s2, by omega, by omega, by go_num, HB.out.keep HF.out hO' p0 p1 p2, hB', HN⟩, by simp [intOf]; omega⟩
        · have h60' : ¬ ((k : Int) < 14) := by omega
          go_wp2_with fail
          go_wp2_with fail; refine (same_any _ _ _ _ hB4 _).mono ?_; rintro e w5 ⟨rfl, o5⟩; have l5 := btrans hL (Nat.le_refl _) o5; go_wp2_with fail; refine (same_any _ _ _ _ (hF4.below o5) _).mono ?_; rintro e w6 ⟨rfl, o6⟩; have l6 := btrans l5 (Nat.le_refl _) o6; go_wp2_with fail; go_ret; exact ⟨rfl, l6⟩
      · go_wp2_with fail
        go_wp2_with fail; refine (same_any _ _ _ _ hB4 _).mono ?_; rintro e w5 ⟨rfl, o5⟩; have l5 := btrans hL (Nat.le_refl _) o5; go_wp2_with fail; refine (same_any _ _ _ _ (hF4.below o5) _).mono ?_; rintro e w6 ⟨rfl, o6⟩; have l6 := btrans l5 (Nat.le_refl _) o6; go_wp2_with fail; go_ret; exact ⟨rfl, l6⟩
end Go.Proofs.Ytggpfmemfdlmiaa.Seq
