/- 'play', 'live', 'same' of the statements on seqlock. -/
import Derived.Test.YtggpfmemfdlmiaaSeqL
namespace Go.Proofs.Ytggpfmemfdlmiaa.Seq
open Go.RowKit
set_option linter.unusedSimpArgs false
set_option linter.unusedVariables false

/-- A slice of deeds that is read. -/
def Deeds (w : World) (a : Option Addr) (len : Nat) : Prop :=
  len ≤ 9223372036854775807 ∧ (len = 0 ∨ ∃ b off, a = some ⟨b, off, none⟩ ∧ ∀ i, i < len → ∃ k o t, w.cell? ⟨b, off + i * 3, none⟩ = some (.int .i64 k) ∧ w.cell? ⟨b, off + i * 3 + 1, none⟩ = some (.int .i64 o) ∧ w.cell? ⟨b, off + i * 3 + 2, none⟩ = some (.int .u64 t))

def PlayPost (w : World) (e : Ending) (w' : World) : Prop :=
  ∃ lb rb s, e = .returned (.tuple #[ptr lb, rptr rb, .bool true]) ∧ Both w' lb rb s ∧ s.cnt ≤ 60 ∧ w.heap.size ≤ lb ∧ w.heap.size ≤ rb ∧ Below w.heap.size w w'

theorem play_any (w : World) (a : Option Addr) (len cap : Nat) (h : Deeds w a len) : Calls Try.prog 8 #[.slice a len cap] w (PlayPost w) := by
  obtain ⟨hm, hd⟩ := h
  have B0 : Both ((w.alloc (.cells #[.pointer none, .int .u64 0] 53)).alloc (.cells #[.int .u64 0, .bool false, .int .i64 0] 57)) w.heap.size (w.heap.size + 1) st0 :=
    ⟨by unfold LockAt; exact blk_alloc (blk_new _ _) _, (by have h := blk_new (w.alloc (.cells #[.pointer none, .int .u64 0] 53)) (.cells #[.int .u64 0, .bool false, .int .i64 0] 57); rw [World.size_alloc] at h; exact h), inv0⟩
  have L0 : Below w.heap.size w ((w.alloc (.cells #[.pointer none, .int .u64 0] 53)).alloc (.cells #[.int .u64 0, .bool false, .int .i64 0] 57)) := by repeat (first | exact Below.refl _ _ | apply Below.drew | refine Below.alloc ?_ (by (try simp) <;> omega) _ | refine Below.setCell ?_ (by (try simp) <;> omega) _)
  have HB0 := Lib.hid B0
  have HL0 := Lib.hid L0
  clear B0 L0
  rcases hd with rfl | ⟨b, off, rfl, hc⟩
  · go_enter Try.func8, Try.ntmps8
    go_wp2_with (first | (go_at_call 21; refine (new_any _).mono ?_; rintro e w' ⟨rfl, rfl⟩) | (go_at_call 22; refine (rnew_any _).mono ?_; rintro e w' ⟨rfl, rfl⟩))
    generalize (w.alloc (.cells #[.pointer none, .int .u64 0] 53)).alloc (.cells #[.int .u64 0, .bool false, .int .i64 0] 57) = W at *
    go_loopw [7] (fun i wr => i = .int .i64 0 ∧ wr = W) (fun _ _ => 0)
    case atStart => exact ⟨rfl, rfl⟩
    case round =>
      obtain ⟨rfl, rfl⟩ := hrel
      go_wp2_with fail
      go_ret3
      exact ⟨w.heap.size, w.heap.size + 1, st0, rfl, HB0.out, (by decide), Nat.le_refl _, Nat.le_succ _, HL0.out⟩
  · have HC := Lib.hid hc; clear hc
    have hmm : len ≤ 9223372036854775807 := hm
    go_enter Try.func8, Try.ntmps8
    go_wp2_with (first | (go_at_call 21; refine (new_any _).mono ?_; rintro e w' ⟨rfl, rfl⟩) | (go_at_call 22; refine (rnew_any _).mono ?_; rintro e w' ⟨rfl, rfl⟩))
    generalize (w.alloc (.cells #[.pointer none, .int .u64 0] 53)).alloc (.cells #[.int .u64 0, .bool false, .int .i64 0] 57) = W at *
    go_loopw [7] (fun i wr => ∃ (k : Nat) (s : St), k ≤ len ∧ k ≤ 60 ∧ i = .int .i64 k ∧ Both wr w.heap.size (w.heap.size + 1) s ∧ s.cnt ≤ k ∧ Below w.heap.size w wr) (fun i _ => len - (intOf i).toNat)
    case atStart => exact ⟨0, st0, Nat.zero_le _, Nat.zero_le _, rfl, HB0.out, (by decide), HL0.out⟩
    case round =>
      obtain ⟨k, s, hk, hk6, rfl, hB, hcn, hL⟩ := hrel
      have HB := Lib.hid hB; have HL := Lib.hid hL; clear hB hL
      by_cases hlt : k < len
      · by_cases h60 : k < 60
        · obtain ⟨x, o, t, c0, c1, c2⟩ := HC.out k hlt
          have lt0 := World.block_lt_of_cell? w _ c0
          replace c0 := (HL.out.cell (p := ⟨b, off + k * 3, none⟩) lt0).trans c0
          replace c1 := (HL.out.cell (p := ⟨b, off + k * 3 + 1, none⟩) lt0).trans c1
          replace c2 := (HL.out.cell (p := ⟨b, off + k * 3 + 2, none⟩) lt0).trans c2
          go_wp2_with (first | (go_at_call 20; refine (do_any _ _ _ s HB.out _ _ _).mono ?_; rintro e w1 ⟨rfl, s', hB', hcn', hO'⟩))
          have HN := HL.out.trans (hO'.below HL.out.size (by intro j hj h; omega))
          exact ⟨⟨k + 1, s', by omega, by omega, by go_num, hB', by omega, HN⟩, by simp [intOf]; omega⟩
        · have h60' : ¬ ((k : Int) < 60) := by omega
          go_wp2_with fail
          go_ret3
          exact ⟨w.heap.size, w.heap.size + 1, s, rfl, HB.out, (by omega), Nat.le_refl _, Nat.le_succ _, HL.out⟩
      · go_wp2_with fail
        go_ret3
        exact ⟨w.heap.size, w.heap.size + 1, s, rfl, HB.out, (by omega), Nat.le_refl _, Nat.le_succ _, HL.out⟩

/-! ### same -/
theorem same_any (w : World) (lb rb : Nat) (s : St) (h : Both w lb rb s) (t : Int) : Calls Try.prog 15 #[ptr lb, rptr rb, .int .u64 t] w fun e w' => e = .returned (.bool true) ∧ Below w.heap.size w w' := by
  obtain ⟨hl, hr, hs⟩ := h
  have HL := Lib.hid hl
  have HR := Lib.hid hr
  clear hl hr hs
  go_enter Try.func15, Try.ntmps15
  go_wp2_with (first | (go_at_call 16; refine (owner_any _ _ _ HL.out).mono ?_; rintro e w' ⟨rfl, rfl⟩) | (go_at_call 30; refine (rowner_any _ _ _ HR.out).mono ?_; rintro e w' ⟨rfl, rfl⟩) | (go_at_call 17; refine (count_any _ _ _ HL.out).mono ?_; rintro e w' ⟨rfl, rfl⟩) | (go_at_call 31; refine (rcount_any _ _ _ HR.out).mono ?_; rintro e w' ⟨rfl, rfl⟩) | (go_at_call 12; refine (since_any _ _ _ HL.out _).mono ?_; rintro e w' ⟨rfl, rfl⟩) | (go_at_call 32; refine (rsince_any _ _ _ HR.out _).mono ?_; rintro e w' ⟨rfl, rfl⟩))
  go_ret
  exact ⟨by simp, Below.refl _ _⟩

/-! ### the methods at states that are known -/
theorem try_to {w : World} {b : Nat} {s : St} {o t n : Int} {s' : St} (hs : s.Inv) (h : LockAt w b s) (hE : s.tryE o t = n) (hS : s.trySt o t = s') :
    Calls Try.prog 11 #[ptr b, .int .i64 o, .int .u64 t] w fun e w2 => e = .returned (.int .i64 n) ∧ LockAt w2 b s' ∧ Only (fun k => k = b) w w2 := by
  subst hE hS
  exact try_any w b s hs h o t
theorem unlock_to {w : World} {b : Nat} {s : St} {o n : Int} {s' : St} (hs : s.Inv) (h : LockAt w b s) (hE : s.freeE o = n) (hS : s.unlockSt o = s') :
    Calls Try.prog 14 #[ptr b, .int .i64 o] w fun e w2 => e = .returned (.int .i64 n) ∧ LockAt w2 b s' ∧ Only (fun k => k = b) w w2 := by
  subst hE hS
  exact unlock_any w b s hs h o
theorem break_to {w : World} {b : Nat} {s : St} {o n : Int} {s' : St} (hs : s.Inv) (h : LockAt w b s) (hE : s.freeE o = n) (hS : s.breakSt o = s') :
    Calls Try.prog 13 #[ptr b, .int .i64 o] w fun e w2 => e = .returned (.int .i64 n) ∧ LockAt w2 b s' ∧ Only (fun k => k = b) w w2 := by
  subst hE hS
  exact break_any w b s hs h o
theorem snap_to {w : World} {b : Nat} {s : St} {v n : Int} (h : LockAt w b s) (hV : s.snapV = v) (hE : s.snapE = n) :
    Calls Try.prog 10 #[ptr b] w fun e w2 => e = .returned (.tuple #[.int .u64 v, .int .i64 n]) ∧ Below w.heap.size w w2 := by
  subst hV hE
  exact snap_any w b s h

def s1 : St := ⟨some 1, 1⟩
def s2 : St := ⟨none, 2⟩
theorem invs1 : s1.Inv := ⟨by decide, by decide, (fun o h => by cases h; decide), (fun h => by cases h)⟩
theorem invs2 : s2.Inv := ⟨by decide, by decide, (fun o h => by cases h), fun _ => by decide⟩

/-! ### live -/
theorem live_any (w : World) : Calls Try.prog 9 #[] w fun e w' => e = .returned (.bool true) ∧ Below w.heap.size w w' := by
  go_enter Try.func9, Try.ntmps9
  go_wp2_with (first | (go_at_call 21; refine (new_any _).mono ?_; rintro e w' ⟨rfl, rfl⟩))
  have B0 : LockAt (w.alloc (.cells #[.pointer none, .int .u64 0] 53)) w.heap.size st0 := by unfold LockAt; exact blk_new _ _
  have L0 : Below w.heap.size w (w.alloc (.cells #[.pointer none, .int .u64 0] 53)) := by repeat (first | exact Below.refl _ _ | apply Below.drew | refine Below.alloc ?_ (by (try simp) <;> omega) _ | refine Below.setCell ?_ (by (try simp) <;> omega) _)
  generalize (w.alloc (.cells #[.pointer none, .int .u64 0] 53)) = W at *
  refine (try_to (n := 0) (s' := s1) inv0 B0 (by decide) (by rfl)).mono ?_
  rintro e w1 ⟨rfl, h1, o1⟩
  have l1 := L0.trans (o1.below (B := w.heap.size) L0.size (by intro j hj h; omega))
  clear B0 L0 o1
  go_wp2_with fail
  refine (snap_to (v := 0) (n := 7) h1 (by rfl) (by rfl)).mono ?_
  rintro e w2 ⟨rfl, o2⟩
  have h2 := h1.below o2
  have l2 := l1.trans (o2.mono l1.size)
  clear h1 l1 o2
  go_wp2_with fail
  refine (unlock_to (n := 0) (s' := s2) invs1 h2 (by decide) (by rfl)).mono ?_
  rintro e w3 ⟨rfl, h3, o3⟩
  have l3 := l2.trans (o3.below (B := w.heap.size) l2.size (by intro j hj h; omega))
  clear h2 l2 o3
  go_wp2_with fail
  refine (count_any _ _ _ h3).mono ?_
  rintro e w4 ⟨rfl, rfl⟩
  go_wp2_with fail
  refine (try_to (n := 8) (s' := s2) invs2 h3 (by decide) (by rfl)).mono ?_
  rintro e w4 ⟨rfl, h4, o4⟩
  have l4 := l3.trans (o4.below (B := w.heap.size) l3.size (by intro j hj h; omega))
  clear h3 l3 o4
  go_wp2_with fail
  refine (since_any _ _ _ h4 _).mono ?_
  rintro e w5 ⟨rfl, rfl⟩
  go_wp2_with fail
  go_ret
  exact ⟨rfl, l4⟩
end Go.Proofs.Ytggpfmemfdlmiaa.Seq
