/- What the closures of package seqlock do, and 'attempt'. -/
import Derived.Test.YtgjemjogncnbnaaChecked
import Derived.Test.YtgjemjogncnbnaaLib
import Derived.StillTailTactics
namespace Go.Proofs.Ytgjemjogncnbnaa.Seq
open Go.RowKit
set_option linter.unusedSimpArgs false
set_option linter.unusedVariables false
set_option maxRecDepth 50000

abbrev refused (n : Int) : Ending := .panicked [{ v := .iface 133 (.agg #[.int .i64 n]), recovered := false }]
abbrev retu : Ending := .returned (.tuple #[])

def NeedPost (t : Bool) (n : Int) (w : World) (e : Ending) (w' : World) : Prop := (t = true ∧ e = retu ∨ t = false ∧ e = refused n) ∧ w = w'

theorem need_any (t : Bool) (n : Int) (w : World) : Calls Try.prog 54 #[.bool t, .int .i64 n] w (NeedPost t n w) := by
  cases t
  · go_enter Try.func54, Try.ntmps54
    go_wp2
    exact ⟨rfl, .inr ⟨rfl, rfl⟩, rfl⟩
  · go_enter Try.func54, Try.ntmps54
    go_wp2
    go_end0
    exact ⟨.inl ⟨rfl, rfl⟩, rfl⟩

/-! ### Snapshot's closure -/
theorem snap1_nil (p q : Nat) (w : World) (hp : w.cell? ⟨p, 0, none⟩ = some (.pointer none)) :
    Calls Try.prog 53 #[.pointer (some ⟨p, 0, none⟩), .pointer (some ⟨q, 0, none⟩)] w fun e w' => e = refused 1 ∧ w = w' := by
  go_enter Try.func53, Try.ntmps53
  go_wp2_with (first | (go_at_call 54; refine (need_any _ _ _).mono ?_; rintro e w' ⟨(⟨ht, rfl⟩ | ⟨ht, rfl⟩), rfl⟩ <;> cases ht))
  exact ⟨rfl, rfl, rfl⟩

theorem snap1_busy (p q b : Nat) (a : Addr) (w : World) (hp : w.cell? ⟨p, 0, none⟩ = some (.pointer (some ⟨b, 0, none⟩)))
    (h0 : w.cell? ⟨b, 0, none⟩ = some (.pointer (some a))) :
    Calls Try.prog 53 #[.pointer (some ⟨p, 0, none⟩), .pointer (some ⟨q, 0, none⟩)] w fun e w' => e = refused 7 ∧ w = w' := by
  go_enter Try.func53, Try.ntmps53
  go_wp2_with (first | (go_at_call 54; refine (need_any _ _ _).mono ?_; rintro e w' ⟨(⟨ht, rfl⟩ | ⟨ht, rfl⟩), rfl⟩ <;> cases ht))
  exact ⟨rfl, rfl, rfl⟩

theorem snap1_free (p q b : Nat) (c x : Int) (w : World) (hp : w.cell? ⟨p, 0, none⟩ = some (.pointer (some ⟨b, 0, none⟩)))
    (h0 : w.cell? ⟨b, 0, none⟩ = some (.pointer none)) (h1 : w.cell? ⟨b, 1, none⟩ = some (.int .u64 c)) (hq : w.cell? ⟨q, 0, none⟩ = some (.int .u64 x)) (fq : w.frozen? ⟨q, 0, none⟩ = false) :
    Calls Try.prog 53 #[.pointer (some ⟨p, 0, none⟩), .pointer (some ⟨q, 0, none⟩)] w fun e w' => e = retu ∧ w' = w.setCell ⟨q, 0, none⟩ (.int .u64 c) := by
  go_enter Try.func53, Try.ntmps53
  go_wp2_with (first | (go_at_call 54; refine (need_any _ _ _).mono ?_; rintro e w' ⟨(⟨ht, rfl⟩ | ⟨ht, rfl⟩), rfl⟩ <;> cases ht))
  go_end0
  exact ⟨rfl, rfl⟩

/-! ### Try's closure: p the lock's box, q the owner's, r at's -/
theorem try1_nil (p q r : Nat) (w : World) (hp : w.cell? ⟨p, 0, none⟩ = some (.pointer none)) :
    Calls Try.prog 62 #[.pointer (some ⟨p, 0, none⟩), .pointer (some ⟨q, 0, none⟩), .pointer (some ⟨r, 0, none⟩)] w fun e w' => e = refused 1 ∧ w = w' := by
  go_enter Try.func62, Try.ntmps62
  go_wp2_with (first | (go_at_call 54; refine (need_any _ _ _).mono ?_; rintro e w' ⟨(⟨ht, rfl⟩ | ⟨ht, rfl⟩), rfl⟩ <;> cases ht))
  exact ⟨rfl, rfl, rfl⟩

theorem try1_range (p q r b : Nat) (o : Int) (w : World) (hp : w.cell? ⟨p, 0, none⟩ = some (.pointer (some ⟨b, 0, none⟩)))
    (hq : w.cell? ⟨q, 0, none⟩ = some (.int .i64 o)) (ho : o < 0 ∨ 4 ≤ o) :
    Calls Try.prog 62 #[.pointer (some ⟨p, 0, none⟩), .pointer (some ⟨q, 0, none⟩), .pointer (some ⟨r, 0, none⟩)] w fun e w' => e = refused 2 ∧ w = w' := by
  rcases ho with ho | ho
  · have ho0 : decide (0 ≤ o) = false := by simp; omega
    have ho1 : ¬ 0 ≤ o := by omega
    go_enter Try.func62, Try.ntmps62
    go_wp2_with (first | (go_at_call 54; refine (need_any _ _ _).mono ?_; rintro e w' ⟨(⟨ht, rfl⟩ | ⟨ht, rfl⟩), rfl⟩ <;> cases ht))
    exact ⟨rfl, rfl, rfl⟩
  · have ho0 : 0 ≤ o := by omega
    have ho1 : decide (o < 4) = false := by simp; omega
    go_enter Try.func62, Try.ntmps62
    go_wp2_with (first | (go_at_call 54; refine (need_any _ _ _).mono ?_; rintro e w' ⟨(⟨ht, rfl⟩ | ⟨ht, rfl⟩), rfl⟩ <;> cases ht))
    exact ⟨rfl, rfl, rfl⟩

theorem try1_busy (p q r b : Nat) (a : Addr) (o : Int) (w : World) (hp : w.cell? ⟨p, 0, none⟩ = some (.pointer (some ⟨b, 0, none⟩)))
    (hq : w.cell? ⟨q, 0, none⟩ = some (.int .i64 o)) (ho : 0 ≤ o) (ho' : o < 4) (h0 : w.cell? ⟨b, 0, none⟩ = some (.pointer (some a))) :
    Calls Try.prog 62 #[.pointer (some ⟨p, 0, none⟩), .pointer (some ⟨q, 0, none⟩), .pointer (some ⟨r, 0, none⟩)] w fun e w' => e = refused 7 ∧ w = w' := by
  go_enter Try.func62, Try.ntmps62
  go_wp2_with (first | (go_at_call 54; refine (need_any _ _ _).mono ?_; rintro e w' ⟨(⟨ht, rfl⟩ | ⟨ht, rfl⟩), rfl⟩ <;> cases ht))
  exact ⟨rfl, rfl, rfl⟩

theorem try1_state (p q r b : Nat) (o c t : Int) (w : World) (hp : w.cell? ⟨p, 0, none⟩ = some (.pointer (some ⟨b, 0, none⟩)))
    (hq : w.cell? ⟨q, 0, none⟩ = some (.int .i64 o)) (ho : 0 ≤ o) (ho' : o < 4) (h0 : w.cell? ⟨b, 0, none⟩ = some (.pointer none))
    (h1 : w.cell? ⟨b, 1, none⟩ = some (.int .u64 c)) (hr : w.cell? ⟨r, 0, none⟩ = some (.int .u64 t)) (hct : (c == t) = false) :
    Calls Try.prog 62 #[.pointer (some ⟨p, 0, none⟩), .pointer (some ⟨q, 0, none⟩), .pointer (some ⟨r, 0, none⟩)] w fun e w' => e = refused 8 ∧ w' = w.drew := by
  go_enter Try.func62, Try.ntmps62
  go_wp2_with (first | (go_at_call 54; refine (need_any _ _ _).mono ?_; rintro e w' ⟨(⟨ht, rfl⟩ | ⟨ht, rfl⟩), rfl⟩ <;> cases ht))
  refine wp_region_tail 6 (by kernel_rfl) (by kernel_rfl) ?_; simp only [List.take_succ_cons, List.take_zero, List.drop_succ_cons, List.drop_zero]
  repeat (first | (with_reducible refine wpStill_skip ?_ ?_; (focus (simp [Region.wanted, yielded]; done)); simp only [Act.put, List.setIfInBounds_toArray, List.set_cons_succ, List.set_cons_zero]) | (with_reducible refine wpStill_step (fun KK hKK => ?_); go_simp; refine hKK _ ?_; clear hKK KK))
  with_reducible refine wpStill_nil ?_
  go_wp2_with (first | (go_at_call 54; refine (need_any _ _ _).mono ?_; rintro e w' ⟨(⟨ht, rfl⟩ | ⟨ht, rfl⟩), rfl⟩ <;> cases ht))
  exact ⟨rfl, rfl, rfl⟩

theorem try1_space (p q r b : Nat) (o c : Int) (w : World) (hp : w.cell? ⟨p, 0, none⟩ = some (.pointer (some ⟨b, 0, none⟩)))
    (hq : w.cell? ⟨q, 0, none⟩ = some (.int .i64 o)) (ho : 0 ≤ o) (ho' : o < 4) (h0 : w.cell? ⟨b, 0, none⟩ = some (.pointer none))
    (h1 : w.cell? ⟨b, 1, none⟩ = some (.int .u64 c)) (hr : w.cell? ⟨r, 0, none⟩ = some (.int .u64 c)) (hc : decide (c < 1099511627775) = false) :
    Calls Try.prog 62 #[.pointer (some ⟨p, 0, none⟩), .pointer (some ⟨q, 0, none⟩), .pointer (some ⟨r, 0, none⟩)] w fun e w' => e = refused 4 ∧ w' = w.drew := by
  go_enter Try.func62, Try.ntmps62
  go_wp2_with (first | (go_at_call 54; refine (need_any _ _ _).mono ?_; rintro e w' ⟨(⟨ht, rfl⟩ | ⟨ht, rfl⟩), rfl⟩ <;> cases ht))
  refine wp_region_tail 6 (by kernel_rfl) (by kernel_rfl) ?_; simp only [List.take_succ_cons, List.take_zero, List.drop_succ_cons, List.drop_zero]
  repeat (first | (with_reducible refine wpStill_skip ?_ ?_; (focus (simp [Region.wanted, yielded]; done)); simp only [Act.put, List.setIfInBounds_toArray, List.set_cons_succ, List.set_cons_zero]) | (with_reducible refine wpStill_step (fun KK hKK => ?_); go_simp; refine hKK _ ?_; clear hKK KK))
  with_reducible refine wpStill_nil ?_
  go_wp2_with (first | (go_at_call 54; refine (need_any _ _ _).mono ?_; rintro e w' ⟨(⟨ht, rfl⟩ | ⟨ht, rfl⟩), rfl⟩ <;> cases ht))
  exact ⟨rfl, rfl, rfl⟩

theorem try1_ok (p q r b : Nat) (o c : Int) (w : World) (hp : w.cell? ⟨p, 0, none⟩ = some (.pointer (some ⟨b, 0, none⟩))) (hpb : b ≠ p)
    (hq : w.cell? ⟨q, 0, none⟩ = some (.int .i64 o)) (ho : 0 ≤ o) (ho' : o < 4) (h0 : w.cell? ⟨b, 0, none⟩ = some (.pointer none))
    (h1 : w.cell? ⟨b, 1, none⟩ = some (.int .u64 c)) (hr : w.cell? ⟨r, 0, none⟩ = some (.int .u64 c)) (hc0 : 0 ≤ c) (hc : c < 1099511627775)
    (f : ∀ i, w.frozen? ⟨b, i, none⟩ = false) :
    Calls Try.prog 62 #[.pointer (some ⟨p, 0, none⟩), .pointer (some ⟨q, 0, none⟩), .pointer (some ⟨r, 0, none⟩)] w fun e w' => e = retu ∧
      w' = ((w.setCell ⟨b, 0, none⟩ (.pointer (some ⟨q, 0, none⟩))).setCell ⟨b, 1, none⟩ (.int .u64 (c + 1))).drew := by
  have hpb' : p ≠ b := fun h => hpb h.symm
  go_enter Try.func62, Try.ntmps62
  go_wp2_with (first | (go_at_call 54; refine (need_any _ _ _).mono ?_; rintro e w' ⟨(⟨ht, rfl⟩ | ⟨ht, rfl⟩), rfl⟩ <;> cases ht))
  refine wp_region_tail 6 (by kernel_rfl) (by kernel_rfl) ?_; simp only [List.take_succ_cons, List.take_zero, List.drop_succ_cons, List.drop_zero]
  repeat (first | (with_reducible refine wpStill_skip ?_ ?_; (focus (simp [Region.wanted, yielded]; done)); simp only [Act.put, List.setIfInBounds_toArray, List.set_cons_succ, List.set_cons_zero]) | (with_reducible refine wpStill_step (fun KK hKK => ?_); go_simp; refine hKK _ ?_; clear hKK KK))
  with_reducible refine wpStill_nil ?_
  go_wp2_with (first | (go_at_call 54; refine (need_any _ _ _).mono ?_; rintro e w' ⟨(⟨ht, rfl⟩ | ⟨ht, rfl⟩), rfl⟩ <;> cases ht))
  go_end0
  exact ⟨rfl, rfl⟩

/-! ### free's closure: p the lock's box, q the owner's, r the function's -/
theorem free1_nil (p q r : Nat) (w : World) (hp : w.cell? ⟨p, 0, none⟩ = some (.pointer none)) :
    Calls Try.prog 69 #[.pointer (some ⟨p, 0, none⟩), .pointer (some ⟨q, 0, none⟩), .pointer (some ⟨r, 0, none⟩)] w fun e w' => e = refused 1 ∧ w = w' := by
  go_enter Try.func69, Try.ntmps69
  go_wp2_with (first | (go_at_call 54; refine (need_any _ _ _).mono ?_; rintro e w' ⟨(⟨ht, rfl⟩ | ⟨ht, rfl⟩), rfl⟩ <;> cases ht))
  exact ⟨rfl, rfl, rfl⟩

theorem free1_free (p q r b : Nat) (w : World) (hp : w.cell? ⟨p, 0, none⟩ = some (.pointer (some ⟨b, 0, none⟩))) (h0 : w.cell? ⟨b, 0, none⟩ = some (.pointer none)) :
    Calls Try.prog 69 #[.pointer (some ⟨p, 0, none⟩), .pointer (some ⟨q, 0, none⟩), .pointer (some ⟨r, 0, none⟩)] w fun e w' => e = refused 8 ∧ w' = w.drew := by
  go_enter Try.func69, Try.ntmps69
  go_wp2_with (first | (go_at_call 54; refine (need_any _ _ _).mono ?_; rintro e w' ⟨(⟨ht, rfl⟩ | ⟨ht, rfl⟩), rfl⟩ <;> cases ht))
  refine wp_region_tail 15 (by kernel_rfl) (by kernel_rfl) ?_; simp only [List.take_succ_cons, List.take_zero, List.drop_succ_cons, List.drop_zero]
  repeat (first | (with_reducible refine wpStill_skip ?_ ?_; (focus (simp [Region.wanted, yielded]; done)); simp only [Act.put, List.setIfInBounds_toArray, List.set_cons_succ, List.set_cons_zero]) | (with_reducible refine wpStill_step (fun KK hKK => ?_); go_simp; refine hKK _ ?_; clear hKK KK))
  with_reducible refine wpStill_nil ?_
  go_wp2_with (first | (go_at_call 54; refine (need_any _ _ _).mono ?_; rintro e w' ⟨(⟨ht, rfl⟩ | ⟨ht, rfl⟩), rfl⟩ <;> cases ht))
  exact ⟨rfl, rfl, rfl⟩

theorem free1_other (p q r b x : Nat) (o o' : Int) (w : World) (hp : w.cell? ⟨p, 0, none⟩ = some (.pointer (some ⟨b, 0, none⟩))) (h0 : w.cell? ⟨b, 0, none⟩ = some (.pointer (some ⟨x, 0, none⟩)))
    (hx : w.cell? ⟨x, 0, none⟩ = some (.int .i64 o)) (hq : w.cell? ⟨q, 0, none⟩ = some (.int .i64 o')) (ho : (o == o') = false) :
    Calls Try.prog 69 #[.pointer (some ⟨p, 0, none⟩), .pointer (some ⟨q, 0, none⟩), .pointer (some ⟨r, 0, none⟩)] w fun e w' => e = refused 8 ∧ w' = w.drew := by
  go_enter Try.func69, Try.ntmps69
  go_wp2_with (first | (go_at_call 54; refine (need_any _ _ _).mono ?_; rintro e w' ⟨(⟨ht, rfl⟩ | ⟨ht, rfl⟩), rfl⟩ <;> cases ht))
  refine wp_region_tail 15 (by kernel_rfl) (by kernel_rfl) ?_; simp only [List.take_succ_cons, List.take_zero, List.drop_succ_cons, List.drop_zero]
  repeat (first | (with_reducible refine wpStill_skip ?_ ?_; (focus (simp [Region.wanted, yielded]; done)); simp only [Act.put, List.setIfInBounds_toArray, List.set_cons_succ, List.set_cons_zero]) | (with_reducible refine wpStill_step (fun KK hKK => ?_); go_simp; refine hKK _ ?_; clear hKK KK))
  with_reducible refine wpStill_nil ?_
  go_wp2_with (first | (go_at_call 54; refine (need_any _ _ _).mono ?_; rintro e w' ⟨(⟨ht, rfl⟩ | ⟨ht, rfl⟩), rfl⟩ <;> cases ht))
  exact ⟨rfl, rfl, rfl⟩

theorem unlock1_any (n : Int) (w : World) (h0 : 0 ≤ n) (h : n < 1099511627779) : Calls Try.prog 63 #[.int .u64 n] w fun e w' => e = .returned (.int .u64 (n + 1)) ∧ w = w' := by
  go_enter Try.func63, Try.ntmps63
  go_wp2
  go_ret
  exact ⟨rfl, rfl⟩

theorem break1_any (n : Int) (w : World) (h0 : 1 ≤ n) (h : n < 1099511627779) : Calls Try.prog 61 #[.int .u64 n] w fun e w' => e = .returned (.int .u64 (n - 1)) ∧ w = w' := by
  go_enter Try.func61, Try.ntmps61
  go_wp2
  go_ret
  exact ⟨rfl, rfl⟩

/-- the owner frees: K is the function that counts -/
theorem free1_ok (K : Nat) (p q r b x : Nat) (o c c' : Int) (w : World) (hp : w.cell? ⟨p, 0, none⟩ = some (.pointer (some ⟨b, 0, none⟩))) (hpb : b ≠ p) (hrb : b ≠ r)
    (h0 : w.cell? ⟨b, 0, none⟩ = some (.pointer (some ⟨x, 0, none⟩))) (h1 : w.cell? ⟨b, 1, none⟩ = some (.int .u64 c))
    (hx : w.cell? ⟨x, 0, none⟩ = some (.int .i64 o)) (hq : w.cell? ⟨q, 0, none⟩ = some (.int .i64 o)) (hr : w.cell? ⟨r, 0, none⟩ = some (.func (.func K) #[] #[]))
    (f : ∀ i, w.frozen? ⟨b, i, none⟩ = false) (hcf : ∀ args W, (callFunc K args).run Try.prog W = .ok (.enter K args) W) (hK : ∀ W, Calls Try.prog K #[.int .u64 c] W fun e w' => e = .returned (.int .u64 c') ∧ W = w') :
    Calls Try.prog 69 #[.pointer (some ⟨p, 0, none⟩), .pointer (some ⟨q, 0, none⟩), .pointer (some ⟨r, 0, none⟩)] w fun e w' => e = retu ∧
      ∃ n, w' = ((w.setCell ⟨b, 0, none⟩ (.pointer none)).setCell ⟨b, 1, none⟩ (.int .u64 c')).drewN n := by
  have hpb' : p ≠ b := fun h => hpb h.symm
  have hrb' : r ≠ b := fun h => hrb h.symm
  have HK := Lib.hid hK; clear hK
  go_enter Try.func69, Try.ntmps69
  go_wp2_with (first | (go_at_call 54; refine (need_any _ _ _).mono ?_; rintro e w' ⟨(⟨ht, rfl⟩ | ⟨ht, rfl⟩), rfl⟩ <;> cases ht))
  refine wp_region_tail 15 (by kernel_rfl) (by kernel_rfl) ?_; simp only [List.take_succ_cons, List.take_zero, List.drop_succ_cons, List.drop_zero]
  repeat (first | (with_reducible refine wpStill_skip ?_ ?_; (focus (simp [Region.wanted, yielded]; done)); simp only [Act.put, List.setIfInBounds_toArray, List.set_cons_succ, List.set_cons_zero]) | (with_reducible refine wpStill_step (fun KK hKK => ?_); go_simp; refine hKK _ ?_; clear hKK KK))
  with_reducible refine wpStill_nil ?_
  go_wp2_with (first | (go_at_call 54; refine (need_any _ _ _).mono ?_; rintro e w' ⟨(⟨ht, rfl⟩ | ⟨ht, rfl⟩), rfl⟩ <;> cases ht))
  refine wp_region_tail 9 (by kernel_rfl) (by kernel_rfl) ?_; simp only [List.take_succ_cons, List.take_zero, List.drop_succ_cons, List.drop_zero]
  repeat (first | (with_reducible refine wpStill_skip ?_ ?_; (focus (simp [Region.wanted, yielded]; done)); simp only [Act.put, List.setIfInBounds_toArray, List.set_cons_succ, List.set_cons_zero]) | (with_reducible refine wpStill_step (fun KK hKK => ?_); go_simp; refine hKK _ ?_; clear hKK KK) | (with_reducible refine wpStill_step (fun KK hKK => ?_); go_simp; refine ⟨_, ((HK.out _).mono (fun e w' h => ⟨h.1, h.2.symm⟩)), hKK _ ?_⟩; clear hKK KK))
  with_reducible refine wpStill_nil ?_
  go_wp2_with fail
  go_end0
  exact ⟨rfl, 2, rfl⟩
end Go.Proofs.Ytgjemjogncnbnaa.Seq
