/- What 'become' of package cells answers. -/
import Derived.Test.YtiopopplbehieaaChecked
import Derived.Test.YtiopopplbehieaaCelM
namespace Go.Proofs.Ytiopopplbehieaa.Cel
open Go.RowKit
set_option linter.unusedSimpArgs false
set_option linter.unusedVariables false

theorem run_add (x y : Int) (hx : 0 ≤ x) (hy : 0 ≤ y) (w : World) : (callFunc 38 #[.int .u64 x, .int .u64 y, .int .u64 0]).run Try.prog w =
    .ok (.value (.tuple #[.int .u64 ((x + y) % 18446744073709551616), .int .u64 ((x + y) / 18446744073709551616)])) w := by
  rw [run_callFunc_extern Try.func38 (by kernel_rfl) (by kernel_rfl) (by kernel_rfl) (e := add64Entry) (by kernel_rfl), run_add64 x y 0 hx hy (by omega) (by omega)]
  simp [Result.andThen]

def BecPost (w : World) (r : Int × Bool × Int) (e : Ending) (w' : World) : Prop :=
  e = .returned (.tuple #[.int .u64 r.1, .bool r.2.1, .int .i64 r.2.2]) ∧ Below w.heap.size w w'

theorem become_any (w : World) (o : OpV) (ho : o.Fit) (was : Int) (hw : U64 was) :
    Calls Try.prog 29 #[.agg #[.int .u8 o.k, .int .i64 o.c, .int .u64 o.a, .int .u64 o.b], .int .u64 was] w (BecPost w (becV o was)) := by
  obtain ⟨k, c, a, b⟩ := o
  obtain ⟨hk0, hk1, ⟨ha0, ha1⟩, ⟨hb0, hb1⟩⟩ := ho
  obtain ⟨hw0, hw1⟩ := hw
  simp only at hk0 hk1 ha0 ha1 hb0 hb1
  by_cases h1 : k = 1
  · subst h1
    have e : becV ⟨1, c, a, b⟩ was = (was, true, 0) := by simp [becV]
    rw [e]
    clear e
    go_enter Try.func29, Try.ntmps29
    go_wp2
    go_ret3
    exact ⟨rfl, by repeat (first | (with_reducible exact Below.refl _ _) | (with_reducible apply Below.drew) | (with_reducible refine below_drewN ?_ _) | (with_reducible refine below_alloc' ?_ ?_ _; (focus ((try simp) <;> omega))) | (with_reducible refine below_set' ?_ ?_ _; (focus ((try simp) <;> omega))))⟩
  by_cases h3 : k = 3
  · subst h3
    by_cases hq : was = a
    · subst hq
      have e : becV ⟨3, c, was, b⟩ was = (b, true, 0) := by simp [becV]
      have hne : (was != was) = false := by simp
      rw [e]
      clear e
      go_enter Try.func29, Try.ntmps29
      go_wp2
      go_ret3
      exact ⟨rfl, by repeat (first | (with_reducible exact Below.refl _ _) | (with_reducible apply Below.drew) | (with_reducible refine below_drewN ?_ _) | (with_reducible refine below_alloc' ?_ ?_ _; (focus ((try simp) <;> omega))) | (with_reducible refine below_set' ?_ ?_ _; (focus ((try simp) <;> omega))))⟩
    · have e : becV ⟨3, c, a, b⟩ was = (was, false, 0) := by simp [becV, hq]
      have hne : (was != a) = true := by simpa using hq
      rw [e]
      clear e hq
      go_enter Try.func29, Try.ntmps29
      go_wp2
      go_ret3
      exact ⟨rfl, by repeat (first | (with_reducible exact Below.refl _ _) | (with_reducible apply Below.drew) | (with_reducible refine below_drewN ?_ _) | (with_reducible refine below_alloc' ?_ ?_ _; (focus ((try simp) <;> omega))) | (with_reducible refine below_set' ?_ ?_ _; (focus ((try simp) <;> omega))))⟩
  by_cases h2 : k = 2
  · subst h2
    have e : becV ⟨2, c, a, b⟩ was = (a, true, 0) := by simp [becV]
    rw [e]
    clear e
    go_enter Try.func29, Try.ntmps29
    go_wp2
    go_ret3
    exact ⟨rfl, by repeat (first | (with_reducible exact Below.refl _ _) | (with_reducible apply Below.drew) | (with_reducible refine below_drewN ?_ _) | (with_reducible refine below_alloc' ?_ ?_ _; (focus ((try simp) <;> omega))) | (with_reducible refine below_set' ?_ ?_ _; (focus ((try simp) <;> omega))))⟩
  by_cases h4 : k = 4
  · subst h4
    have hadd := run_add was a hw0 ha0
    by_cases hq : 18446744073709551616 ≤ was + a
    · have e : becV ⟨4, c, a, b⟩ was = (was, false, 4) := by simp [becV, hq]
      have hne : ((was + a) / 18446744073709551616 != 0) = true := by simp; omega
      rw [e]
      clear e hq
      go_enter Try.func29, Try.ntmps29
      go_wp2
      go_ret3
      exact ⟨rfl, by repeat (first | (with_reducible exact Below.refl _ _) | (with_reducible apply Below.drew) | (with_reducible refine below_drewN ?_ _) | (with_reducible refine below_alloc' ?_ ?_ _; (focus ((try simp) <;> omega))) | (with_reducible refine below_set' ?_ ?_ _; (focus ((try simp) <;> omega))))⟩
    · have e : becV ⟨4, c, a, b⟩ was = (was + a, true, 0) := by simp [becV, hq]
      have hne : ((was + a) / 18446744073709551616 != 0) = false := by simp; omega
      have hmod : (was + a) % 18446744073709551616 = was + a := by omega
      rw [hmod] at hadd
      rw [e]
      clear e hq hmod
      go_enter Try.func29, Try.ntmps29
      go_wp2
      go_ret3
      exact ⟨rfl, by repeat (first | (with_reducible exact Below.refl _ _) | (with_reducible apply Below.drew) | (with_reducible refine below_drewN ?_ _) | (with_reducible refine below_alloc' ?_ ?_ _; (focus ((try simp) <;> omega))) | (with_reducible refine below_set' ?_ ?_ _; (focus ((try simp) <;> omega))))⟩
  have e : becV ⟨k, c, a, b⟩ was = (was, false, 3) := by simp [becV, h1, h2, h3, h4]
  have q1 : (k == 1) = false := by simpa using h1
  have q2 : (k == 2) = false := by simpa using h2
  have q3 : (k == 3) = false := by simpa using h3
  have q4 : (k == 4) = false := by simpa using h4
  rw [e]
  clear e h1 h2 h3 h4
  go_enter Try.func29, Try.ntmps29
  go_wp2
  go_ret3
  exact ⟨rfl, by repeat (first | (with_reducible exact Below.refl _ _) | (with_reducible apply Below.drew) | (with_reducible refine below_drewN ?_ _) | (with_reducible refine below_alloc' ?_ ?_ _; (focus ((try simp) <;> omega))) | (with_reducible refine below_set' ?_ ?_ _; (focus ((try simp) <;> omega))))⟩
end Go.Proofs.Ytiopopplbehieaa.Cel
