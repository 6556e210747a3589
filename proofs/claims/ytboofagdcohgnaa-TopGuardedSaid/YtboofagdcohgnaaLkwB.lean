/- What a word says. -/
import Derived.Test.YtboofagdcohgnaaLkwA
import Derived.Laws.StructEq
namespace Go.Proofs.Ytboofagdcohgnaa.Lkw
open Go.RowKit
set_option linter.unusedSimpArgs false
set_option linter.unusedVariables false
set_option maxRecDepth 50000

def U64 (x : Int) : Prop := 0 ≤ x ∧ x < 18446744073709551616
/-- what a word says: who (-1: nobody), the version; or nothing -/
def saysV (x : Int) : Option (Int × Int) :=
  if x / 32 ≤ 1099511627776 then
    if x % 32 = 0 then some (-1, x / 32) else if x % 2 = 1 ∧ x / 2 % 16 < 4 then some (x / 2 % 16, x / 32) else none
  else none

theorem may_any (w : World) (n : Int) : Calls Try.prog 46 #[.int .i64 n] w fun e w' => e = .returned (.bool (decide (0 ≤ n ∧ n < 4))) ∧ w = w' := by
  by_cases h : 0 ≤ n
  · have h0 : decide (0 ≤ n) = true := by simpa using h
    go_enter Try.func46, Try.ntmps46
    go_wp2
    go_ret
    exact ⟨by simp [h], rfl⟩
  · have h0 : decide (0 ≤ n) = false := by simpa using h
    go_enter Try.func46, Try.ntmps46
    go_wp2
    go_ret
    exact ⟨by simp [h], rfl⟩
def rightV (o v : Int) : Bool := decide (v ≤ 1099511627776 ∧ (o = -1 ∨ 0 ≤ o ∧ o < 4))
theorem right_any (w : World) (o v : Int) : Calls Try.prog 31 #[.agg #[.int .i64 o, .int .u64 v]] w fun e w' => e = .returned (.bool (rightV o v)) ∧ Below w.heap.size w w' := by
  have l0 : Below w.heap.size w (w.alloc (.cells #[.int .i64 o, .int .u64 v] 51)) := by repeat (first | (with_reducible exact Below.refl _ _) | (with_reducible apply Below.drew) | (with_reducible refine below_drewN ?_ _) | (with_reducible refine below_alloc' ?_ ?_ _; (focus ((try simp) <;> omega))) | (with_reducible refine below_set' ?_ ?_ _; (focus ((try simp) <;> omega))))
  by_cases hv : v ≤ 1099511627776
  · have hd : decide (v ≤ 1099511627776) = true := by simpa using hv
    by_cases ho : o = -1
    · have hq : (o == -1) = true := by simpa using ho
      go_enter Try.func31, Try.ntmps31
      go_wp2_with (go_at_call 46; refine (may_any _ _).mono ?_; rintro e w' ⟨rfl, rfl⟩)
      go_ret
      exact ⟨by simp [rightV, hv, ho], by repeat (first | (with_reducible exact Below.refl _ _) | (with_reducible apply Below.drew) | (with_reducible refine below_drewN ?_ _) | (with_reducible refine below_alloc' ?_ ?_ _; (focus ((try simp) <;> omega))) | (with_reducible refine below_set' ?_ ?_ _; (focus ((try simp) <;> omega))))⟩
    · have hq : (o == -1) = false := by simpa using ho
      go_enter Try.func31, Try.ntmps31
      go_wp2_with (go_at_call 46; refine (may_any _ _).mono ?_; rintro e w' ⟨rfl, rfl⟩)
      go_ret
      exact ⟨by simp [rightV, hv, ho], by repeat (first | (with_reducible exact Below.refl _ _) | (with_reducible apply Below.drew) | (with_reducible refine below_drewN ?_ _) | (with_reducible refine below_alloc' ?_ ?_ _; (focus ((try simp) <;> omega))) | (with_reducible refine below_set' ?_ ?_ _; (focus ((try simp) <;> omega))))⟩
  · have hd : decide (v ≤ 1099511627776) = false := by simpa using hv
    go_enter Try.func31, Try.ntmps31
    go_wp2
    go_ret
    exact ⟨by simp [rightV]; omega, by repeat (first | (with_reducible exact Below.refl _ _) | (with_reducible apply Below.drew) | (with_reducible refine below_drewN ?_ _) | (with_reducible refine below_alloc' ?_ ?_ _; (focus ((try simp) <;> omega))) | (with_reducible refine below_set' ?_ ?_ _; (focus ((try simp) <;> omega))))⟩

def wordV (o v : Int) : Int := if o = -1 then v * 32 else v * 32 + o * 2 + 1
theorem wraps_i64 (n : Int) (h₀ : 0 ≤ n) (h₁ : n < 2 ^ 63) : IntKind.i64.wrap n = n := by rw [IntKind.wrap_i64]; omega
theorem word_any (w : World) (o v : Int) (h : rightV o v = true) (hv : 0 ≤ v) : Calls Try.prog 47 #[.agg #[.int .i64 o, .int .u64 v]] w fun e w' => e = .returned (.int .u64 (wordV o v)) ∧ Below w.heap.size w w' := by
  simp only [rightV, decide_eq_true_eq] at h
  obtain ⟨h1, h2⟩ := h
  by_cases ho : o = -1
  · subst ho
    go_enter Try.func47, Try.ntmps47
    go_wp2
    go_ret
    exact ⟨by simp [wordV], by repeat (first | (with_reducible exact Below.refl _ _) | (with_reducible apply Below.drew) | (with_reducible refine below_drewN ?_ _) | (with_reducible refine below_alloc' ?_ ?_ _; (focus ((try simp) <;> omega))) | (with_reducible refine below_set' ?_ ?_ _; (focus ((try simp) <;> omega))))⟩
  · have hq : (o != -1) = true := by simpa using ho
    have h3 : 0 ≤ o := by omega
    have h4 : o < 4 := by omega
    have j1 : bits .or .u64 (o * 2) 1 = o * 2 + 1 := bits_join .u64 64 (by decide) wraps_u64 1 (o * 2) 1 (by omega) (by omega) (by omega) (by omega) (by omega) (by omega)
    have j2 : bits .or .u64 (v * 32) (o * 2 + 1) = v * 32 + (o * 2 + 1) := bits_join .u64 64 (by decide) wraps_u64 5 (v * 32) (o * 2 + 1) (by omega) (by omega) (by omega) (by omega) (by omega) (by omega)
    go_enter Try.func47, Try.ntmps47
    go_wp2
    go_ret
    exact ⟨by simp [wordV, ho]; omega, by repeat (first | (with_reducible exact Below.refl _ _) | (with_reducible apply Below.drew) | (with_reducible refine below_drewN ?_ _) | (with_reducible refine below_alloc' ?_ ?_ _; (focus ((try simp) <;> omega))) | (with_reducible refine below_set' ?_ ?_ _; (focus ((try simp) <;> omega))))⟩

/-- the word that says so, or the error -/
def saidV (o v : Int) : Int × Int := if rightV o v then (wordV o v, 0) else (0, 2)
theorem said_any (w : World) (o v : Int) (hv : 0 ≤ v) : Calls Try.prog 28 #[.agg #[.int .i64 o, .int .u64 v]] w fun e w' => e = .returned (.tuple #[.int .u64 (saidV o v).1, .int .i64 (saidV o v).2]) ∧ Below w.heap.size w w' := by
  by_cases h : rightV o v = true
  · have hs : saidV o v = (wordV o v, 0) := by simp [saidV, h]
    rw [hs]
    have HV := Lib.hid h
    clear hs
    go_enter Try.func28, Try.ntmps28
    go_wp2_with fail
    have l0 : Below w.heap.size w (w.alloc (.cells #[.int .i64 o, .int .u64 v] 51)) := by repeat (first | (with_reducible exact Below.refl _ _) | (with_reducible apply Below.drew) | (with_reducible refine below_drewN ?_ _) | (with_reducible refine below_alloc' ?_ ?_ _; (focus ((try simp) <;> omega))) | (with_reducible refine below_set' ?_ ?_ _; (focus ((try simp) <;> omega))))
    have hx := blk_new w (.cells #[.int .i64 o, .int .u64 v] 51)
    generalize w.alloc (.cells #[.int .i64 o, .int .u64 v] 51) = w0 at *
    refine (right_any w0 o v).mono ?_
    rintro e w1 ⟨rfl, l1⟩
    have hx1 := bblk l1 hx
    have x0 := blk_cell hx1 0; have x1 := blk_cell hx1 1
    simp only [List.getElem?_toArray, List.getElem?_cons_zero, List.getElem?_cons_succ] at x0 x1
    have L1 := Lib.hid (btrans l0 (Nat.le_refl _) l1)
    clear hx hx1 l0 l1
    go_wp2_with fail
    refine (word_any w1 o v HV.out hv).mono ?_
    rintro e w2 ⟨rfl, l2⟩
    have L2 := Lib.hid (btrans L1.out (Nat.le_refl _) l2)
    clear l2
    go_wp2_with fail
    go_ret2
    exact ⟨rfl, L2.out⟩
  · have hs : saidV o v = (0, 2) := by simp [saidV, h]
    rw [hs]
    have h' : rightV o v = false := by simpa using h
    clear hs h
    go_enter Try.func28, Try.ntmps28
    go_wp2_with fail
    have l0 : Below w.heap.size w (w.alloc (.cells #[.int .i64 o, .int .u64 v] 51)) := by repeat (first | (with_reducible exact Below.refl _ _) | (with_reducible apply Below.drew) | (with_reducible refine below_drewN ?_ _) | (with_reducible refine below_alloc' ?_ ?_ _; (focus ((try simp) <;> omega))) | (with_reducible refine below_set' ?_ ?_ _; (focus ((try simp) <;> omega))))
    generalize w.alloc (.cells #[.int .i64 o, .int .u64 v] 51) = w0 at *
    refine (right_any w0 o v).mono ?_
    rintro e w1 ⟨rfl, l1⟩
    have L1 := Lib.hid (btrans l0 (Nat.le_refl _) l1)
    clear l0 l1
    go_wp2_with fail
    go_ret2
    exact ⟨rfl, L1.out⟩
end Go.Proofs.Ytboofagdcohgnaa.Lkw
