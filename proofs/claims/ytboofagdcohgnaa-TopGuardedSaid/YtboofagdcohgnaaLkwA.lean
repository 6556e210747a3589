/- The bits of a word. -/
import Derived.Test.YtboofagdcohgnaaLib
import Derived.Test.YtboofagdcohgnaaChecked
namespace Go.Proofs.Ytboofagdcohgnaa.Lkw
open Go.RowKit
set_option linter.unusedSimpArgs false
set_option linter.unusedVariables false
set_option maxRecDepth 50000

theorem wraps_u64 (n : Int) (h₀ : 0 ≤ n) (h₁ : n < 2 ^ 64) : IntKind.u64.wrap n = n := by rw [IntKind.wrap_u64]; omega
theorem and1 (y : Int) (h : 0 ≤ y ∧ y < 18446744073709551616) : bits .and .u64 y 1 = y % 2 := by
  have := bits_mask .u64 64 (by decide) wraps_u64 1 (by decide) y h.1 (by omega)
  simpa using this
theorem eq1 (y : Int) : (y == 1) = decide (y = 1) := by
  by_cases h : y = 1 <;> simp [h]
theorem flags_any (w : World) (x : Int) (hx : 0 ≤ x ∧ x < 18446744073709551616) : Calls Try.prog 30 #[.int .u64 x] w fun e w' =>
    e = .returned (.agg #[.bool (decide (x % 2 = 1)), .bool (decide (x / 2 % 2 = 1)), .bool (decide (x / 4 % 2 = 1)), .bool (decide (x / 8 % 2 = 1)), .bool (decide (x / 16 % 2 = 1))]) ∧ Below w.heap.size w w' := by
  have b0 := and1 x hx
  have b1 := and1 (x / 2) (by omega)
  have b2 := and1 (x / 4) (by omega)
  have b3 := and1 (x / 8) (by omega)
  have b4 := and1 (x / 16) (by omega)
  have hx0 := hx.1
  go_enter Try.func30, Try.ntmps30
  go_wp2_with fail
  go_loopw [5] (fun i wr => ∃ k : Nat, i = .int .i64 k ∧ k ≤ 5 ∧ wr.heap[w.heap.size + 1]? = some (.cells #[.bool (decide (0 < k) && decide (x % 2 = 1)), .bool (decide (1 < k) && decide (x / 2 % 2 = 1)), .bool (decide (2 < k) && decide (x / 4 % 2 = 1)), .bool (decide (3 < k) && decide (x / 8 % 2 = 1)), .bool (decide (4 < k) && decide (x / 16 % 2 = 1))] 65 (0, 0)) ∧
    wr.heap[w.heap.size]? = some (.cells #[.bool false, .bool false, .bool false, .bool false, .bool false] 65 (0, 0)) ∧ Below w.heap.size w wr) (fun i _ => 5 - (intOf i).toNat)
  case atStart => exact ⟨0, rfl, by decide, by simp [↓heap_alloc_eq, ↓heap_set_eq, ↓heap_drew_eq, ↓heap_drewN_eq, setObj, size_drewN], by simp [↓heap_alloc_eq, ↓heap_set_eq, ↓heap_drew_eq, ↓heap_drewN_eq, setObj, size_drewN]; try omega, by repeat (first | (with_reducible exact Below.refl _ _) | (with_reducible apply Below.drew) | (with_reducible refine below_drewN ?_ _) | (with_reducible refine below_alloc' ?_ ?_ _; (focus ((try simp) <;> omega))) | (with_reducible refine below_set' ?_ ?_ _; (focus ((try simp) <;> omega))))⟩
  case round =>
    obtain ⟨k, rfl, hk, hA, hB, hL⟩ := hrel
    have c0 := blk_cell hA 0; have c1 := blk_cell hA 1; have c2 := blk_cell hA 2; have c3 := blk_cell hA 3; have c4 := blk_cell hA 4
    have f0 := blk_free hA
    have r0 := blk_cell hB 0; have r1 := blk_cell hB 1; have r2 := blk_cell hB 2; have r3 := blk_cell hB 3; have r4 := blk_cell hB 4
    have f1 := blk_free hB
    simp only [List.getElem?_toArray, List.getElem?_cons_zero, List.getElem?_cons_succ] at c0 c1 c2 c3 c4 r0 r1 r2 r3 r4
    have HA := Lib.hid hA; have HB := Lib.hid hB; have HL := Lib.hid hL
    clear hA hB hL
    have hk5 : k = 0 ∨ k = 1 ∨ k = 2 ∨ k = 3 ∨ k = 4 ∨ k = 5 := by omega
    rcases hk5 with rfl | rfl | rfl | rfl | rfl | rfl
    · go_wp2_with fail
      have hs := blk_set HA.out 0 (.bool (decide (x % 2 = 1)))
      simp only [List.setIfInBounds_toArray, List.set_cons_succ, List.set_cons_zero] at hs
      simp only [eq1]
      refine ⟨⟨1, rfl, by decide, ?_, blk_other HB.out (by show w.heap.size ≠ w.heap.size + 1; omega) _, HL.out.setCell (by show w.heap.size ≤ w.heap.size + 1; omega) _⟩, by simp [intOf]⟩
      rw [hs]
      simp
    · go_wp2_with fail
      have hs := blk_set HA.out 1 (.bool (decide (x / 2 % 2 = 1)))
      simp only [List.setIfInBounds_toArray, List.set_cons_succ, List.set_cons_zero] at hs
      simp only [eq1]
      refine ⟨⟨2, rfl, by decide, ?_, blk_other HB.out (by show w.heap.size ≠ w.heap.size + 1; omega) _, HL.out.setCell (by show w.heap.size ≤ w.heap.size + 1; omega) _⟩, by simp [intOf]⟩
      rw [hs]
      simp
    · go_wp2_with fail
      have hs := blk_set HA.out 2 (.bool (decide (x / 4 % 2 = 1)))
      simp only [List.setIfInBounds_toArray, List.set_cons_succ, List.set_cons_zero] at hs
      simp only [eq1]
      refine ⟨⟨3, rfl, by decide, ?_, blk_other HB.out (by show w.heap.size ≠ w.heap.size + 1; omega) _, HL.out.setCell (by show w.heap.size ≤ w.heap.size + 1; omega) _⟩, by simp [intOf]⟩
      rw [hs]
      simp
    · go_wp2_with fail
      have hs := blk_set HA.out 3 (.bool (decide (x / 8 % 2 = 1)))
      simp only [List.setIfInBounds_toArray, List.set_cons_succ, List.set_cons_zero] at hs
      simp only [eq1]
      refine ⟨⟨4, rfl, by decide, ?_, blk_other HB.out (by show w.heap.size ≠ w.heap.size + 1; omega) _, HL.out.setCell (by show w.heap.size ≤ w.heap.size + 1; omega) _⟩, by simp [intOf]⟩
      rw [hs]
      simp
    · go_wp2_with fail
      have hs := blk_set HA.out 4 (.bool (decide (x / 16 % 2 = 1)))
      simp only [List.setIfInBounds_toArray, List.set_cons_succ, List.set_cons_zero] at hs
      simp only [eq1]
      refine ⟨⟨5, rfl, by decide, ?_, blk_other HB.out (by show w.heap.size ≠ w.heap.size + 1; omega) _, HL.out.setCell (by show w.heap.size ≤ w.heap.size + 1; omega) _⟩, by simp [intOf]⟩
      rw [hs]
      simp
    · simp only [show decide (0 < 5) = true by decide, show decide (1 < 5) = true by decide, show decide (2 < 5) = true by decide, show decide (3 < 5) = true by decide, show decide (4 < 5) = true by decide, Bool.true_and] at c0 c1 c2 c3 c4
      go_wp2_with fail
      refine bodyPost_ret (v := .agg #[.bool (decide (x % 2 = 1)), .bool (decide (x / 2 % 2 = 1)), .bool (decide (x / 4 % 2 = 1)), .bool (decide (x / 8 % 2 = 1)), .bool (decide (x / 16 % 2 = 1))]) ?_ rfl ?_; (focus (simp [results, Try.results30, go_sem, c0, c1, c2, c3, c4, r0, r1, r2, r3, r4]; done))
      refine ⟨rfl, ?_⟩
      repeat (first | (with_reducible exact HL.out) | (with_reducible refine below_set' ?_ ?_ _; (focus ((try simp) <;> omega))))
end Go.Proofs.Ytboofagdcohgnaa.Lkw
