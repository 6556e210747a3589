/- split. -/
import Derived.Test.YtboofagdcohgnaaLkwB
import Derived.Deep.RegionHeld3
import Derived.ChangeKeysEq
import Derived.Deep.CutBlock
namespace Go.Proofs.Ytboofagdcohgnaa.Lkw
open Go.RowKit
set_option linter.unusedSimpArgs false
set_option linter.unusedVariables false
set_option maxRecDepth 50000

theorem arr_eq (w : World) (b0 b1 b2 b3 b4 : Bool) : (Op.equalIn 10000 65 (.agg #[.bool b0, .bool b1, .bool b2, .bool b3, .bool b4]) (.agg #[.bool false, .bool false, .bool false, .bool false, .bool false])).run Try.prog w = .ok (!(b0 || b1 || b2 || b3 || b4)) w := by
  obtain ⟨i, hi⟩ : ∃ i, Try.prog.info? 4 = some i := Option.isSome_iff_exists.1 (by kernel_rfl)
  rw [run_equalIn_array w 9999 _ _ Try.underlying65 hi, show Try.prog.cellsOf 4 = 1 by kernel_rfl, show List.range 5 = [0, 1, 2, 3, 4] by decide]
  have hu : Try.prog.underlying 4 = some .bool := by kernel_rfl
  cases b0 <;> cases b1 <;> cases b2 <;> cases b3 <;> cases b4 <;> simp [Op.eqItems, part, go_sem, hu, hi]
def SplitPost (w : World) (x : Int) (e : Ending) (w' : World) : Prop :=
  ∃ o v, e = .returned (.tuple #[.agg #[.int .i64 o, .int .u64 v], .bool (saysV x).isSome]) ∧ (∀ p, saysV x = some p → p = (o, v)) ∧ Below w.heap.size w w'

theorem split_zero (w : World) (x : Int) (hx : 0 ≤ x ∧ x < 18446744073709551616) (hf : x % 32 = 0) : Calls Try.prog 21 #[.int .u64 x] w (SplitPost w x) := by
  have HX := Lib.hid hx
  have b0 : decide (x % 2 = 1) = false := by simp; omega
  have b1 : decide (x / 2 % 2 = 1) = false := by simp; omega
  have b2 : decide (x / 4 % 2 = 1) = false := by simp; omega
  have b3 : decide (x / 8 % 2 = 1) = false := by simp; omega
  have b4 : decide (x / 16 % 2 = 1) = false := by simp; omega
  have hF : ∀ W, Calls Try.prog 30 #[.int .u64 x] W fun e w' => e = .returned (.agg #[.bool false, .bool false, .bool false, .bool false, .bool false]) ∧ Below W.heap.size W w' := by
    intro W
    have := flags_any W x hx
    rw [b0, b1, b2, b3, b4] at this
    exact this
  have HF := Lib.hid hF; clear hF
  have hsv : saysV x = if x / 32 ≤ 1099511627776 then some (-1, x / 32) else none := by rw [saysV, if_pos hf]
  have hrv : rightV (-1) (x / 32) = (saysV x).isSome := by
    rw [hsv]
    by_cases h : x / 32 ≤ 1099511627776 <;> simp [rightV, h]
  have HR := Lib.hid hrv; have HS := Lib.hid hsv
  have hx0 := hx.1; have hx1 := hx.2
  have heq := fun W : World => arr_eq W false false false false false
  clear hx hf b0 b1 b2 b3 b4 hrv hsv
  go_enter Try.func21, Try.ntmps21
  go_wp2_with fail
  have l0 : Below w.heap.size w (w.alloc (.cells #[.int .i64 0, .int .u64 0] 51)) := by repeat (first | (with_reducible exact Below.refl _ _) | (with_reducible apply Below.drew) | (with_reducible refine below_drewN ?_ _) | (with_reducible refine below_alloc' ?_ ?_ _; (focus ((try simp) <;> omega))) | (with_reducible refine below_set' ?_ ?_ _; (focus ((try simp) <;> omega))))
  have hres := blk_new w (.cells #[.int .i64 0, .int .u64 0] 51)
  generalize w.alloc (.cells #[.int .i64 0, .int .u64 0] 51) = w0 at *
  have hlt0 := blk_lt hres
  refine (HF.out _).mono ?_
  rintro e w1 ⟨rfl, l1⟩
  have hr1 := bblk l1 hres
  have hlt1 := blk_lt hr1
  have L1 := Lib.hid (btrans l0 (Nat.le_refl _) l1); have HR1 := Lib.hid hr1
  clear l1 hres l0 hr1
  go_upto_region 13 with (fail)
  refine (show ∀ (W1 : World), Below w1.heap.size w1 W1 → W1.heap[w1.heap.size + 1]? = some (.cells #[.int .i64 (-1), .int .u64 (x / 32)] 51 (0, 0)) → Code.wp _ _ _ _ W1 from ?_) _ (by repeat (first | (with_reducible exact Below.refl _ _) | (with_reducible apply Below.drew) | (with_reducible refine below_drewN ?_ _) | (with_reducible refine below_alloc' ?_ ?_ _; (focus ((try simp) <;> omega))) | (with_reducible refine below_set' ?_ ?_ _; (focus ((try simp) <;> omega))))) (by simp [↓heap_alloc_eq, ↓heap_set_eq, ↓heap_drew_eq, ↓heap_drewN_eq, setObj, size_drewN])
  intro W1 l2 hp
  have c0 := blk_cell hp 0; have c1 := blk_cell hp 1
  simp only [List.getElem?_toArray, List.getElem?_cons_zero, List.getElem?_cons_succ] at c0 c1
  have hres := bblk l2 HR1.out
  have L2 := Lib.hid (btrans L1.out (Nat.le_refl _) l2); have HRS := Lib.hid hres
  have KW := Lib.hid (show ∀ w', Below W1.heap.size W1 w' → (w'.cell? ⟨w1.heap.size + 1, 0, none⟩ = some (.int .i64 (-1)) ∧ w'.cell? ⟨w1.heap.size + 1, 1, none⟩ = some (.int .u64 (x / 32))) from fun w' h => ⟨bkeep h c0, bkeep h c1⟩)
  have QA := KW.out W1.drew ((Below.refl _ _).drew)
  clear l2 hp hres L1 HR1
  go_region_held3 (fun w' => w'.cell? ⟨w1.heap.size + 1, 0, none⟩ = some (.int .i64 (-1)) ∧ w'.cell? ⟨w1.heap.size + 1, 1, none⟩ = some (.int .u64 (x / 32))) (first | (with_reducible exact QA) | (with_reducible exact QB) | ((with_reducible refine KO.out _ ?_); (repeat (first | (with_reducible exact Only.refl _ _) | (with_reducible apply Only.drew) | (with_reducible apply Only.drewN) | (with_reducible apply Only.alloc) | (with_reducible refine only_set' ?_ ?_ _; (focus ((try simp) <;> omega))))); done)) ((go_at_call 31; refine (right_any _ _ _).mono ?_; rintro e w3 ⟨rfl, l3⟩; rw [HR.out]; have QB := KW.out w3 (btrans ((Below.refl _ _).drew) (Nat.le_refl _) l3); have KO := Lib.hid (show ∀ w', Only (fun j => j ≠ w1.heap.size + 1) w3 w' → (w'.cell? ⟨w1.heap.size + 1, 0, none⟩ = some (.int .i64 (-1)) ∧ w'.cell? ⟨w1.heap.size + 1, 1, none⟩ = some (.int .u64 (x / 32))) from fun w' ho => ⟨ho.cell QB.1 (fun h => h rfl), ho.cell QB.2 (fun h => h rfl)⟩); have hres := bblk l3 (blk_drew HRS.out); have r0 := blk_cell hres 0; have r1 := blk_cell hres 1; have rf := blk_free hres; simp only [List.getElem?_toArray, List.getElem?_cons_zero, List.getElem?_cons_succ] at r0 r1; have L3 := Lib.hid (btrans L2.out (Nat.le_refl _) (btrans ((Below.refl _ _).drew) (Nat.le_refl _) l3)); clear hres l3))
  go_wp2_with fail
  refine bodyPost_ret (v := .tuple #[.agg #[.int .i64 (-1), .int .u64 (x / 32)], .bool (saysV x).isSome]) ?_ rfl ?_; (focus (simp [results, Try.results21, go_sem, r0, r1]; done))
  refine ⟨-1, x / 32, rfl, ?_, ?_⟩
  · intro p hp
    rw [HS.out] at hp
    split at hp
    · injection hp with hp
      exact hp.symm
    · cases hp
  · repeat (first | (with_reducible exact L3.out) | (with_reducible refine below_set' ?_ ?_ _; (focus ((try simp) <;> omega))))

theorem or0 : bits .or .i64 0 1 = 1 := by decide
theorem or1 (a : Int) (h : 0 ≤ a ∧ a < 2) : bits .or .i64 a 2 = a + 2 := by
  have : a = 0 ∨ a = 1 := by omega
  rcases this with rfl | rfl <;> decide
theorem or2 (a : Int) (h : 0 ≤ a ∧ a < 4) : bits .or .i64 a 4 = a + 4 := by
  have : a = 0 ∨ a = 1 ∨ a = 2 ∨ a = 3 := by omega
  rcases this with rfl | rfl | rfl | rfl <;> decide
theorem or3 (a : Int) (h : 0 ≤ a ∧ a < 8) : bits .or .i64 a 8 = a + 8 := by
  have : a = 0 ∨ a = 1 ∨ a = 2 ∨ a = 3 ∨ a = 4 ∨ a = 5 ∨ a = 6 ∨ a = 7 := by omega
  rcases this with rfl | rfl | rfl | rfl | rfl | rfl | rfl | rfl <;> decide
/-- the owner, as far as it has been read -/
def ownK (x : Int) (k : Nat) : Int := match k with | 0 => 0 | 1 => x / 2 % 2 | 2 => x / 2 % 4 | 3 => x / 2 % 8 | _ => x / 2 % 16

theorem split_some (w : World) (x : Int) (hx : 0 ≤ x ∧ x < 18446744073709551616) (hf : x % 32 ≠ 0) : Calls Try.prog 21 #[.int .u64 x] w (SplitPost w x) := by
  have HX := Lib.hid hx; have HNZ := Lib.hid hf
  have hF : ∀ W, Calls Try.prog 30 #[.int .u64 x] W fun e w' => e = .returned (.agg #[.bool (decide (x % 2 = 1)), .bool (decide (x / 2 % 2 = 1)), .bool (decide (x / 4 % 2 = 1)), .bool (decide (x / 8 % 2 = 1)), .bool (decide (x / 16 % 2 = 1))]) ∧ Below W.heap.size W w' :=
    fun W => flags_any W x hx
  have hne : (!(decide (x % 2 = 1) || decide (x / 2 % 2 = 1) || decide (x / 4 % 2 = 1) || decide (x / 8 % 2 = 1) || decide (x / 16 % 2 = 1))) = false := by
    simp
    omega
  obtain ⟨q0, e0⟩ : ∃ q, decide (x % 2 = 1) = q := ⟨_, rfl⟩
  obtain ⟨q1, e1⟩ : ∃ q, decide (x / 2 % 2 = 1) = q := ⟨_, rfl⟩
  obtain ⟨q2, e2⟩ : ∃ q, decide (x / 4 % 2 = 1) = q := ⟨_, rfl⟩
  obtain ⟨q3, e3⟩ : ∃ q, decide (x / 8 % 2 = 1) = q := ⟨_, rfl⟩
  obtain ⟨q4, e4⟩ : ∃ q, decide (x / 16 % 2 = 1) = q := ⟨_, rfl⟩
  have heq := fun W : World => arr_eq W (decide (x % 2 = 1)) (decide (x / 2 % 2 = 1)) (decide (x / 4 % 2 = 1)) (decide (x / 8 % 2 = 1)) (decide (x / 16 % 2 = 1))
  rw [hne] at heq
  rw [e0, e1, e2, e3, e4] at hF heq
  have HF := Lib.hid hF; clear hF hne
  have E0 := Lib.hid e0; have E1 := Lib.hid e1; have E2 := Lib.hid e2; have E3 := Lib.hid e3; have E4 := Lib.hid e4
  have hx0 := hx.1; have hx1 := hx.2
  clear hx hf e0 e1 e2 e3 e4
  go_enter Try.func21, Try.ntmps21
  go_wp2_with fail
  have l0 : Below w.heap.size w (w.alloc (.cells #[.int .i64 0, .int .u64 0] 51)) := by repeat (first | (with_reducible exact Below.refl _ _) | (with_reducible apply Below.drew) | (with_reducible refine below_drewN ?_ _) | (with_reducible refine below_alloc' ?_ ?_ _; (focus ((try simp) <;> omega))) | (with_reducible refine below_set' ?_ ?_ _; (focus ((try simp) <;> omega))))
  have hres := blk_new w (.cells #[.int .i64 0, .int .u64 0] 51)
  generalize w.alloc (.cells #[.int .i64 0, .int .u64 0] 51) = w0 at *
  have hlt0 := blk_lt hres
  refine (HF.out _).mono ?_
  rintro e w1 ⟨rfl, l1⟩
  have hr1 := bblk l1 hres
  have hlt1 := blk_lt hr1
  have L1 := Lib.hid (btrans l0 (Nat.le_refl _) l1); have HR1 := Lib.hid hr1
  clear l1 hres l0 hr1
  go_wp2_with fail
  have hs1 : (w1.alloc (.cells #[.bool q0, .bool q1, .bool q2, .bool q3, .bool q4] 65)).heap.size = w1.heap.size + 1 := by simp
  go_loopw [16] (fun i wr => ∃ k : Nat, i = .int .i64 k ∧ k ≤ 4 ∧ wr.heap[w1.heap.size]? = some (.cells #[.bool q0, .bool q1, .bool q2, .bool q3, .bool q4] 65 (0, 0)) ∧ wr.heap[w1.heap.size + 1]? = some (.cells #[.int .i64 (ownK x k), .int .u64 (x / 32)] 51 (0, 0)) ∧
    wr.heap[w.heap.size]? = some (.cells #[.int .i64 0, .int .u64 0] 51 (0, 0)) ∧ Below w.heap.size w wr) (fun i _ => 4 - (intOf i).toNat)
  case atStart =>
    have lz : Below w1.heap.size w1 ((w1.alloc (.cells #[.bool q0, .bool q1, .bool q2, .bool q3, .bool q4] 65)).alloc (.cells #[.int .i64 0, .int .u64 (x / 32)] 51)) := by repeat (first | (with_reducible exact Below.refl _ _) | (with_reducible apply Below.drew) | (with_reducible refine below_drewN ?_ _) | (with_reducible refine below_alloc' ?_ ?_ _; (focus ((try simp) <;> omega))) | (with_reducible refine below_set' ?_ ?_ _; (focus ((try simp) <;> omega))))
    exact ⟨0, rfl, by decide, by simp [↓heap_alloc_eq, ↓heap_set_eq, ↓heap_drew_eq, ↓heap_drewN_eq, setObj, size_drewN], by simp [↓heap_alloc_eq, ↓heap_set_eq, ↓heap_drew_eq, ↓heap_drewN_eq, setObj, size_drewN]; try rfl, bblk lz HR1.out, btrans L1.out (Nat.le_refl _) lz⟩
  case round =>
    obtain ⟨k, rfl, hk, hA, hB, hC, hL⟩ := hrel
    have c0 := blk_cell hA 0; have c1 := blk_cell hA 1; have c2 := blk_cell hA 2; have c3 := blk_cell hA 3; have c4 := blk_cell hA 4
    have p0 := blk_cell hB 0; have p1 := blk_cell hB 1
    have pf := blk_free hB
    simp only [List.getElem?_toArray, List.getElem?_cons_zero, List.getElem?_cons_succ] at c0 c1 c2 c3 c4 p0 p1
    have HA := Lib.hid hA; have HB := Lib.hid hB; have HC := Lib.hid hC; have HL := Lib.hid hL
    clear hA hB hC hL
    have hk4 : k = 0 ∨ k = 1 ∨ k = 2 ∨ k = 3 ∨ k = 4 := by omega
    rcases hk4 with rfl | rfl | rfl | rfl | rfl
    · simp only [ownK] at p0
      have o1 := or0
      cases q1
      · have eq := E1.out
        simp only [decide_eq_false_iff_not] at eq
        go_wp2_with fail
        refine ⟨⟨1, rfl, by decide, HA.out, ?_, HC.out, HL.out⟩, by simp [intOf]⟩
        rw [HB.out, show ownK x 0 = ownK x 1 by simp only [ownK]; omega]
      · have eq := E1.out
        simp only [decide_eq_true_eq] at eq
        have EQ := Lib.hid eq; clear eq
        go_wp2_with fail
        refine wp_region_tail 6 (by kernel_rfl) (by kernel_rfl) ?_; simp only [List.take_succ_cons, List.take_zero, List.drop_succ_cons, List.drop_zero]
        repeat (first | (with_reducible refine wpStill_skip ?_ ?_; (focus (simp [Region.wanted, yielded]; done)); simp only [Act.put, List.setIfInBounds_toArray, List.set_cons_succ, List.set_cons_zero]) | (with_reducible refine wpStill_step (fun KK hKK => ?_); go_simp; refine hKK _ ?_; clear hKK KK))
        with_reducible refine wpStill_nil ?_
        go_wp2_with fail
        have hs := blk_set (blk_drew HB.out) 0 (.int .i64 (1))
        simp only [List.setIfInBounds_toArray, List.set_cons_zero] at hs
        refine ⟨⟨1, rfl, by decide, blk_other (blk_drew HA.out) (by show w1.heap.size ≠ w1.heap.size + 1; omega) _, ?_, blk_other (blk_drew HC.out) (by show w.heap.size ≠ w1.heap.size + 1; omega) _, (HL.out.drew).setCell (by show w.heap.size ≤ w1.heap.size + 1; omega) _⟩, by simp [intOf]⟩
        rw [show ownK x 1 = 1 by (have := EQ.out; simp only [ownK]; omega)]
        exact hs
    · simp only [ownK] at p0
      have o1 := or1 (x / 2 % 2) (by omega)
      cases q2
      · have eq := E2.out
        simp only [decide_eq_false_iff_not] at eq
        go_wp2_with fail
        refine ⟨⟨2, rfl, by decide, HA.out, ?_, HC.out, HL.out⟩, by simp [intOf]⟩
        rw [HB.out, show ownK x 1 = ownK x 2 by simp only [ownK]; omega]
      · have eq := E2.out
        simp only [decide_eq_true_eq] at eq
        have EQ := Lib.hid eq; clear eq
        go_wp2_with fail
        refine wp_region_tail 6 (by kernel_rfl) (by kernel_rfl) ?_; simp only [List.take_succ_cons, List.take_zero, List.drop_succ_cons, List.drop_zero]
        repeat (first | (with_reducible refine wpStill_skip ?_ ?_; (focus (simp [Region.wanted, yielded]; done)); simp only [Act.put, List.setIfInBounds_toArray, List.set_cons_succ, List.set_cons_zero]) | (with_reducible refine wpStill_step (fun KK hKK => ?_); go_simp; refine hKK _ ?_; clear hKK KK))
        with_reducible refine wpStill_nil ?_
        go_wp2_with fail
        have hs := blk_set (blk_drew HB.out) 0 (.int .i64 (x / 2 % 2 + 2))
        simp only [List.setIfInBounds_toArray, List.set_cons_zero] at hs
        refine ⟨⟨2, rfl, by decide, blk_other (blk_drew HA.out) (by show w1.heap.size ≠ w1.heap.size + 1; omega) _, ?_, blk_other (blk_drew HC.out) (by show w.heap.size ≠ w1.heap.size + 1; omega) _, (HL.out.drew).setCell (by show w.heap.size ≤ w1.heap.size + 1; omega) _⟩, by simp [intOf]⟩
        rw [show ownK x 2 = x / 2 % 2 + 2 by (have := EQ.out; simp only [ownK]; omega)]
        exact hs
    · simp only [ownK] at p0
      have o1 := or2 (x / 2 % 4) (by omega)
      cases q3
      · have eq := E3.out
        simp only [decide_eq_false_iff_not] at eq
        go_wp2_with fail
        refine ⟨⟨3, rfl, by decide, HA.out, ?_, HC.out, HL.out⟩, by simp [intOf]⟩
        rw [HB.out, show ownK x 2 = ownK x 3 by simp only [ownK]; omega]
      · have eq := E3.out
        simp only [decide_eq_true_eq] at eq
        have EQ := Lib.hid eq; clear eq
        go_wp2_with fail
        refine wp_region_tail 6 (by kernel_rfl) (by kernel_rfl) ?_; simp only [List.take_succ_cons, List.take_zero, List.drop_succ_cons, List.drop_zero]
        repeat (first | (with_reducible refine wpStill_skip ?_ ?_; (focus (simp [Region.wanted, yielded]; done)); simp only [Act.put, List.setIfInBounds_toArray, List.set_cons_succ, List.set_cons_zero]) | (with_reducible refine wpStill_step (fun KK hKK => ?_); go_simp; refine hKK _ ?_; clear hKK KK))
        with_reducible refine wpStill_nil ?_
        go_wp2_with fail
        have hs := blk_set (blk_drew HB.out) 0 (.int .i64 (x / 2 % 4 + 4))
        simp only [List.setIfInBounds_toArray, List.set_cons_zero] at hs
        refine ⟨⟨3, rfl, by decide, blk_other (blk_drew HA.out) (by show w1.heap.size ≠ w1.heap.size + 1; omega) _, ?_, blk_other (blk_drew HC.out) (by show w.heap.size ≠ w1.heap.size + 1; omega) _, (HL.out.drew).setCell (by show w.heap.size ≤ w1.heap.size + 1; omega) _⟩, by simp [intOf]⟩
        rw [show ownK x 3 = x / 2 % 4 + 4 by (have := EQ.out; simp only [ownK]; omega)]
        exact hs
    · simp only [ownK] at p0
      have o1 := or3 (x / 2 % 8) (by omega)
      cases q4
      · have eq := E4.out
        simp only [decide_eq_false_iff_not] at eq
        go_wp2_with fail
        refine ⟨⟨4, rfl, by decide, HA.out, ?_, HC.out, HL.out⟩, by simp [intOf]⟩
        rw [HB.out, show ownK x 3 = ownK x 4 by simp only [ownK]; omega]
      · have eq := E4.out
        simp only [decide_eq_true_eq] at eq
        have EQ := Lib.hid eq; clear eq
        go_wp2_with fail
        refine wp_region_tail 6 (by kernel_rfl) (by kernel_rfl) ?_; simp only [List.take_succ_cons, List.take_zero, List.drop_succ_cons, List.drop_zero]
        repeat (first | (with_reducible refine wpStill_skip ?_ ?_; (focus (simp [Region.wanted, yielded]; done)); simp only [Act.put, List.setIfInBounds_toArray, List.set_cons_succ, List.set_cons_zero]) | (with_reducible refine wpStill_step (fun KK hKK => ?_); go_simp; refine hKK _ ?_; clear hKK KK))
        with_reducible refine wpStill_nil ?_
        go_wp2_with fail
        have hs := blk_set (blk_drew HB.out) 0 (.int .i64 (x / 2 % 8 + 8))
        simp only [List.setIfInBounds_toArray, List.set_cons_zero] at hs
        refine ⟨⟨4, rfl, by decide, blk_other (blk_drew HA.out) (by show w1.heap.size ≠ w1.heap.size + 1; omega) _, ?_, blk_other (blk_drew HC.out) (by show w.heap.size ≠ w1.heap.size + 1; omega) _, (HL.out.drew).setCell (by show w.heap.size ≤ w1.heap.size + 1; omega) _⟩, by simp [intOf]⟩
        rw [show ownK x 4 = x / 2 % 8 + 8 by (have := EQ.out; simp only [ownK]; omega)]
        exact hs
    · simp only [ownK] at p0
      have r0 := blk_cell HC.out 0; have r1 := blk_cell HC.out 1
      have rf := blk_free HC.out
      simp only [List.getElem?_toArray, List.getElem?_cons_zero, List.getElem?_cons_succ] at r0 r1
      cases q0
      · have hsv : saysV x = none := by
          have := E0.out
          simp only [decide_eq_false_iff_not] at this
          have := HNZ.out
          unfold saysV
          rw [if_neg (c := x % 32 = 0) (by omega), if_neg (c := x % 2 = 1 ∧ x / 2 % 16 < 4) (by omega)]
          split <;> rfl
        have HSV := Lib.hid hsv; clear hsv
        go_wp2_with fail
        refine bodyPost_ret (v := .tuple #[.agg #[.int .i64 0, .int .u64 0], .bool false]) ?_ rfl ?_; (focus (simp [results, Try.results21, go_sem, r0, r1]; done))
        refine ⟨0, 0, by rw [HSV.out]; rfl, ?_, ?_⟩
        · intro p hp
          rw [HSV.out] at hp
          cases hp
        repeat (first | (with_reducible exact HL.out) | (with_reducible refine below_set' ?_ ?_ _; (focus ((try simp) <;> omega))))
      · have hq : x % 2 = 1 := by have := E0.out; simpa using this
        have hsv : saysV x = if x / 32 ≤ 1099511627776 ∧ x / 2 % 16 < 4 then some (x / 2 % 16, x / 32) else none := by
          have := HNZ.out
          unfold saysV
          by_cases g1 : x / 32 ≤ 1099511627776 <;> by_cases g2 : x / 2 % 16 < 4 <;> simp [g1, g2, hq, this]
        have hrv : rightV (x / 2 % 16) (x / 32) = (saysV x).isSome := by
          rw [hsv]
          by_cases g1 : x / 32 ≤ 1099511627776 <;> by_cases g2 : x / 2 % 16 < 4 <;> simp [rightV, g1, g2] <;> omega
        have HR := Lib.hid hrv; have HS := Lib.hid hsv
        clear hrv hsv r0 r1 rf
        go_upto_region 13 with (fail)
        have KW := Lib.hid (show ∀ w', Below wr.heap.size wr w' → (w'.cell? ⟨w1.heap.size + 1, 0, none⟩ = some (.int .i64 (x / 2 % 16)) ∧ w'.cell? ⟨w1.heap.size + 1, 1, none⟩ = some (.int .u64 (x / 32))) from fun w' h => ⟨bkeep h p0, bkeep h p1⟩)
        have QA := KW.out wr.drew ((Below.refl _ _).drew)
        go_region_held3 (fun w' => w'.cell? ⟨w1.heap.size + 1, 0, none⟩ = some (.int .i64 (x / 2 % 16)) ∧ w'.cell? ⟨w1.heap.size + 1, 1, none⟩ = some (.int .u64 (x / 32))) (first | (with_reducible exact QA) | (with_reducible exact QB) | ((with_reducible refine KO.out _ ?_); (repeat (first | (with_reducible exact Only.refl _ _) | (with_reducible apply Only.drew) | (with_reducible apply Only.drewN) | (with_reducible apply Only.alloc) | (with_reducible refine only_set' ?_ ?_ _; (focus ((try simp) <;> omega))))); done)) ((go_at_call 31; refine (right_any _ _ _).mono ?_; rintro e w3 ⟨rfl, l3⟩; rw [HR.out]; have QB := KW.out w3 (btrans ((Below.refl _ _).drew) (Nat.le_refl _) l3); have KO := Lib.hid (show ∀ w', Only (fun j => j ≠ w1.heap.size + 1) w3 w' → (w'.cell? ⟨w1.heap.size + 1, 0, none⟩ = some (.int .i64 (x / 2 % 16)) ∧ w'.cell? ⟨w1.heap.size + 1, 1, none⟩ = some (.int .u64 (x / 32))) from fun w' ho => ⟨ho.cell QB.1 (fun h => h rfl), ho.cell QB.2 (fun h => h rfl)⟩); have hres := bblk l3 (blk_drew HC.out); have r0 := blk_cell hres 0; have r1 := blk_cell hres 1; have rf := blk_free hres; simp only [List.getElem?_toArray, List.getElem?_cons_zero, List.getElem?_cons_succ] at r0 r1; have L3 := Lib.hid (btrans HL.out (Nat.le_refl _) (btrans ((Below.refl _ _).drew) (Nat.le_refl _) l3)); clear hres l3))

        go_wp2_with fail
        refine bodyPost_ret (v := .tuple #[.agg #[.int .i64 (x / 2 % 16), .int .u64 (x / 32)], .bool (saysV x).isSome]) ?_ rfl ?_; (focus (simp [results, Try.results21, go_sem, r0, r1]; done))
        refine ⟨x / 2 % 16, x / 32, rfl, ?_, ?_⟩
        · intro p hp
          rw [HS.out] at hp
          split at hp
          · injection hp with hp
            exact hp.symm
          · cases hp
        · repeat (first | (with_reducible exact L3.out) | (with_reducible refine below_set' ?_ ?_ _; (focus ((try simp) <;> omega))))

theorem split_any (w : World) (x : Int) (hx : 0 ≤ x ∧ x < 18446744073709551616) : Calls Try.prog 21 #[.int .u64 x] w (SplitPost w x) := by
  by_cases h : x % 32 = 0
  · exact split_zero w x hx h
  · exact split_some w x hx h
end Go.Proofs.Ytboofagdcohgnaa.Lkw
