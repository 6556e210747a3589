/- What must be whatever is asked. -/
import Derived.Test.YtfpiecnbnoinnaaHisS
import Derived.Test.YtfpiecnbnoinnaaHisP
import Derived.Test.YtfpiecnbnoinnaaHisF
import Derived.Test.YtfpiecnbnoinnaaHisJ
import Derived.Test.YtfpiecnbnoinnaaHisH
namespace Go.Proofs.Ytfpiecnbnoinnaa.His
open Go.RowKit Go.Proofs.Ytfpiecnbnoinnaa.Wri
set_option linter.unusedSimpArgs false
set_option linter.unusedVariables false
set_option maxRecDepth 50000

def L5 : List Ev := [⟨1, 0, 0, 0⟩, ⟨3, 0, 1, 5⟩, ⟨2, 0, 1, 5⟩, ⟨7, 0, 0, 0⟩, ⟨8, 0, 0, 0⟩]
theorem L5_writes : allK (getL (ownL L5 0)) 12 = [(1, 5)] := by decide
theorem L5_good : goodL L5 = true := by decide
theorem L5_att : attL L5 = [0] := by decide
theorem L5_state : stateL L5 0 = 3 := by decide
theorem L5_reads : readsL L5 0 = [] := by decide
theorem L5_own : ownOk L5 0 = true := by decide
theorem L5_ok : EvsOk L5 := by
  intro x hx
  simp [L5] at hx
  rcases hx with rfl | rfl | rfl | rfl | rfl <;> simp [inInt]
theorem L5_in {w : World} {b : Nat} (h : w.heap[b]? = some (.cells (evVals L5).toArray 52 (0, 0))) : EvsIn w (some ⟨b, 0, none⟩) 5 L5 := by
  refine ⟨rfl, .inr ⟨b, 0, rfl, fun i hi => ?_⟩⟩
  have hx : L5[i]? = some (L5[i]'hi) := List.getElem?_eq_getElem hi
  obtain ⟨h0, h1, h2, h3⟩ := evVals_get L5 i _ hx
  refine ⟨_, hx, ?_, ?_, ?_, ?_⟩
  all_goals
    simp only [World.cell?, h, Nat.zero_add, List.getElem?_toArray]
    assumption
set_option maxHeartbeats 3200000 in
theorem live_any (w : World) : Calls Try.prog 11 #[] w fun e w' => e = .returned (.bool true) ∧ Below w.heap.size w w' := by
  go_enter Try.func11, Try.ntmps11
  go_wp2_with fail
  obtain ⟨W, hW⟩ : ∃ W, w.alloc (.cells (evVals L5).toArray 52) = W := ⟨_, rfl⟩
  have lW : Below w.heap.size w W := by rw [← hW]; repeat (first | (with_reducible exact Below.refl _ _) | (with_reducible apply Below.drew) | (with_reducible refine below_drewN ?_ _) | (with_reducible refine below_alloc' ?_ ?_ _; (focus ((try simp) <;> omega))) | (with_reducible refine below_set' ?_ ?_ _; (focus ((try simp) <;> omega))))
  have hb : W.heap[w.heap.size]? = some (.cells (evVals L5).toArray 52 (0, 0)) := by rw [← hW]; simp [↓heap_alloc_eq, ↓heap_set_eq, ↓heap_drew_eq, ↓heap_drewN_eq, setObj, size_drewN]
  have HE := Lib.hid (L5_in hb)
  have HL := Lib.hid lW
  have hsz := lW.size
  refine (show Calls Try.prog 15 #[.slice (some ⟨w.heap.size, 0, none⟩) 5 5, .int .i64 0] (w.alloc (.cells (evVals L5).toArray 52)) _ from ?_)
  rw [hW]
  clear hb hW lW
  refine (writesH_any W _ 5 5 L5 HE.out (fun x hx => (L5_ok x hx).2) (by decide) 0).mono ?_
  rintro e w1 ⟨v, rfl, hv, l1⟩
  rw [L5_writes] at hv
  obtain ⟨g, cap, rfl⟩ : ∃ g cap, v = .slice (some ⟨g, 0, none⟩) 1 cap := by
    rcases frAt_slice (ownsRow_base hv (base' := 0) (fun _ _ => Nat.zero_le _)) with ⟨_, h⟩ | ⟨g, cap, h⟩
    · cases h
    · exact ⟨g, cap, h⟩
  obtain ⟨p0, p1⟩ := frAt_cell (ownsRow_base hv (base' := 0) (fun _ _ => Nat.zero_le _)) (i := 0) (p := (1, 5)) rfl
  simp only [Nat.zero_mul, Nat.zero_add] at p0 p1
  have HE1 := Lib.hid (HE.out.below l1)
  have HL1 := Lib.hid (btrans HL.out (Nat.le_refl _) l1)
  clear l1 hv HE HL
  go_wp2_with fail
  have hr := right_any w1 _ 5 5 L5 HE1.out L5_ok (by decide)
  rw [L5_good] at hr
  refine hr.mono ?_
  rintro e w2 ⟨rfl, l2⟩
  replace p1 := bkeep l2 p1
  have HE2 := Lib.hid (HE1.out.below l2)
  have HL2 := Lib.hid (btrans HL1.out (Nat.le_refl _) l2)
  clear l2 hr HE1 HL1
  go_wp2_with fail
  have hr := attempts_any w2 _ 5 5 L5 HE2.out (by decide)
  rw [L5_att] at hr
  refine hr.mono ?_
  rintro e w3 ⟨v, rfl, hv, l3⟩
  obtain ⟨va, vc, rfl, _⟩ := IntsAt.open hv
  replace p1 := bkeep l3 p1
  have HE3 := Lib.hid (HE2.out.below l3)
  have HL3 := Lib.hid (btrans HL2.out (Nat.le_refl _) l3)
  clear l3 hr HE2 HL2 hv
  simp only [List.length_singleton, List.length_cons, List.length_nil, Nat.zero_add]
  go_wp2_with fail
  have hr := state_any w3 _ 5 5 L5 HE3.out (by decide) 0
  rw [L5_state] at hr
  refine hr.mono ?_
  rintro e w4 ⟨rfl, l4⟩
  replace p1 := bkeep l4 p1
  have HE4 := Lib.hid (HE3.out.below l4)
  have HL4 := Lib.hid (btrans HL3.out (Nat.le_refl _) l4)
  clear l4 hr HE3 HL3
  go_wp2_with fail
  have hr := readsH_nil w4 _ 5 5 L5 HE4.out (fun x hx => (L5_ok x hx).2) (by decide) 0 L5_reads
  refine hr.mono ?_
  rintro e w5 ⟨rfl, l5⟩
  replace p1 := bkeep l5 p1
  have HE5 := Lib.hid (HE4.out.below l5)
  have HL5 := Lib.hid (btrans HL4.out (Nat.le_refl _) l5)
  clear l5 hr HE4 HL4
  go_wp2_with fail
  have hr := ownH_any w5 _ 5 5 L5 HE5.out (fun x hx => (L5_ok x hx).2) (by decide) 0
  rw [L5_own] at hr
  refine hr.mono ?_
  rintro e w6 ⟨rfl, l6⟩
  have HL6 := Lib.hid (btrans HL5.out (Nat.le_refl _) l6)
  clear l6 hr
  go_wp2_with fail
  go_ret
  exact ⟨rfl, HL6.out⟩
end Go.Proofs.Ytfpiecnbnoinnaa.His
