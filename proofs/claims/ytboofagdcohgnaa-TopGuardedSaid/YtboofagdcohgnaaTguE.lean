/- Held, where nobody has a stripe. -/
import Derived.Test.YtboofagdcohgnaaTguD
import Derived.RangeFuncNested
import Derived.RangeFuncBound
import Derived.RangeFuncCalls
import Derived.RangeFuncLeaves
import Derived.RangeFuncBox
import Derived.Shelf.Abstract
import Derived.Shelf.RegionOpen
import Derived.WalkKit
import Derived.OwnWalkIn
import Derived.TacticsInMore
import Derived.LoopNIn
import Derived.LoopIn
namespace Go.Proofs.Ytboofagdcohgnaa.Tgu
open Go.RowKit Go.Proofs.Ytboofagdcohgnaa.Lkw Go.Shelf
set_option linter.unusedSimpArgs false
set_option linter.unusedVariables false
set_option maxRecDepth 50000
attribute [local go_sem] Oper.semAt_some

/-- a word that nobody has -/
def Nobody (x : Int) : Prop := (0 ≤ x ∧ x < 18446744073709551616) ∧ (readV x).1 = -1
set_option maxHeartbeats 3200000 in
theorem held1_any {w : World} {b g : Nat} {now : Int} {ws : Ws} (h : TAt w b g now ws) (hf : ∀ s, s < 4 → Nobody (ws s)) (B1 B2 l : Nat) (h1 : w.cell? ⟨B1, 0, none⟩ = some (ptr b)) (h2 : w.cell? ⟨B2, 0, none⟩ = some (.int .i64 0)) :
    Calls Try.prog 33 #[.func (.yield l) #[] #[], ptr B1, ptr B2] w fun e w' => (∃ v, e = .returned v) ∧ Below w.heap.size w w' := by
  have hb := h.obj; have hg := h.row; have b0 := blk_cell hb 0; have b1 := blk_cell hb 1; simp only [List.getElem?_toArray, List.getElem?_cons_zero, List.getElem?_cons_succ] at b0 b1
  have H := Lib.hid h; have HF := Lib.hid hf
  have HB2 := Lib.hid h2
  clear h hf hb hg h2
  go_enter Try.func33, Try.ntmps33
  go_wp2_with fail
  go_loopw [16] (fun i wr => ∃ k : Nat, i = .int .i64 k ∧ k ≤ 4 ∧ Below w.heap.size w wr) (fun i _ => 4 - (intOf i).toNat)
  case atStart => exact ⟨0, rfl, by decide, Below.refl _ _⟩
  case round =>
    obtain ⟨k, rfl, hk, hB⟩ := hrel
    have HB := Lib.hid hB
    clear hB
    by_cases hlt : k < 4
    · have c0 := bkeep HB.out (H.out.cell hlt)
      have c2 := bkeep HB.out HB2.out
      have hlt' : (k : Int) < 4 := by omega
      have hw1 : IntKind.i64.wrap ((k : Int) + 1) = (k : Int) + 1 := by rw [IntKind.wrap_i64]; omega
      obtain ⟨hx, hr⟩ := HF.out k hlt
      obtain ⟨x, hxe⟩ : ∃ x, ws k = x := ⟨_, rfl⟩
      rw [hxe] at c0 hx hr
      have hR := read_any wr x hx
      rw [hr] at hR
      have HR := Lib.hid hR
      have hm1 : ((-1 : Int) == 0) = false := by decide
      clear hx hr hxe hR
      generalize (readV x).2.1 = r1 at *
      generalize (readV x).2.2 = r2 at *
      go_wp2_with fail
      refine HR.out.mono ?_
      rintro e w1 ⟨rfl, l1⟩
      have HB1 := Lib.hid (btrans HB.out (Nat.le_refl _) l1)
      replace c2 := bkeep l1 c2
      clear l1
      go_wp2_with fail
      exact ⟨⟨k + 1, by go_num, by omega, HB1.out⟩, by simp [intOf]; omega⟩
    · obtain rfl : k = 4 := by omega
      go_wp2_with fail
      exact bodyPost_end (results_none rfl _ _ _) rfl ⟨⟨_, rfl⟩, HB.out⟩
theorem theld_in (n : Nat) (o : Option Addr) (w : World) :
    CallsIn Fence.wide n Try.prog 24 #[.pointer o, .int .i64 0] w fun e w' => e = .returned (.func (.func 33) #[] #[.pointer (some ⟨w.heap.size, 0, none⟩), .pointer (some ⟨w.heap.size + 1, 0, none⟩)]) ∧ w' = (w.alloc (.cells #[.pointer o] 23)).alloc (.cells #[.int .i64 0] 3) := by
  refine callsIn_wide.2 ?_
  have hmf : ∀ (fn : Fn) (first cap : Array Value) (w : World), (Instr.makeFunc fn first cap).run Try.prog w = .ok (.func fn first cap) w := fun _ _ _ _ => rfl
  go_enter Try.func24, Try.ntmps24
  go_wp2_with fail
  go_ret
  exact ⟨rfl, rfl⟩
theorem grown_of {W W' : World} (l : Below W.heap.size W W') : W.grownBy W' none := ⟨l.os, l.tape, l.output, l.size, fun k hk _ => l.block k hk⟩
theorem held_stops (n : Nat) {w : World} {b g : Nat} {now : Int} {ws : Ws} (h : TAt w b g now ws) (hf : ∀ s, s < 4 → Nobody (ws s)) (B1 B2 : Nat) (h1 : w.cell? ⟨B1, 0, none⟩ = some (ptr b)) (h2 : w.cell? ⟨B2, 0, none⟩ = some (.int .i64 0)) :
    SeqStopsK Fence.wide n Try.prog 33 #[ptr B1, ptr B2] (fun x : Empty => (#[.nilFunc] : Array Value)) (Below w.heap.size) (fun ys => ys = []) (fun _ => False) 0 w := fun l J Jx W hW hJ _ hY h0 => by
  refine callsIn_wide.2 ((held1_any (h.below hW) hf B1 B2 l (bkeep hW h1) (bkeep hW h2)).mono ?_)
  rintro e w' ⟨he, lw⟩
  exact ⟨he, .inl ⟨[], rfl, hJ [] W w' none h0 (grown_of lw) (fun r hr => by cases hr)⟩⟩
set_option maxRecDepth 100000 in
set_option maxHeartbeats 4000000 in
theorem held_in {w : World} {b g : Nat} {now : Int} {ws : Ws} (h : TAt w b g now ws) (hf : ∀ s, s < 4 → Nobody (ws s)) :
    CallsIn Fence.wide 3 Try.prog 13 #[ptr b, .int .i64 0] w fun e w' => e = .returned (.slice none 0 0) ∧ Below w.heap.size w w' := by
  have H := Lib.hid h; have HF := Lib.hid hf
  clear h hf
  refine callsIn_of_wp_marks Try.func13 rfl trivial ?_ rfl
  simp only [Try.ntmps13, List.size_toArray, List.length_cons, List.length_nil, Nat.reduceAdd, Nat.reduceSub, Array.replicate_succ, Array.replicate_zero, List.push_toArray, List.append_toArray, List.nil_append, List.cons_append]
  gi_wp2_with fail
  refine ⟨trivial, (theld_in 2 _ _).mono ?_⟩
  rintro e w' ⟨rfl, rfl⟩
  gi_wp2_with fail
  have bS := ((Boxed.new w 25 (.slice none 0 0)).alloc (.cells #[ptr b] 23)).alloc (.cells #[.int .i64 0] 3)
  obtain ⟨W0, hW0⟩ : ∃ W0, (((w.alloc (.cells #[.slice none 0 0] 25)).alloc (.cells #[ptr b] 23)).alloc (.cells #[.int .i64 0] 3)) = W0 := ⟨_, rfl⟩
  have hB0 : Below w.heap.size w W0 := by rw [← hW0]; repeat (first | (with_reducible exact Below.refl _ _) | (with_reducible apply Below.drew) | (with_reducible refine below_drewN ?_ _) | (with_reducible refine below_alloc' ?_ ?_ _; (focus ((try simp) <;> omega))) | (with_reducible refine below_set' ?_ ?_ _; (focus ((try simp) <;> omega))))
  have hsz : W0.heap.size = w.heap.size + 3 := by rw [← hW0]; simp
  have q1 : W0.cell? ⟨w.heap.size + 1, 0, none⟩ = some (ptr b) := by
    have hb1 : W0.heap[w.heap.size + 1]? = some (.cells #[ptr b] 23 (0, 0)) := by rw [← hW0]; simp [↓heap_alloc_eq, ↓heap_set_eq, ↓heap_drew_eq, ↓heap_drewN_eq, setObj, size_drewN]; try omega
    rw [blk_cell hb1]; rfl
  have q2 : W0.cell? ⟨w.heap.size + 2, 0, none⟩ = some (.int .i64 0) := by
    have hb1 : W0.heap[w.heap.size + 2]? = some (.cells #[.int .i64 0] 3 (0, 0)) := by rw [← hW0]; simp [↓heap_alloc_eq, ↓heap_set_eq, ↓heap_drew_eq, ↓heap_drewN_eq, setObj, size_drewN]; try omega
    rw [blk_cell hb1]; rfl
  try simp only [World.size_alloc]
  rw [hW0] at bS ⊢
  clear hW0
  refine wpIn_rangeFunc_ownH rfl (by decide) (gf := 33) (lb := #[ptr (w.heap.size + 1), ptr (w.heap.size + 2)]) rfl trivial (enters_of Try.func33 (by kernel_rfl) rfl)
    (held_stops _ (H.out.below hB0) HF.out (w.heap.size + 1) (w.heap.size + 2) q1 q2) belowK_t (belowK_b (Nat.le_refl _)) (Below.refl _ _) (fun x => x.elim)
    (fun pre W => Boxed W w.heap.size 25 (.slice none 0 0) ∧ Below w.heap.size w W)
    (fun j pre W => False)
    (OwnFrom.and (Own.from (boxed_own _ _ _) _) (ownFrom_below (Nat.le_refl _) (by omega)))
    (fun j => ownFrom_pure _ _)
    ⟨bS, hB0⟩
    (fun x a' W => x.elim)
    (fun x a' => x.elim)
    ?assign ?body ?done ?stop
  case assign => rintro l pre x; exact x.elim
  case body => rintro l pre x; exact x.elim
  case done =>
    rintro D ys W hD rfl ⟨bS1, hB1⟩ hK
    have c5 := bS1.cell
    gi_wp2
    refine ⟨by simp, .inl ⟨_, _, rfl, run_takeDeferred hK, ?_⟩⟩
    refine ⟨.slice none 0 0, ?_, ⟨rfl, hB1.trans (belowK_b (w := w) (Nat.le_refl _) W D _ _ (by omega) hK rfl rfl)⟩⟩
    simp [results, Try.f13, go_sem]
  case stop => rintro D j pre W hD hF; exact hF.elim
theorem held_any' {w : World} {b g : Nat} {now : Int} {ws : Ws} (h : TAt w b g now ws) (hf : ∀ s, s < 4 → Nobody (ws s)) :
    Calls Try.prog 13 #[ptr b, .int .i64 0] w fun e w' => e = .returned (.slice none 0 0) ∧ Below w.heap.size w w' := callsIn_wide.1 (held_in h hf)
end Go.Proofs.Ytboofagdcohgnaa.Tgu
