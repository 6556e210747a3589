/- The engine: its heap, a new one. -/
import Derived.Test.YtgjemjogncnbnaaTadT
namespace Go.Proofs.Ytgjemjogncnbnaa.Tad
open Go.RowKit
set_option linter.unusedSimpArgs false
set_option linter.unusedVariables false
set_option maxRecDepth 50000

theorem infoV : (Try.prog.info? 26).map (fun i => (i.zero, i.size, i.bytes)) = some (some (.int .u64 0), 1, 8) := by kernel_rfl
set_option maxHeartbeats 1600000 in
theorem clone2_any (w : World) (g c : Nat) (a b : Int) (h0 : w.cell? ⟨g, 0, none⟩ = some (.int .u64 a)) (h1 : w.cell? ⟨g, 1, none⟩ = some (.int .u64 b)) :
    Calls Try.prog 16 #[.slice (some ⟨g, 0, none⟩) 2 c] w fun e w' => ∃ g' c', e = .returned (.slice (some ⟨g', 0, none⟩) 2 c') ∧ w'.ownsRow w.heap.size 26 1 (.slice (some ⟨g', 0, none⟩) 2 c') 2 [.int .u64 a, .int .u64 b] ∧ Below w.heap.size w w' := by
  obtain ⟨i0, hi, hz0, hz1, hz2⟩ := info_parts infoV
  have hnil : ∀ (a : Option Addr) (l c : Nat) (w : World), (binOp .eql 27 (.slice a l c) (.slice none 0 0)).run Try.prog w = .ok (.bool a.isNone) w := fun a l c w => Lib.run_eql_slice_nil (P := Try.prog) w 27 26 a l c 0 0 Try.underlying27
  have hE : (w.alloc (.cells #[] 26)).ownsRow w.heap.size 26 1 (.slice (some ⟨w.heap.size, 0, none⟩) 0 0) 0 [] := by
    have := World.ownsRow_lit (base := w.heap.size) (e := 26) (size := 1) w #[] 0 (Nat.le_refl _) (by decide) (by simp)
    simpa using this
  have hs : ∀ j u, ([.int .u64 a, .int .u64 b] : List Value)[j]? = some u → (w.alloc (.cells #[] 26)).cell? ((⟨g, 0, none⟩ : Addr).add j) = some u := by
    intro j u hu
    rw [Addr.add_lit, Nat.zero_add]
    match j, hu with
    | 0, hu => injection hu with hu; subst hu; exact bkeep ((Below.refl _ _).alloc (Nat.le_refl _) _) h0
    | 1, hu => injection hu with hu; subst hu; exact bkeep ((Below.refl _ _).alloc (Nat.le_refl _) _) h1
    | j + 2, hu => simp at hu
  have HS := Lib.hid hs; have HE := Lib.hid hE
  have H1 := Lib.hid (show ∀ u ∈ ([.int .u64 a, .int .u64 b] : List Value), u.oneCell' = true by intro u hu; simp at hu; rcases hu with rfl | rfl <;> rfl)
  clear hs hE h0 h1
  go_enter Try.func16, Try.ntmps16
  go_wp2_with (at_builtin; refine wpList_append_own _ rfl _ _ 27 rfl w.heap.size 26 i0 (.int .u64 0) 1 8 Try.underlying27 hi hz0 hz1 hz2 rfl (by decide) _ 0 [] rfl HE.out ⟨g, 0, none⟩ 2 c [.int .u64 a, .int .u64 b] rfl rfl HS.out H1.out (by unfold maxLen; omega) (by omega) (by simp) ?_)
  intro v' w1 hown hgr hnn
  have hB : Below w.heap.size w w1 := ((Below.refl _ w).alloc (Nat.le_refl _) (.cells #[] 26)).grown hgr (by simp) (by simp [Value.ownBlock])
  obtain ⟨g', c', rfl⟩ : ∃ g' c', v' = .slice (some ⟨g', 0, none⟩) 2 c' := by
    obtain ⟨_, h | ⟨g', c', _, e, _⟩⟩ := hown
    · exact absurd h.2 (by decide)
    · exact ⟨g', c', e⟩
  have hW := Lib.hid hown; have HB := Lib.hid hB
  clear hown hgr hB HS HE
  go_wp2
  go_ret
  refine ⟨_, _, rfl, ?_, HB.out⟩
  simpa using hW.out
theorem heap_any {lo : Nat} {w : World} {eb : Nat} {B : Bk} {E : Eng} (h : EngAt lo w eb B E) :
    Calls Try.prog 12 #[ptr eb] w fun e w' => ∃ g' c', e = .returned (.slice (some ⟨g', 0, none⟩) 2 c') ∧ w'.cell? ⟨g', 0, none⟩ = some (.int .u64 E.h) ∧ w'.cell? ⟨g', 1, none⟩ = some (.int .u64 9221120237041090560) ∧ Below w.heap.size w w' := by
  have HC := Lib.hid (clone2_any w B.hg B.hc E.h 9221120237041090560 (h.heap.cellAt 0 (by omega)) (h.heap.cellAt 1 (by omega)))
  have e1 := blk_cell h.obj 1; simp only [List.getElem?_toArray, List.getElem?_cons_zero, List.getElem?_cons_succ] at e1
  clear h
  go_enter Try.func12, Try.ntmps12
  go_wp2_with fail
  refine HC.out.mono ?_
  rintro e w1 ⟨g', c', rfl, hr, l⟩
  have HR := Lib.hid hr; have L := Lib.hid l
  clear hr l
  go_wp2_with fail
  go_ret
  exact ⟨_, _, rfl, HR.out.cellAt 0 (by omega), HR.out.cellAt 1 (by omega), L.out⟩
def E0 : Eng := { lk := Seq.st0, h := 0, n := 0, y := 0, c := 0, m := 0, th := fun _ => none }
set_option maxHeartbeats 3200000 in
theorem new_any (w : World) (g c : Nat) (h0 : w.cell? ⟨g, 0, none⟩ = some (.int .u64 0)) (h1 : w.cell? ⟨g, 1, none⟩ = some (.int .u64 9221120237041090560)) :
    Calls Try.prog 4 #[.slice (some ⟨g, 0, none⟩) 2 c] w fun e w' => ∃ eb B, e = .returned (ptr eb) ∧ EngAt w.heap.size w' eb B E0 ∧ Below w.heap.size w w' := by
  have HR0 := Lib.hid (Wri.vRight_any w 0 ⟨by decide, by decide⟩)
  have HR1 := Lib.hid (Wri.vRight_any w 9221120237041090560 ⟨by decide, by decide⟩)
  rw [show Wri.rightVal 0 = true by decide] at HR0
  rw [show Wri.rightVal 9221120237041090560 = true by decide] at HR1
  have hmm := @run_makeMap Try.prog
  go_enter Try.func4, Try.ntmps4
  go_wp2_with fail
  go_loopw [15] (fun i wr => ∃ j : Nat, i = .int .i64 j ∧ j ≤ 2 ∧ w = wr) (fun i _ => 2 - (intOf i).toNat)
  case atStart => exact ⟨0, rfl, by omega, rfl⟩
  case round =>
    obtain ⟨j, rfl, hj, rfl⟩ := hrel
    obtain rfl | rfl | rfl : j = 0 ∨ j = 1 ∨ j = 2 := by omega
    · go_wp2_with fail
      refine HR0.out.mono ?_
      rintro e w1 ⟨rfl, rfl⟩
      go_wp2_with fail
      exact ⟨⟨1, by go_num, by omega, trivial⟩, by simp [intOf]⟩
    · go_wp2_with fail
      refine HR1.out.mono ?_
      rintro e w1 ⟨rfl, rfl⟩
      go_wp2_with fail
      exact ⟨⟨2, by go_num, by omega, trivial⟩, by simp [intOf]⟩
    · go_wp2_with fail
      refine (Seq.new_any _).mono ?_
      rintro e w1 ⟨rfl, rfl⟩
      have l1 : Below w.heap.size w (w.alloc (.cells #[.pointer none, .int .u64 0] 87)) := by repeat (first | (with_reducible exact Below.refl _ _) | (with_reducible apply Below.drew) | (with_reducible refine below_drewN ?_ _) | (with_reducible refine below_alloc' ?_ ?_ _; (focus ((try simp) <;> omega))) | (with_reducible refine below_set' ?_ ?_ _; (focus ((try simp) <;> omega))))
      have HC := Lib.hid (clone2_any _ g c 0 9221120237041090560 (bkeep l1 h0) (bkeep l1 h1))
      go_wp2_with fail
      refine HC.out.mono ?_
      rintro e w2 ⟨g', c', rfl, hr, l2⟩
      have HR := Lib.hid hr; have L2 := Lib.hid l2
      clear hr l2 HC h0 h1
      go_wp2_with fail
      go_ret
      have l2 := L2.out
      have l12 : Below w.heap.size w w2 := btrans l1 (Nat.le_refl _) l2
      have hsz : w.heap.size + 1 ≤ w2.heap.size := by have := l2.size; simpa using this
      have hL : w2.heap[w.heap.size]? = some (.cells #[.pointer none, .int .u64 0] 87 (0, 0)) := bblk l2 (by simp [↓heap_alloc_eq, ↓heap_set_eq, ↓heap_drew_eq, ↓heap_drewN_eq, setObj, size_drewN])
      have hr := HR.out
      have hgl := (hr.lt g' rfl)
      simp only [World.size_alloc] at hgl
      have l3 : Below w2.heap.size w2 ((w2.alloc (.map #[] 0)).alloc (.cells #[ptr w.heap.size, .slice (some ⟨g', 0, none⟩) 2 c', .map (some w2.heap.size), .slice none 0 0, .slice none 0 0, .slice none 0 0] 61)) := by repeat (first | (with_reducible exact Below.refl _ _) | (with_reducible apply Below.drew) | (with_reducible refine below_drewN ?_ _) | (with_reducible refine below_alloc' ?_ ?_ _; (focus ((try simp) <;> omega))) | (with_reducible refine below_set' ?_ ?_ _; (focus ((try simp) <;> omega))))
      refine ⟨w2.heap.size + 1, { lb := w.heap.size, hg := g', hc := c', mb := w2.heap.size, ev := .slice none 0 0, ky := .slice none 0 0, wy := .slice none 0 0, pt := fun _ => ⟨0, 0, 0, 0⟩ }, rfl, {
        obj := by simp [↓heap_alloc_eq, ↓heap_set_eq, ↓heap_drew_eq, ↓heap_drewN_eq, setObj, size_drewN]
        lock := bblk l3 hL
        linv := Seq.inv0
        heap := row_mono (ownsRow_only hr (Only.empty l3 (Nat.le_refl _)) fun _ _ h => h) (Nat.zero_le _)
        mp := ((MapIs.made Try.prog 3 w2).below (by repeat (first | (with_reducible exact Below.refl _ _) | (with_reducible apply Below.drew) | (with_reducible refine below_drewN ?_ _) | (with_reducible refine below_alloc' ?_ ?_ _; (focus ((try simp) <;> omega))) | (with_reducible refine below_set' ?_ ?_ _; (focus ((try simp) <;> omega))))))
        evs := ⟨[], World.ownsRow_nil _ _ _ _⟩
        kys := ⟨[], World.ownsRow_nil _ _ _ _⟩
        wys := ⟨[], World.ownsRow_nil _ _ _ _⟩
        ths := fun t x e => by cases e
        sep := fun t t' x x' e _ _ => by cases e
        sepm := fun t x e => by cases e
        lo1 := ⟨by show w.heap.size ≤ w2.heap.size + 1; omega, Nat.le_refl _, by show w.heap.size ≤ g'; omega, by show w.heap.size ≤ w2.heap.size; omega⟩
        lo2 := ⟨fun k hk => (by cases hk), fun k hk => (by cases hk), fun k hk => (by cases hk)⟩
        lo3 := fun t x e => by cases e }, btrans l12 (Nat.le_refl _) l3⟩
end Go.Proofs.Ytgjemjogncnbnaa.Tad
