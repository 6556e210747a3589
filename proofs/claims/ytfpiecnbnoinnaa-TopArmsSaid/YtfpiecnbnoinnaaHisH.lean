/- Same of the document's side: events that are the same. -/
import Derived.Test.YtfpiecnbnoinnaaHisG
import Derived.Laws.StructEq
namespace Go.Proofs.Ytfpiecnbnoinnaa.His
open Go.RowKit
set_option linter.unusedSimpArgs false
set_option linter.unusedVariables false
set_option maxRecDepth 50000

theorem rsame_any (w : World) (p p' : Option Addr) (n c c' : Nat) (l : List Ev) (h : EvsIn w p n l) (h' : EvsIn w p' n l) (hn : n ≤ 1000000) :
    Calls Try.prog 19 #[.slice p n c, .slice p' n c'] w fun e w' => e = .returned (.bool true) ∧ Below w.heap.size w w' := by
  have H := Lib.hid h
  have H' := Lib.hid h'
  clear h h'
  go_enter Try.func19, Try.ntmps19
  go_wp2_with fail
  go_loopw [5] (fun i wr => ∃ k : Nat, i = .int .i64 k ∧ k ≤ n ∧ Below w.heap.size w wr) (fun i _ => n - (intOf i).toNat)
  case atStart => exact ⟨0, rfl, Nat.zero_le _, Below.refl _ _⟩
  case round =>
    obtain ⟨k, rfl, hk, hB⟩ := hrel
    have HB := Lib.hid hB
    clear hB
    by_cases hlt : k < n
    · obtain ⟨g, off, rfl, hc⟩ := H.out.2.resolve_left (by omega)
      obtain ⟨x, hx, c0, c1, c2, c3⟩ := hc k hlt
      obtain ⟨g', off', rfl, hc'⟩ := H'.out.2.resolve_left (by omega)
      obtain ⟨x', hx', d0, d1, d2, d3⟩ := hc' k hlt
      rw [hx] at hx'
      injection hx' with hx'
      subst hx'
      replace c0 := bkeep HB.out c0; replace c1 := bkeep HB.out c1; replace c2 := bkeep HB.out c2; replace c3 := bkeep HB.out c3
      replace d0 := bkeep HB.out d0; replace d1 := bkeep HB.out d1; replace d2 := bkeep HB.out d2; replace d3 := bkeep HB.out d3
      obtain ⟨xk, xa, xt, xv⟩ := x
      simp only at c0 c1 c2 c3 d0 d1 d2 d3
      clear hc hc' hx
      go_wp2_with fail
      go_quiet (fail)
      go_wp2_with fail
      exact ⟨⟨k + 1, by go_num, by omega, below_drewN HB.out _⟩, by simp [intOf]; omega⟩
    · go_wp2_with fail
      go_ret
      exact ⟨rfl, HB.out⟩
end Go.Proofs.Ytfpiecnbnoinnaa.His
