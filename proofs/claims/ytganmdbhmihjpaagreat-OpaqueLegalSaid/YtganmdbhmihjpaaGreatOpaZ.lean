/- Orders as they are asked about; equal values; a cut behind a region. -/
import Derived.Test.YtganmdbhmihjpaaGreatOpaT
import Derived.Test.YtganmdbhmihjpaaGreatOpaX
namespace Go.Proofs.YtganmdbhmihjpaaGreat.Opa
open Go.RowKit Go.Proofs.YtganmdbhmihjpaaGreat.Wri Go.Proofs.YtganmdbhmihjpaaGreat.His Go.ChangeShapes Go.WideShapes Go.ChangeAt
set_option linter.unusedSimpArgs false
set_option linter.unusedVariables false
set_option maxRecDepth 50000

def atA (A : Act) (Rel : World → Prop) : Exit → Act → World → Prop
  | .normal, a, w => a = A ∧ Rel w
  | _, _, _ => False
theorem region_cut {P : Program} {c : Code} {Q : Exit → Act → World → Prop} {a : Act} {w : World} (A : Act) (Rel : World → Prop) (h1 : c.wp P (atA A Rel) a w) (h2 : ∀ w', Rel w' → Q .normal A w') : c.wp P Q a w :=
  Code.wp_mono (fun e a' w' h => by
    cases e with
    | normal => obtain ⟨rfl, h⟩ := h; exact h2 _ h
    | _ => exact absurd h id) h1
set_option maxHeartbeats 1600000 in
theorem sameVals_any (w : World) (a a' : Option Addr) (n c c' : Nat) (ts : List Int) (h : ValsIn w a n ts) (h' : ValsIn w a' n ts) (hn : n ≤ 1000000) :
    Calls Tryz.prog 16 #[.slice a n c, .slice a' n c'] w fun e w' => e = .returned (.bool true) ∧ Below w.heap.size w w' := by
  have H := Lib.hid h
  have H' := Lib.hid h'
  clear h h'
  go_enter Tryz.func16, Tryz.ntmps16
  go_wp2_with fail
  go_loopw [5] (fun i wr => ∃ k : Nat, i = .int .i64 k ∧ k ≤ n ∧ Below w.heap.size w wr) (fun i _ => n - (intOf i).toNat)
  case atStart => exact ⟨0, rfl, Nat.zero_le _, Below.refl _ _⟩
  case round =>
    obtain ⟨k, rfl, hk, hB⟩ := hrel
    have HB := Lib.hid hB
    clear hB
    by_cases hlt : k < n
    · obtain ⟨g, off, rfl, hc⟩ := H.out.2.resolve_left (by omega)
      obtain ⟨g', off', rfl, hc'⟩ := H'.out.2.resolve_left (by omega)
      have c0 := bkeep HB.out (hc k hlt)
      have d0 := bkeep HB.out (hc' k hlt)
      have hw1 : IntKind.i64.wrap ((k : Int) + 1) = (k : Int) + 1 := by rw [IntKind.wrap_i64]; omega
      clear hc hc'
      generalize ts.getD k 0 = t at *
      go_wp2_with fail
      go_quiet (fail)
      go_wp2_with fail
      exact ⟨⟨k + 1, by go_num, by omega, below_drewN HB.out _⟩, by simp [intOf]; omega⟩
    · go_wp2_with fail
      go_ret
      exact ⟨rfl, HB.out⟩
set_option maxHeartbeats 3200000 in
theorem right_det (w : World) (a1 a2 : Option Addr) (n1 c1 n2 c2 : Nat) {p1 p2 : Nat → Nat → Prop} (h1 : n1 = 0 ∨ ∃ b off, a1 = some ⟨b, off, none⟩ ∧ p1 b off) (h2 : n2 = 0 ∨ ∃ b off, a2 = some ⟨b, off, none⟩ ∧ p2 b off) (hc1 : n1 ≤ c1) (hc2 : n2 ≤ c2) (hn1 : n1 ≤ 9223372036854775807) (hn2 : n2 ≤ 9223372036854775807) :
    Calls Tryz.prog 11 #[.agg #[.slice a1 n1 c1, .slice a2 n2 c2]] w fun e w' => e = .returned (.agg #[.slice a1 (min n1 12) c1, .slice a2 (min n2 6) c2]) ∧ Below w.heap.size w w' := by
  by_cases h12 : 12 < n1
  · have k1 : (12 : Int) < n1 := by omega
    have k1c : (12 : Int) ≤ c1 := by omega
    obtain ⟨b, off, rfl, _⟩ := h1.resolve_left (by omega)
    rw [show min n1 12 = 12 by omega]
    by_cases h6 : 6 < n2
    · have k2 : (6 : Int) < n2 := by omega
      have k2c : (6 : Int) ≤ c2 := by omega
      obtain ⟨b', off', rfl, _⟩ := h2.resolve_left (by omega)
      rw [show min n2 6 = 6 by omega]
      clear h1 h2
      go_enter Tryz.func11, Tryz.ntmps11
      go_wp2_with fail
      refine bodyPost_ret (v := .agg #[.slice (some ⟨b, off, none⟩) 12 c1, .slice (some ⟨b', off', none⟩) 6 c2]) ?_ rfl ?_; (focus (simp [results, Tryz.results11, go_sem, Nat.zero_le]; done))
      exact ⟨rfl, by repeat (first | (with_reducible exact Below.refl _ _) | (with_reducible apply Below.drew) | (with_reducible refine below_drewN ?_ _) | (with_reducible refine below_alloc' ?_ ?_ _; (focus ((try simp) <;> omega))) | (with_reducible refine below_set' ?_ ?_ _; (focus ((try simp) <;> omega))))⟩
    · have k2 : ¬ (6 : Int) < n2 := by omega
      rw [show min n2 6 = n2 by omega]
      clear h1 h2
      go_enter Tryz.func11, Tryz.ntmps11
      go_wp2_with fail
      refine bodyPost_ret (v := .agg #[.slice (some ⟨b, off, none⟩) 12 c1, .slice a2 n2 c2]) ?_ rfl ?_; (focus (simp [results, Tryz.results11, go_sem, Nat.zero_le]; done))
      exact ⟨rfl, by repeat (first | (with_reducible exact Below.refl _ _) | (with_reducible apply Below.drew) | (with_reducible refine below_drewN ?_ _) | (with_reducible refine below_alloc' ?_ ?_ _; (focus ((try simp) <;> omega))) | (with_reducible refine below_set' ?_ ?_ _; (focus ((try simp) <;> omega))))⟩
  · have k1 : ¬ (12 : Int) < n1 := by omega
    rw [show min n1 12 = n1 by omega]
    by_cases h6 : 6 < n2
    · have k2 : (6 : Int) < n2 := by omega
      have k2c : (6 : Int) ≤ c2 := by omega
      obtain ⟨b', off', rfl, _⟩ := h2.resolve_left (by omega)
      rw [show min n2 6 = 6 by omega]
      clear h1 h2
      go_enter Tryz.func11, Tryz.ntmps11
      go_wp2_with fail
      refine bodyPost_ret (v := .agg #[.slice a1 n1 c1, .slice (some ⟨b', off', none⟩) 6 c2]) ?_ rfl ?_; (focus (simp [results, Tryz.results11, go_sem, Nat.zero_le]; done))
      exact ⟨rfl, by repeat (first | (with_reducible exact Below.refl _ _) | (with_reducible apply Below.drew) | (with_reducible refine below_drewN ?_ _) | (with_reducible refine below_alloc' ?_ ?_ _; (focus ((try simp) <;> omega))) | (with_reducible refine below_set' ?_ ?_ _; (focus ((try simp) <;> omega))))⟩
    · have k2 : ¬ (6 : Int) < n2 := by omega
      rw [show min n2 6 = n2 by omega]
      clear h1 h2
      go_enter Tryz.func11, Tryz.ntmps11
      go_wp2_with fail
      refine bodyPost_ret (v := .agg #[.slice a1 n1 c1, .slice a2 n2 c2]) ?_ rfl ?_; (focus (simp [results, Tryz.results11, go_sem, Nat.zero_le]; done))
      exact ⟨rfl, by repeat (first | (with_reducible exact Below.refl _ _) | (with_reducible apply Below.drew) | (with_reducible refine below_drewN ?_ _) | (with_reducible refine below_alloc' ?_ ?_ _; (focus ((try simp) <;> omega))) | (with_reducible refine below_set' ?_ ?_ _; (focus ((try simp) <;> omega))))⟩
section
variable {H : Type} {enc : TypeId × Value → H} {w : World}
theorem fits_sl {P : Program} {t e : TypeId} {cs : List Value} (h : Fits enc P w t cs) (ht : P.underlying t = some (.slice e)) : ∃ a len cap, cs = [.slice a len cap] := by
  obtain ⟨n, x, h⟩ := h
  rcases Go.Deep.open_slice ht h with ⟨h0, _⟩ | ⟨a', len', cap', m, n', D, Pl, hcs, _⟩
  · exact ⟨_, _, _, h0⟩
  · exact ⟨_, _, _, hcs⟩
theorem cells_order : Tryz.prog.cellsOf 34 = 2 := by kernel_rfl
/-- an order, and those that count as committed -/
theorem order_of {cs : List Value} (h : Fits enc Tryz.prog w 34 cs) : ∃ a1 n1 c1 a2 n2 c2 O C, cs = [.slice a1 n1 c1, .slice a2 n2 c2] ∧ IntsIn w a1 (min n1 12) O ∧ IntsIn w a2 (min n2 6) C ∧ n1 ≤ c1 ∧ n2 ≤ c2 ∧
    ∀ w0 : World, Calls Tryz.prog 11 #[.agg #[.slice a1 n1 c1, .slice a2 n2 c2]] w0 fun e w' => e = .returned (.agg #[.slice a1 (min n1 12) c1, .slice a2 (min n2 6) c2]) ∧ Below w0.heap.size w0 w' := by
  obtain ⟨hl, hf⟩ := h.struct Tryz.underlying34
  rw [cells_order] at hl
  match cs, hl with
  | [x0, x1], _ =>
    have f0 := hf 0 _ rfl; have f1 := hf 1 _ rfl
    obtain ⟨a1, n1, c1, h0⟩ := fits_sl f0 Tryz.underlying24
    obtain ⟨a2, n2, c2, h1⟩ := fits_sl f1 Tryz.underlying24
    rw [h0] at f0; rw [h1] at f1
    have e0 := take_one h0; have e1 := take_one h1
    simp at e0 e1
    obtain ⟨O, hO, hm1⟩ := ints_of f0
    obtain ⟨C, hC, hm2⟩ := ints_of f1
    have k1 := (fits_cap f0 Tryz.underlying24).1
    have k2 := (fits_cap f1 Tryz.underlying24).1
    exact ⟨a1, n1, c1, a2, n2, c2, O.take (min n1 12), C.take (min n2 6), by rw [e0, e1], ints_take hO (Nat.min_le_left _ _), ints_take hC (Nat.min_le_left _ _), k1, k2,
      fun w0 => right_det w0 a1 a2 n1 c1 n2 c2 hO.2 hC.2 k1 k2 hm1 hm2⟩
end
end Go.Proofs.YtganmdbhmihjpaaGreat.Opa
