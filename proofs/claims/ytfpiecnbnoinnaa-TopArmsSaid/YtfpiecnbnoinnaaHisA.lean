/- Events in memory; Before, seen. -/
import Derived.Test.YtfpiecnbnoinnaaHisM
import Derived.Test.YtfpiecnbnoinnaaChecked
import Derived.Test.YtfpiecnbnoinnaaRws
namespace Go.Proofs.Ytfpiecnbnoinnaa.His
open Go.RowKit
set_option linter.unusedSimpArgs false
set_option linter.unusedVariables false
set_option maxRecDepth 50000

/-- some events -/
def EvsIn (w : World) (a : Option Addr) (n : Nat) (l : List Ev) : Prop :=
  l.length = n ∧ (n = 0 ∨ ∃ b off, a = some ⟨b, off, none⟩ ∧ ∀ i, i < n → ∃ x, l[i]? = some x ∧ w.cell? ⟨b, off + i * 4, none⟩ = some (.int .u8 x.k) ∧ w.cell? ⟨b, off + i * 4 + 1, none⟩ = some (.int .i64 x.a) ∧ w.cell? ⟨b, off + i * 4 + 2, none⟩ = some (.int .i64 x.t) ∧ w.cell? ⟨b, off + i * 4 + 3, none⟩ = some (.int .u64 x.v))
theorem EvsIn.below {w w' : World} {a : Option Addr} {n : Nat} {l : List Ev} (h : EvsIn w a n l) (hl : Below w.heap.size w w') : EvsIn w' a n l :=
  ⟨h.1, h.2.imp id fun ⟨b, off, e, hc⟩ => ⟨b, off, e, fun i hi => by
    obtain ⟨x, h0, h1, h2, h3, h4⟩ := hc i hi
    exact ⟨x, h0, bkeep hl h1, bkeep hl h2, bkeep hl h3, bkeep hl h4⟩⟩⟩
theorem drop_at {l : List Ev} {k : Nat} {x : Ev} (h : l[k]? = some x) : l.drop k = x :: l.drop (k + 1) := by
  have hi := (List.getElem?_eq_some_iff.1 h).1
  have e : l[k] = x := by rw [List.getElem?_eq_getElem hi] at h; injection h
  rw [← e, ← List.drop_eq_getElem_cons hi]
theorem take_at {l : List Ev} {k : Nat} {x : Ev} (h : l[k]? = some x) : l.take (k + 1) = l.take k ++ [x] := by
  rw [List.take_add_one, h]; rfl
set_option maxHeartbeats 1600000 in
theorem before_any (w : World) (p : Option Addr) (n c : Nat) (l : List Ev) (h : EvsIn w p n l) (hn : n ≤ 1000000) (a b : Int) :
    Calls Try.prog 17 #[.slice p n c, .int .i64 a, .int .i64 b] w fun e w' => e = .returned (.bool (beforeL a b l false)) ∧ Below w.heap.size w w' := by
  have H := Lib.hid h
  have HL := Lib.hid h.1
  obtain ⟨r, hr⟩ : ∃ r, beforeL a b l false = r := ⟨_, rfl⟩
  have HR := Lib.hid hr
  rw [hr]
  clear h hr
  go_enter Try.func17, Try.ntmps17
  go_wp2_with fail
  go_loopw [7, 12] (fun v i wr => ∃ (k : Nat) (e : Bool), i = .int .i64 k ∧ v = .bool e ∧ k ≤ n ∧ Below w.heap.size w wr ∧ beforeL a b (l.drop k) e = r) (fun _ i _ => n - (intOf i).toNat)
  case atStart => exact ⟨0, false, rfl, rfl, Nat.zero_le _, Below.refl _ _, HR.out⟩
  case round =>
    obtain ⟨k, e, rfl, rfl, hk, hB, hE⟩ := hrel
    have HB := Lib.hid hB; have HE := Lib.hid hE
    clear hB hE
    by_cases hlt : k < n
    · obtain ⟨g, off, rfl, hc⟩ := H.out.2.resolve_left (by omega)
      obtain ⟨x, hx, c0, c1, c2, c3⟩ := hc k hlt
      replace c0 := bkeep HB.out c0; replace c1 := bkeep HB.out c1; replace c2 := bkeep HB.out c2; replace c3 := bkeep HB.out c3
      have HE2 := Lib.hid (show beforeL a b (x :: l.drop (k + 1)) e = r by rw [← drop_at hx]; exact HE.out)
      obtain ⟨xk, xa, xt, xv⟩ := x
      simp only at c0 c1 c2 c3
      have hw1 : IntKind.i64.wrap ((k : Int) + 1) = (k : Int) + 1 := by rw [IntKind.wrap_i64]; omega
      clear hc hx HE
      cases e1 : (xa == b && xk == 1)
      · have HE3 := Lib.hid (show beforeL a b (l.drop (k + 1)) (e || (xa == a && (xk == 8 || xk == 9))) = r by
          have := HE2.out
          unfold beforeL at this
          rw [if_neg (by simpa using e1)] at this
          exact this)
        cases e3 : (xa == b) <;> cases e4 : (xk == 1)
        case true.true => rw [e3, e4] at e1; cases e1
        all_goals
          cases f1 : (xa == a) <;> cases f2 : (xk == 8) <;> cases f3 : (xk == 9)
          all_goals
            have HE4 := HE3
            rw [f1, f2, f3] at HE4
            clear e1 HE3
            go_wp2_with fail
            exact ⟨⟨k + 1, _, by go_num, rfl, by omega, btrans HB.out (Nat.le_refl _) (by repeat (first | (with_reducible exact Below.refl _ _) | (with_reducible apply Below.drew) | (with_reducible refine below_drewN ?_ _) | (with_reducible refine below_alloc' ?_ ?_ _; (focus ((try simp) <;> omega))) | (with_reducible refine below_set' ?_ ?_ _; (focus ((try simp) <;> omega))))), by simpa using HE4.out⟩, by simp [intOf]; omega⟩
      · rw [Bool.and_eq_true] at e1
        obtain ⟨e2, e3⟩ := e1
        have hr : r = e := by
          rw [← HE2.out]
          unfold beforeL
          rw [if_pos ⟨by simpa using e2, by simpa using e3⟩]
        go_wp2_with fail
        go_ret
        exact ⟨by rw [hr]; rfl, btrans HB.out (Nat.le_refl _) (by repeat (first | (with_reducible exact Below.refl _ _) | (with_reducible apply Below.drew) | (with_reducible refine below_drewN ?_ _) | (with_reducible refine below_alloc' ?_ ?_ _; (focus ((try simp) <;> omega))) | (with_reducible refine below_set' ?_ ?_ _; (focus ((try simp) <;> omega)))))⟩
    · obtain rfl : k = n := by omega
      have hr : r = false := by rw [← HE.out, List.drop_of_length_le (by rw [HL.out]; exact Nat.le_refl _)]; rfl
      go_wp2_with fail
      go_ret
      exact ⟨by rw [hr]; rfl, HB.out⟩
end Go.Proofs.Ytfpiecnbnoinnaa.His
