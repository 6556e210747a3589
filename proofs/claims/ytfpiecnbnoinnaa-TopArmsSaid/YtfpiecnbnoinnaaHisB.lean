/- The document's side: seen, Before. -/
import Derived.Test.YtfpiecnbnoinnaaHisA
namespace Go.Proofs.Ytfpiecnbnoinnaa.His
open Go.RowKit
set_option linter.unusedSimpArgs false
set_option linter.unusedVariables false
set_option maxRecDepth 50000

theorem seen_any (w : World) (p : Option Addr) (n c : Nat) (l : List Ev) (h : EvsIn w p n l) (hn : n ≤ 1000000) (m : Nat) (hm : m ≤ n) (a k : Int) :
    Calls Try.prog 40 #[.slice p n c, .int .i64 m, .int .i64 a, .int .u8 k] w fun e w' => e = .returned (.bool (hasK (l.take m) a k)) ∧ w = w' := by
  have H := Lib.hid h
  have HL := Lib.hid h.1
  obtain ⟨r, hr⟩ : ∃ r, hasK (l.take m) a k = r := ⟨_, rfl⟩
  have HR := Lib.hid hr
  rw [hr]
  clear h hr
  go_enter Try.func40, Try.ntmps40
  go_wp2_with fail
  go_loopw [9] (fun i wr => ∃ j : Nat, i = .int .i64 j ∧ j ≤ m ∧ w = wr ∧ hasK (l.take j) a k = false) (fun i _ => m - (intOf i).toNat)
  case atStart => exact ⟨0, rfl, Nat.zero_le _, rfl, rfl⟩
  case round =>
    obtain ⟨j, rfl, hj, rfl, hE⟩ := hrel
    have HE := Lib.hid hE
    clear hE
    by_cases hlt : j < m
    · obtain ⟨g, off, rfl, hc⟩ := H.out.2.resolve_left (by omega)
      obtain ⟨x, hx, c0, c1, c2, c3⟩ := hc j (by omega)
      have hjn : (j : Int) < n := by omega
      have HS := Lib.hid (show hasK (l.take (j + 1)) a k = (hasK (l.take j) a k || (x.a == a && x.k == k)) by rw [take_at hx, hasK_snoc])
      have HX := Lib.hid hx
      obtain ⟨xk, xa, xt, xv⟩ := x
      simp only at c0 c1 c2 c3
      clear hc hx c2 c3
      cases f1 : (xa == a) <;> cases f2 : (xk == k)
      case true.true =>
        have hr : r = true := by
          rw [← HR.out]
          have hx := HX.out
          exact hasK_at.2 ⟨j, _, by rw [List.getElem?_take, if_pos hlt]; exact hx, by simpa using f1, by simpa using f2⟩
        go_wp2_with fail
        go_ret
        exact ⟨by first | rfl | (rw [hr]; rfl), rfl⟩
      all_goals
        have HS2 := Lib.hid (show hasK (l.take (j + 1)) a k = false by rw [HS.out, HE.out]; simp [f1, f2])
        go_wp2_with fail
        exact ⟨⟨j + 1, by go_num, by omega, trivial, HS2.out⟩, by simp [intOf]; omega⟩
    · obtain rfl : j = m := by omega
      have hr : r = false := by rw [← HR.out]; exact HE.out
      go_wp2_with fail
      go_ret
      exact ⟨by first | rfl | (rw [hr]; rfl), rfl⟩
theorem rbefore_any (w : World) (p : Option Addr) (n c : Nat) (l : List Ev) (h : EvsIn w p n l) (hn : n ≤ 1000000) (a b : Int) :
    Calls Try.prog 18 #[.slice p n c, .int .i64 a, .int .i64 b] w fun e w' => e = .returned (.bool (beforeL a b l false)) ∧ w = w' := by
  have H := Lib.hid h
  have HL := Lib.hid h.1
  obtain ⟨r, hr⟩ : ∃ r, beforeL a b l false = r := ⟨_, rfl⟩
  have HR := Lib.hid hr
  rw [hr]
  clear h hr
  go_enter Try.func18, Try.ntmps18
  go_wp2_with fail
  go_loopw [7] (fun i wr => ∃ j : Nat, i = .int .i64 j ∧ j ≤ n ∧ w = wr ∧ (∀ (q : Nat) (y : Ev), l[q]? = some y → q < j → ¬ (y.a = b ∧ y.k = 1))) (fun i _ => n - (intOf i).toNat)
  case atStart => exact ⟨0, rfl, Nat.zero_le _, rfl, fun q y _ h => by omega⟩
  case round =>
    obtain ⟨j, rfl, hj, rfl, hE⟩ := hrel
    have HE := Lib.hid hE
    clear hE
    by_cases hlt : j < n
    · have hS8 := Lib.hid (seen_any w p n c l H.out hn j hj a 8)
      have hS9 := Lib.hid (seen_any w p n c l H.out hn j hj a 9)
      obtain ⟨g, off, rfl, hc⟩ := H.out.2.resolve_left (by omega)
      obtain ⟨x, hx, c0, c1, c2, c3⟩ := hc j hlt
      have HX := Lib.hid hx
      obtain ⟨xk, xa, xt, xv⟩ := x
      simp only at c0 c1 c2 c3
      clear hc hx c2 c3
      cases f1 : (xk == 1) <;> cases f2 : (xa == b)
      case true.true =>
        have hr : r = (hasK (l.take j) a 8 || hasK (l.take j) a 9) := by
          rw [← HR.out]
          have := beforeL_at a b l [] j _ HE.out HX.out (by simpa using f2) (by simpa using f1)
          rw [List.nil_append] at this
          exact this
        have HRR := Lib.hid hr
        clear hr
        go_wp2_with fail
        refine hS8.out.mono ?_
        rintro e w1 ⟨rfl, rfl⟩
        cases h8 : hasK (l.take j) a 8
        · go_wp2_with fail
          refine hS9.out.mono ?_
          rintro e w1 ⟨rfl, rfl⟩
          have hr : r = hasK (l.take j) a 9 := by rw [HRR.out, h8]; rfl
          generalize hasK (l.take j) a 9 = h9 at *
          go_wp2_with fail
          go_ret
          exact ⟨by first | rfl | (rw [hr]; rfl), rfl⟩
        · have hr : r = true := by rw [HRR.out, h8]; rfl
          go_wp2_with fail
          go_ret
          exact ⟨by first | rfl | (rw [hr]; rfl), rfl⟩
      all_goals
        have HE2 := Lib.hid (show ∀ (q : Nat) (y : Ev), l[q]? = some y → q < j + 1 → ¬ (y.a = b ∧ y.k = 1) from fun q y hy hq => by
          rcases Nat.lt_or_ge q j with h1 | h1
          · exact HE.out q y hy h1
          · obtain rfl : q = j := by omega
            rw [HX.out] at hy
            injection hy with hy
            subst hy
            rintro ⟨e1, e2⟩
            have e1' : xa = b := e1
            have e2' : xk = 1 := e2
            simp at f1 f2
            first | exact f1 e2' | exact f2 e1')
        go_wp2_with fail
        exact ⟨⟨j + 1, by go_num, by omega, trivial, HE2.out⟩, by simp [intOf]; omega⟩
    · obtain rfl : j = n := by omega
      have hr : r = false := by
        rw [← HR.out]
        refine beforeL_none a b l false fun y hy => ?_
        obtain ⟨i, hi⟩ := List.mem_iff_getElem?.1 hy
        exact HE.out i y hi (by have := (List.getElem?_eq_some_iff.1 hi).1; rw [HL.out] at this; exact this)
      go_wp2_with fail
      go_ret
      exact ⟨by first | rfl | (rw [hr]; rfl), rfl⟩
end Go.Proofs.Ytfpiecnbnoinnaa.His
