/- Texts of this seat, one behind the other: HisB, HisC, HisD, HisE, HisF, HisG, HisH, HisI, HisJ, HisK, HisL, HisN. -/
import Derived.Test.YtganmdbhmihjpaaGreatMgc
import Derived.Laws.StructEq
import Derived.WalkLawsBesides
import Derived.LaidEqlPtr
import Derived.Handy
import Derived.Maps.OwnSet
/- The document's side: seen, Before. -/
namespace Go.Proofs.YtganmdbhmihjpaaGreat.His
open Go.RowKit
set_option linter.unusedSimpArgs false
set_option linter.unusedVariables false
set_option maxRecDepth 50000

theorem seen_any (w : World) (p : Option Addr) (n c : Nat) (l : List Ev) (h : EvsIn w p n l) (hn : n ≤ 1000000) (m : Nat) (hm : m ≤ n) (a k : Int) :
    Calls Tryz.prog 47 #[.slice p n c, .int .i64 m, .int .i64 a, .int .u8 k] w fun e w' => e = .returned (.bool (hasK (l.take m) a k)) ∧ w = w' := by
  have H := Lib.hid h
  have HL := Lib.hid h.1
  obtain ⟨r, hr⟩ : ∃ r, hasK (l.take m) a k = r := ⟨_, rfl⟩
  have HR := Lib.hid hr
  rw [hr]
  clear h hr
  go_enter Tryz.func47, Tryz.ntmps47
  go_wp2_with fail
  go_loopw [9] (fun i wr => ∃ j : Nat, i = .int .i64 j ∧ j ≤ m ∧ w = wr ∧ hasK (l.take j) a k = false) (fun i _ => m - (intOf i).toNat)
  case atStart => exact ⟨0, rfl, Nat.zero_le _, rfl, rfl⟩
  case round =>
    obtain ⟨j, rfl, hj, rfl, hE⟩ := hrel
    have HE := Lib.hid hE
    clear hE
    by_cases hlt : j < m
    · obtain ⟨g, off, rfl, hc⟩ := H.out.2.resolve_left (by omega)
      obtain ⟨x, hx, c0, c1, c2, c3⟩ := hc j (by omega)
      have hjn : (j : Int) < n := by omega
      have HS := Lib.hid (show hasK (l.take (j + 1)) a k = (hasK (l.take j) a k || (x.a == a && x.k == k)) by rw [take_at hx, hasK_snoc])
      have HX := Lib.hid hx
      obtain ⟨xk, xa, xt, xv⟩ := x
      simp only at c0 c1 c2 c3
      clear hc hx c2 c3
      cases f1 : (xa == a) <;> cases f2 : (xk == k)
      case true.true =>
        have hr : r = true := by
          rw [← HR.out]
          have hx := HX.out
          exact hasK_at.2 ⟨j, _, by rw [List.getElem?_take, if_pos hlt]; exact hx, by simpa using f1, by simpa using f2⟩
        go_wp2_with fail
        go_ret
        exact ⟨by first | rfl | (rw [hr]; rfl), rfl⟩
      all_goals
        have HS2 := Lib.hid (show hasK (l.take (j + 1)) a k = false by rw [HS.out, HE.out]; simp [f1, f2])
        go_wp2_with fail
        exact ⟨⟨j + 1, by go_num, by omega, trivial, HS2.out⟩, by simp [intOf]; omega⟩
    · obtain rfl : j = m := by omega
      have hr : r = false := by rw [← HR.out]; exact HE.out
      go_wp2_with fail
      go_ret
      exact ⟨by first | rfl | (rw [hr]; rfl), rfl⟩
theorem rbefore_any (w : World) (p : Option Addr) (n c : Nat) (l : List Ev) (h : EvsIn w p n l) (hn : n ≤ 1000000) (a b : Int) :
    Calls Tryz.prog 48 #[.slice p n c, .int .i64 a, .int .i64 b] w fun e w' => e = .returned (.bool (beforeL a b l false)) ∧ w = w' := by
  have H := Lib.hid h
  have HL := Lib.hid h.1
  obtain ⟨r, hr⟩ : ∃ r, beforeL a b l false = r := ⟨_, rfl⟩
  have HR := Lib.hid hr
  rw [hr]
  clear h hr
  go_enter Tryz.func48, Tryz.ntmps48
  go_wp2_with fail
  go_loopw [7] (fun i wr => ∃ j : Nat, i = .int .i64 j ∧ j ≤ n ∧ w = wr ∧ (∀ (q : Nat) (y : Ev), l[q]? = some y → q < j → ¬ (y.a = b ∧ y.k = 1))) (fun i _ => n - (intOf i).toNat)
  case atStart => exact ⟨0, rfl, Nat.zero_le _, rfl, fun q y _ h => by omega⟩
  case round =>
    obtain ⟨j, rfl, hj, rfl, hE⟩ := hrel
    have HE := Lib.hid hE
    clear hE
    by_cases hlt : j < n
    · have hS8 := Lib.hid (seen_any w p n c l H.out hn j hj a 8)
      have hS9 := Lib.hid (seen_any w p n c l H.out hn j hj a 9)
      obtain ⟨g, off, rfl, hc⟩ := H.out.2.resolve_left (by omega)
      obtain ⟨x, hx, c0, c1, c2, c3⟩ := hc j hlt
      have HX := Lib.hid hx
      obtain ⟨xk, xa, xt, xv⟩ := x
      simp only at c0 c1 c2 c3
      clear hc hx c2 c3
      cases f1 : (xk == 1) <;> cases f2 : (xa == b)
      case true.true =>
        have hr : r = (hasK (l.take j) a 8 || hasK (l.take j) a 9) := by
          rw [← HR.out]
          have := beforeL_at a b l [] j _ HE.out HX.out (by simpa using f2) (by simpa using f1)
          rw [List.nil_append] at this
          exact this
        have HRR := Lib.hid hr
        clear hr
        go_wp2_with fail
        refine hS8.out.mono ?_
        rintro e w1 ⟨rfl, rfl⟩
        cases h8 : hasK (l.take j) a 8
        · go_wp2_with fail
          refine hS9.out.mono ?_
          rintro e w1 ⟨rfl, rfl⟩
          have hr : r = hasK (l.take j) a 9 := by rw [HRR.out, h8]; rfl
          generalize hasK (l.take j) a 9 = h9 at *
          go_wp2_with fail
          go_ret
          exact ⟨by first | rfl | (rw [hr]; rfl), rfl⟩
        · have hr : r = true := by rw [HRR.out, h8]; rfl
          go_wp2_with fail
          go_ret
          exact ⟨by first | rfl | (rw [hr]; rfl), rfl⟩
      all_goals
        have HE2 := Lib.hid (show ∀ (q : Nat) (y : Ev), l[q]? = some y → q < j + 1 → ¬ (y.a = b ∧ y.k = 1) from fun q y hy hq => by
          rcases Nat.lt_or_ge q j with h1 | h1
          · exact HE.out q y hy h1
          · obtain rfl : q = j := by omega
            rw [HX.out] at hy
            injection hy with hy
            subst hy
            rintro ⟨e1, e2⟩
            have e1' : xa = b := e1
            have e2' : xk = 1 := e2
            simp at f1 f2
            first | exact f1 e2' | exact f2 e1')
        go_wp2_with fail
        exact ⟨⟨j + 1, by go_num, by omega, trivial, HE2.out⟩, by simp [intOf]; omega⟩
    · obtain rfl : j = n := by omega
      have hr : r = false := by
        rw [← HR.out]
        refine beforeL_none a b l false fun y hy => ?_
        obtain ⟨i, hi⟩ := List.mem_iff_getElem?.1 hy
        exact HE.out i y hi (by have := (List.getElem?_eq_some_iff.1 hi).1; rw [HL.out] at this; exact this)
      go_wp2_with fail
      go_ret
      exact ⟨by first | rfl | (rw [hr]; rfl), rfl⟩
end Go.Proofs.YtganmdbhmihjpaaGreat.His
/- Cut, on both sides. -/
namespace Go.Proofs.YtganmdbhmihjpaaGreat.His
open Go.RowKit
set_option linter.unusedSimpArgs false
set_option linter.unusedVariables false
set_option maxRecDepth 50000

def evVals (l : List Ev) : List Value := l.flatMap fun x => [.int .u8 x.k, .int .i64 x.a, .int .i64 x.t, .int .u64 x.v]
theorem evVals_snoc (l : List Ev) (x : Ev) : evVals (l ++ [x]) = evVals l ++ [.int .u8 x.k, .int .i64 x.a, .int .i64 x.t, .int .u64 x.v] := by simp [evVals]
theorem evVals_get (l : List Ev) : ∀ (i : Nat) (x : Ev), l[i]? = some x → (evVals l)[i * 4]? = some (.int .u8 x.k) ∧ (evVals l)[i * 4 + 1]? = some (.int .i64 x.a) ∧ (evVals l)[i * 4 + 2]? = some (.int .i64 x.t) ∧ (evVals l)[i * 4 + 3]? = some (.int .u64 x.v) := by
  induction l with
  | nil => intro i x h; cases h
  | cons y l ih =>
    intro i x h
    have e : evVals (y :: l) = [.int .u8 y.k, .int .i64 y.a, .int .i64 y.t, .int .u64 y.v] ++ evVals l := by simp [evVals]
    rw [e]
    cases i with
    | zero =>
      simp at h
      subst h
      exact ⟨rfl, rfl, rfl, rfl⟩
    | succ i =>
      obtain ⟨h0, h1, h2, h3⟩ := ih i x (by simpa using h)
      refine ⟨?_, ?_, ?_, ?_⟩
      · rw [List.getElem?_append_right (by simp; omega)]; simpa [show (i + 1) * 4 - 4 = i * 4 by omega] using h0
      · rw [List.getElem?_append_right (by simp; omega)]; simpa [show (i + 1) * 4 + 1 - 4 = i * 4 + 1 by omega] using h1
      · rw [List.getElem?_append_right (by simp; omega)]; simpa [show (i + 1) * 4 + 2 - 4 = i * 4 + 2 by omega] using h2
      · rw [List.getElem?_append_right (by simp; omega)]; simpa [show (i + 1) * 4 + 3 - 4 = i * 4 + 3 by omega] using h3
abbrev EvsAt (B : Nat) (w : World) (v : Value) (l : List Ev) : Prop := w.ownsRow B 60 4 v l.length (evVals l)
theorem EvsAt.open {B : Nat} {w : World} {v : Value} {l : List Ev} (h : EvsAt B w v l) : ∃ a c, v = .slice a l.length c ∧ EvsIn w a l.length l := by
  rcases h.2 with ⟨rfl, h0⟩ | ⟨g, cap, cur, rfl, _⟩
  · exact ⟨none, 0, by rw [h0], rfl, .inl h0⟩
  · refine ⟨_, _, rfl, rfl, .inr ⟨g, 0, rfl, fun i hi => ?_⟩⟩
    have hx : l[i]? = some l[i] := List.getElem?_eq_getElem hi
    obtain ⟨h0, h1, h2, h3⟩ := evVals_get l i _ hx
    have hc := World.ownsRow.cells h (g := g) rfl
    have e0 := hc _ _ h0; have e1 := hc _ _ h1; have e2 := hc _ _ h2; have e3 := hc _ _ h3
    rw [Addr.add_lit] at e0 e1 e2 e3
    exact ⟨_, hx, e0, by rw [Nat.add_assoc]; exact e1, by rw [Nat.add_assoc]; exact e2, by rw [Nat.add_assoc]; exact e3⟩
theorem infoE : (Tryz.prog.info? 60).map (fun i => (i.zero, i.size, i.bytes)) = some (some (.agg #[.int .u8 0, .int .i64 0, .int .i64 0, .int .u64 0]), 4, 32) := by kernel_rfl
theorem cutL_len (l : List Ev) (a : Int) (k : Nat) : (cutL (l.take k) a).length ≤ k := by
  unfold cutL
  have h1 := List.length_filter_le (fun x => x.a == a) (l.take k)
  have h2 : (l.take k).length ≤ k := by rw [List.length_take]; omega
  omega
end Go.Proofs.YtganmdbhmihjpaaGreat.His
/- Cut of the real side; StateOf of the document's side. -/
namespace Go.Proofs.YtganmdbhmihjpaaGreat.His
open Go.RowKit
set_option linter.unusedSimpArgs false
set_option linter.unusedVariables false
set_option maxRecDepth 50000

set_option maxHeartbeats 1600000 in
theorem cut_any (w : World) (p : Option Addr) (n c : Nat) (l : List Ev) (h : EvsIn w p n l) (hn : n ≤ 1000000) (a : Int) :
    Calls Tryz.prog 55 #[.slice p n c, .int .i64 a] w fun e w' => ∃ v, e = .returned v ∧ EvsAt w.heap.size w' v (cutL l a) ∧ Below w.heap.size w w' := by
  obtain ⟨i0, hi, hz0, hz1, hz2⟩ := info_parts infoE
  have H := Lib.hid h
  have HL := Lib.hid h.1
  clear h
  go_enter Tryz.func55, Tryz.ntmps55
  go_wp2_with fail
  go_loopw [5, 10] (fun v i wr => ∃ k : Nat, i = .int .i64 k ∧ k ≤ n ∧ EvsAt w.heap.size wr v (cutL (l.take k) a) ∧ Below w.heap.size w wr) (fun _ i _ => n - (intOf i).toNat)
  case atStart => exact ⟨0, rfl, Nat.zero_le _, World.ownsRow_nil _ _ _ _, Below.refl _ _⟩
  case round =>
    obtain ⟨k, rfl, hk, hV, hB⟩ := hrel
    have HV := Lib.hid hV; have HB := Lib.hid hB
    have hsz := hB.size
    clear hV hB
    by_cases hlt : k < n
    · obtain ⟨g, off, rfl, hc⟩ := H.out.2.resolve_left (by omega)
      obtain ⟨x, hx, c0, c1, c2, c3⟩ := hc k hlt
      replace c0 := bkeep HB.out c0; replace c1 := bkeep HB.out c1; replace c2 := bkeep HB.out c2; replace c3 := bkeep HB.out c3
      have HS := Lib.hid (show cutL (l.take (k + 1)) a = cutL (l.take k) a ++ (if x.a = a then [x] else []) by rw [take_at hx, cutL_snoc])
      have hml := cutL_len l a k
      have hw1 : IntKind.i64.wrap ((k : Int) + 1) = (k : Int) + 1 := by rw [IntKind.wrap_i64]; omega
      obtain ⟨xk, xa, xt, xv⟩ := x
      simp only at c0 c1 c2 c3
      clear hc hx
      cases f1 : (xa == a)
      · have HS2 := Lib.hid (show cutL (l.take (k + 1)) a = cutL (l.take k) a by rw [HS.out, if_neg (by simpa using f1), List.append_nil])
        go_wp2_with fail
        exact ⟨⟨k + 1, by go_num, by omega, by rw [HS2.out]; exact ownsRow_only HV.out (Only.empty (show Below wr.heap.size wr _ from by repeat (first | (with_reducible exact Below.refl _ _) | (with_reducible apply Below.drew) | (with_reducible refine below_drewN ?_ _) | (with_reducible refine below_alloc' ?_ ?_ _; (focus ((try simp) <;> omega))) | (with_reducible refine below_set' ?_ ?_ _; (focus ((try simp) <;> omega))))) (Nat.le_refl _)) (fun _ _ h => h), btrans HB.out (Nat.le_refl _) (by repeat (first | (with_reducible exact Below.refl _ _) | (with_reducible apply Below.drew) | (with_reducible refine below_drewN ?_ _) | (with_reducible refine below_alloc' ?_ ?_ _; (focus ((try simp) <;> omega))) | (with_reducible refine below_set' ?_ ?_ _; (focus ((try simp) <;> omega)))))⟩, by simp [intOf]; omega⟩
      · have HS2 := Lib.hid (show cutL (l.take (k + 1)) a = cutL (l.take k) a ++ [⟨xk, xa, xt, xv⟩] by rw [HS.out, if_pos (by simpa using f1)])
        go_wp2_with (at_builtin; refine wpList_append_own _ rfl _ _ 22 rfl w.heap.size 60 i0 (.agg #[.int .u8 0, .int .i64 0, .int .i64 0, .int .u64 0]) 4 32 Tryz.underlying22 hi hz0 hz1 hz2 rfl (by decide) _ _ (evVals (cutL (l.take k) a)) rfl (ownsRow_only HV.out (Only.empty (show Below wr.heap.size wr ((wr.alloc (.cells #[.int .u8 xk, .int .i64 xa, .int .i64 xt, .int .u64 xv] 60)).alloc (.cells #[.int .u8 xk, .int .i64 xa, .int .i64 xt, .int .u64 xv] 60)) from by repeat (first | (with_reducible exact Below.refl _ _) | (with_reducible apply Below.drew) | (with_reducible refine below_drewN ?_ _) | (with_reducible refine below_alloc' ?_ ?_ _; (focus ((try simp) <;> omega))) | (with_reducible refine below_set' ?_ ?_ _; (focus ((try simp) <;> omega))))) (Nat.le_refl _)) (fun _ _ h => h)) ⟨wr.heap.size + 1, 0, none⟩ 1 1 [.int .u8 xk, .int .i64 xa, .int .i64 xt, .int .u64 xv] rfl rfl ?_ ?_ ?_ ?_ ?_ ?_)
        rotate_right
        · intro v' w2 hown hgr _
          have hB2 : Below w.heap.size w w2 := ((HB.out.alloc hsz _).alloc (by simp; omega) _).grown hgr (by simp; omega) (fun k hk => (World.ownsRow.lt HV.out k hk).1)
          have HB2 := Lib.hid hB2
          have HP2 := Lib.hid (show EvsAt w.heap.size w2 v' (cutL (l.take (k + 1)) a) from by rw [HS2.out]; unfold EvsAt; rw [evVals_snoc, List.length_append]; exact hown)
          clear hown hgr hB2
          go_wp2_with fail
          exact ⟨⟨k + 1, by go_num, by omega, HP2.out, HB2.out⟩, by simp [intOf]; omega⟩
        all_goals (first | (intro j u hu; rw [Addr.add_lit]; have hnw := blk_cell (blk_new (wr.alloc (.cells #[.int .u8 xk, .int .i64 xa, .int .i64 xt, .int .u64 xv] 60)) (.cells #[.int .u8 xk, .int .i64 xa, .int .i64 xt, .int .u64 xv] 60)) j; rw [show (wr.alloc (.cells #[.int .u8 xk, .int .i64 xa, .int .i64 xt, .int .u64 xv] 60)).heap.size = wr.heap.size + 1 by simp] at hnw; rw [Nat.zero_add, hnw]; simpa using hu) | (simp [Value.oneCell']; done) | (unfold maxLen; omega) | omega | (simp; omega))
    · obtain rfl : k = n := by omega
      have hv := HV.out
      rw [List.take_of_length_le (by rw [HL.out]; exact Nat.le_refl _)] at hv
      have HV2 := Lib.hid hv
      clear hv
      go_wp2_with fail
      go_ret
      exact ⟨_, rfl, HV2.out, HB.out⟩
end Go.Proofs.YtganmdbhmihjpaaGreat.His
/- StateOf, on both sides. -/
namespace Go.Proofs.YtganmdbhmihjpaaGreat.His
open Go.RowKit
set_option linter.unusedSimpArgs false
set_option linter.unusedVariables false
set_option maxRecDepth 50000

set_option maxHeartbeats 1600000 in
theorem rstate_any (w : World) (p : Option Addr) (n c : Nat) (l : List Ev) (h : EvsIn w p n l) (hn : n ≤ 1000000) (a : Int) :
    Calls Tryz.prog 46 #[.slice p n c, .int .i64 a] w fun e w' => e = .returned (.int .u8 (stateL l a)) ∧ w = w' := by
  have H := Lib.hid h
  have HL := Lib.hid h.1
  have HS1 := Lib.hid (seen_any w p n c l h hn n (Nat.le_refl _) a 1)
  rw [List.take_of_length_le (by rw [h.1]; exact Nat.le_refl _)] at HS1
  obtain ⟨r, hr⟩ : ∃ r, stateL l a = r := ⟨_, rfl⟩
  have HR := Lib.hid hr
  rw [hr]
  clear h hr
  go_enter Tryz.func46, Tryz.ntmps46
  go_wp2_with fail
  refine HS1.out.mono ?_
  rintro e w1 ⟨rfl, rfl⟩
  cases hb : hasK l a 1
  · have hr : r = 0 := by rw [← HR.out]; unfold stateL; rw [hb]; rfl
    go_wp2_with fail
    go_ret
    exact ⟨by first | rfl | (rw [hr]; rfl), rfl⟩
  · have HRR := Lib.hid (show stFold (cutL l a) = r by rw [← HR.out]; unfold stateL; rw [hb]; rfl)
    clear hb
    go_wp2_with fail
    go_loopw [5, 6] (fun v i wr => ∃ k : Nat, i = .int .i64 k ∧ k ≤ n ∧ v = .int .u8 (stFold (cutL (l.take k) a)) ∧ w = wr) (fun _ i _ => n - (intOf i).toNat)
    case atStart => exact ⟨0, rfl, Nat.zero_le _, rfl, rfl⟩
    case round =>
      obtain ⟨k, rfl, hk, rfl, rfl⟩ := hrel
      by_cases hlt : k < n
      · obtain ⟨g, off, rfl, hc⟩ := H.out.2.resolve_left (by omega)
        obtain ⟨x, hx, c0, c1, c2, c3⟩ := hc k hlt
        have HS := Lib.hid (show cutL (l.take (k + 1)) a = cutL (l.take k) a ++ (if x.a = a then [x] else []) by rw [take_at hx, cutL_snoc])
        obtain ⟨xk, xa, xt, xv⟩ := x
        simp only at c0 c1 c2 c3
        clear hc hx c2 c3
        cases f1 : (xa == a)
        · have HS2 := Lib.hid (show cutL (l.take (k + 1)) a = cutL (l.take k) a by rw [HS.out, if_neg (by simpa using f1), List.append_nil])
          go_wp2_with fail
          exact ⟨⟨k + 1, by go_num, by omega, by rw [HS2.out], trivial⟩, by simp [intOf]; omega⟩
        · have HS2 := Lib.hid (show stFold (cutL (l.take (k + 1)) a) = stStep (stFold (cutL (l.take k) a)) ⟨xk, xa, xt, xv⟩ by rw [HS.out, if_pos (by simpa using f1), stFold_snoc])
          generalize stFold (cutL (l.take k) a) = s at *
          cases k7 : (xk == 7)
          · cases k8 : (xk == 8)
            · cases k9 : (xk == 9)
              · have HS3 := Lib.hid (show stFold (cutL (l.take (k + 1)) a) = s by rw [HS2.out]; unfold stStep; rw [if_neg (by simpa using k7), if_neg (by simpa using k8), if_neg (by simpa using k9)])
                go_wp2_with fail
                exact ⟨⟨k + 1, by go_num, by omega, by rw [HS3.out], trivial⟩, by simp [intOf]; omega⟩
              · have HS3 := Lib.hid (show stFold (cutL (l.take (k + 1)) a) = 4 by rw [HS2.out]; unfold stStep; rw [if_neg (by simpa using k7), if_neg (by simpa using k8), if_pos (by simpa using k9)])
                go_wp2_with fail
                exact ⟨⟨k + 1, by go_num, by omega, by rw [HS3.out], trivial⟩, by simp [intOf]; omega⟩
            · have HS3 := Lib.hid (show stFold (cutL (l.take (k + 1)) a) = 3 by rw [HS2.out]; unfold stStep; rw [if_neg (by simpa using k7), if_pos (by simpa using k8)])
              go_wp2_with fail
              exact ⟨⟨k + 1, by go_num, by omega, by rw [HS3.out], trivial⟩, by simp [intOf]; omega⟩
          · have HS3 := Lib.hid (show stFold (cutL (l.take (k + 1)) a) = 2 by rw [HS2.out]; unfold stStep; rw [if_pos (by simpa using k7)])
            go_wp2_with fail
            exact ⟨⟨k + 1, by go_num, by omega, by rw [HS3.out], trivial⟩, by simp [intOf]; omega⟩
      · obtain rfl : k = n := by omega
        have hr : r = stFold (cutL (l.take k) a) := by rw [← HRR.out, List.take_of_length_le (by rw [HL.out]; exact Nat.le_refl _)]
        go_wp2_with fail
        go_ret
        exact ⟨by first | rfl | (rw [hr]; rfl), rfl⟩
end Go.Proofs.YtganmdbhmihjpaaGreat.His
/- StateOf of the real side. -/
namespace Go.Proofs.YtganmdbhmihjpaaGreat.His
open Go.RowKit
set_option linter.unusedSimpArgs false
set_option linter.unusedVariables false
set_option maxRecDepth 50000

theorem hasK_any (l : List Ev) (a k : Int) : hasK l a k = (cutL l a).any fun x => x.k == k := by
  unfold hasK cutL
  rw [List.any_filter]
set_option maxHeartbeats 1600000 in
theorem state_any (w : World) (p : Option Addr) (n c : Nat) (l : List Ev) (h : EvsIn w p n l) (hn : n ≤ 1000000) (a : Int) :
    Calls Tryz.prog 33 #[.slice p n c, .int .i64 a] w fun e w' => e = .returned (.int .u8 (stateL l a)) ∧ Below w.heap.size w w' := by
  have HCUT := Lib.hid (cut_any w p n c l h hn a)
  have hcl : (cutL l a).length ≤ n := by
    have := cutL_len l a n
    rwa [List.take_of_length_le (by rw [h.1]; exact Nat.le_refl _)] at this
  have HST := Lib.hid (show stateL l a = if (cutL l a).any (fun x => x.k == 1) then stFold (cutL l a) else 0 by unfold stateL; rw [hasK_any])
  obtain ⟨r, hr⟩ : ∃ r, stateL l a = r := ⟨_, rfl⟩
  rw [hr] at HST ⊢
  generalize cutL l a = C at *
  obtain ⟨m, hm⟩ : ∃ m, C.length = m := ⟨_, rfl⟩
  have HM := Lib.hid hm
  rw [hm] at hcl
  clear h hr hm
  go_enter Tryz.func33, Tryz.ntmps33
  go_wp2_with fail
  refine HCUT.out.mono ?_
  rintro e w1 ⟨v, rfl, hv, l1⟩
  obtain ⟨va, vc, rfl, hin⟩ := EvsAt.open hv
  have HIN := Lib.hid hin; have L1 := Lib.hid l1
  rw [HM.out] at HIN ⊢
  clear hv l1 hin HCUT
  go_wp2_with fail
  go_loopw [5, 6, 13] (fun b s i wr => ∃ (k : Nat) (e : Bool), i = .int .i64 k ∧ b = .bool e ∧ k ≤ m ∧ s = .int .u8 (stFold (C.take k)) ∧ (C.take k).any (fun x => x.k == 1) = e ∧ Below w1.heap.size w1 wr) (fun _ _ i _ => m - (intOf i).toNat)
  case atStart => exact ⟨0, false, rfl, rfl, Nat.zero_le _, rfl, rfl, Below.refl _ _⟩
  case round =>
    obtain ⟨k, e, rfl, rfl, hk, rfl, hE, hB⟩ := hrel
    have HB := Lib.hid hB; have HE := Lib.hid hE
    clear hB hE
    by_cases hlt : k < m
    · obtain ⟨g, off, rfl, hc⟩ := HIN.out.2.resolve_left (by omega)
      obtain ⟨x, hx, c0, c1, c2, c3⟩ := hc k hlt
      replace c0 := bkeep HB.out c0; replace c1 := bkeep HB.out c1; replace c2 := bkeep HB.out c2; replace c3 := bkeep HB.out c3
      have HS := Lib.hid (show stFold (C.take (k + 1)) = stStep (stFold (C.take k)) x by rw [take_at hx, stFold_snoc])
      have HA := Lib.hid (show (C.take (k + 1)).any (fun x => x.k == 1) = (e || x.k == 1) by rw [take_at hx, List.any_append, HE.out]; simp)
      have hw1 : IntKind.i64.wrap ((k : Int) + 1) = (k : Int) + 1 := by rw [IntKind.wrap_i64]; omega
      obtain ⟨xk, xa, xt, xv⟩ := x
      simp only at c0 c1 c2 c3
      generalize stFold (C.take k) = s at *
      clear hc hx HE
      cases k1 : (xk == 1)
      · have HA2 := Lib.hid (show (C.take (k + 1)).any (fun x => x.k == 1) = e by rw [HA.out]; show (e || xk == 1) = e; rw [k1, Bool.or_false])
        cases k7 : (xk == 7)
        · cases k8 : (xk == 8)
          · cases k9 : (xk == 9)
            · have HS3 := Lib.hid (show stFold (C.take (k + 1)) = s by rw [HS.out]; unfold stStep; rw [if_neg (by simpa using k7), if_neg (by simpa using k8), if_neg (by simpa using k9)])
              go_wp2_with fail; exact ⟨⟨k + 1, e, by go_num, rfl, by omega, by rw [HS3.out], HA2.out, btrans HB.out (Nat.le_refl _) (by repeat (first | (with_reducible exact Below.refl _ _) | (with_reducible apply Below.drew) | (with_reducible refine below_drewN ?_ _) | (with_reducible refine below_alloc' ?_ ?_ _; (focus ((try simp) <;> omega))) | (with_reducible refine below_set' ?_ ?_ _; (focus ((try simp) <;> omega)))))⟩, by simp [intOf]; omega⟩
            · have HS3 := Lib.hid (show stFold (C.take (k + 1)) = 4 by rw [HS.out]; unfold stStep; rw [if_neg (by simpa using k7), if_neg (by simpa using k8), if_pos (by simpa using k9)])
              go_wp2_with fail; exact ⟨⟨k + 1, e, by go_num, rfl, by omega, by rw [HS3.out], HA2.out, btrans HB.out (Nat.le_refl _) (by repeat (first | (with_reducible exact Below.refl _ _) | (with_reducible apply Below.drew) | (with_reducible refine below_drewN ?_ _) | (with_reducible refine below_alloc' ?_ ?_ _; (focus ((try simp) <;> omega))) | (with_reducible refine below_set' ?_ ?_ _; (focus ((try simp) <;> omega)))))⟩, by simp [intOf]; omega⟩
          · have HS3 := Lib.hid (show stFold (C.take (k + 1)) = 3 by rw [HS.out]; unfold stStep; rw [if_neg (by simpa using k7), if_pos (by simpa using k8)])
            go_wp2_with fail; exact ⟨⟨k + 1, e, by go_num, rfl, by omega, by rw [HS3.out], HA2.out, btrans HB.out (Nat.le_refl _) (by repeat (first | (with_reducible exact Below.refl _ _) | (with_reducible apply Below.drew) | (with_reducible refine below_drewN ?_ _) | (with_reducible refine below_alloc' ?_ ?_ _; (focus ((try simp) <;> omega))) | (with_reducible refine below_set' ?_ ?_ _; (focus ((try simp) <;> omega)))))⟩, by simp [intOf]; omega⟩
        · have HS3 := Lib.hid (show stFold (C.take (k + 1)) = 2 by rw [HS.out]; unfold stStep; rw [if_pos (by simpa using k7)])
          go_wp2_with fail; exact ⟨⟨k + 1, e, by go_num, rfl, by omega, by rw [HS3.out], HA2.out, btrans HB.out (Nat.le_refl _) (by repeat (first | (with_reducible exact Below.refl _ _) | (with_reducible apply Below.drew) | (with_reducible refine below_drewN ?_ _) | (with_reducible refine below_alloc' ?_ ?_ _; (focus ((try simp) <;> omega))) | (with_reducible refine below_set' ?_ ?_ _; (focus ((try simp) <;> omega)))))⟩, by simp [intOf]; omega⟩
      · have HA2 := Lib.hid (show (C.take (k + 1)).any (fun x => x.k == 1) = true by rw [HA.out]; show (e || xk == 1) = true; rw [k1, Bool.or_true])
        obtain rfl : xk = 1 := by simpa using k1
        have HS3 := Lib.hid (show stFold (C.take (k + 1)) = s by rw [HS.out]; rfl)
        go_wp2_with fail; exact ⟨⟨k + 1, true, by go_num, rfl, by omega, by rw [HS3.out], HA2.out, btrans HB.out (Nat.le_refl _) (by repeat (first | (with_reducible exact Below.refl _ _) | (with_reducible apply Below.drew) | (with_reducible refine below_drewN ?_ _) | (with_reducible refine below_alloc' ?_ ?_ _; (focus ((try simp) <;> omega))) | (with_reducible refine below_set' ?_ ?_ _; (focus ((try simp) <;> omega)))))⟩, by simp [intOf]; omega⟩
    · obtain rfl : k = m := by omega
      have he := HE.out
      have hst := HST.out
      rw [List.take_of_length_le (by rw [HM.out]; exact Nat.le_refl _)] at he ⊢
      rw [he] at hst
      have HSF := Lib.hid hst
      clear hst he
      cases e
      · go_wp2_with fail
        go_ret
        exact ⟨by rw [HSF.out]; rfl, btrans L1.out (Nat.le_refl _) HB.out⟩
      · go_wp2_with fail
        go_ret
        exact ⟨by rw [HSF.out]; rfl, btrans L1.out (Nat.le_refl _) HB.out⟩
end Go.Proofs.YtganmdbhmihjpaaGreat.His
/- few; Attempts of the document's side. -/
namespace Go.Proofs.YtganmdbhmihjpaaGreat.His
open Go.RowKit
set_option linter.unusedSimpArgs false
set_option linter.unusedVariables false
set_option maxRecDepth 50000

def IntsAt (B : Nat) (w : World) (v : Value) (ts : List Int) : Prop := w.ownsRow B 3 1 v ts.length (ts.map fun t => .int .i64 t)
theorem infoI : (Tryz.prog.info? 3).map (fun i => (i.zero, i.size, i.bytes)) = some (some (.int .i64 0), 1, 8) := by kernel_rfl
theorem attL_len (l : List Ev) : ∀ acc : List Int, (l.foldl attF acc).length ≤ acc.length + l.length := by
  induction l with
  | nil => intro acc; simp
  | cons x l ih =>
    intro acc
    rw [List.foldl_cons, List.length_cons]
    have h1 := ih (attF acc x)
    have h2 : (attF acc x).length ≤ acc.length + 1 := by
      unfold attF
      split
      · simp
      · omega
    omega
set_option maxHeartbeats 1600000 in
theorem rattempts_any (w : World) (p : Option Addr) (n c : Nat) (l : List Ev) (h : EvsIn w p n l) (hn : n ≤ 1000000) :
    Calls Tryz.prog 22 #[.slice p n c] w fun e w' => ∃ v, e = .returned v ∧ IntsAt w.heap.size w' v (attL l) ∧ Below w.heap.size w w' := by
  obtain ⟨i0, hi, hz0, hz1, hz2⟩ := info_parts infoI
  have H := Lib.hid h
  have HL := Lib.hid h.1
  clear h
  go_enter Tryz.func22, Tryz.ntmps22
  go_wp2_with fail
  go_loopw [3, 4] (fun v i wr => ∃ k : Nat, i = .int .i64 k ∧ k ≤ n ∧ IntsAt w.heap.size wr v (attL (l.take k)) ∧ Below w.heap.size w wr) (fun _ i _ => n - (intOf i).toNat)
  case atStart => exact ⟨0, rfl, Nat.zero_le _, World.ownsRow_nil _ _ _ _, Below.refl _ _⟩
  case round =>
    obtain ⟨k, rfl, hk, hV, hB⟩ := hrel
    have HV := Lib.hid hV; have HB := Lib.hid hB
    have hsz := hB.size
    have HEV := Lib.hid (H.out.below hB)
    clear hV hB
    by_cases hlt : k < n
    · obtain ⟨g, off, rfl, hc⟩ := H.out.2.resolve_left (by omega)
      obtain ⟨x, hx, c0, c1, c2, c3⟩ := hc k hlt
      replace c0 := bkeep HB.out c0; replace c1 := bkeep HB.out c1
      have HS := Lib.hid (show attL (l.take (k + 1)) = attF (attL (l.take k)) x by rw [take_at hx, attL_snoc])
      have hml : (attL (l.take k)).length ≤ k := by
        have := attL_len (l.take k) []
        rw [List.length_take] at this
        simp at this
        unfold attL
        omega
      obtain ⟨xk, xa, xt, xv⟩ := x
      have HSEEN := Lib.hid (seen_any wr _ n c l HEV.out hn k hk xa 1)
      have HMEM := Lib.hid (mem_attL (l.take k) xa)
      simp only at c0 c1
      clear hc hx c2 c3
      cases f1 : (xk == 1)
      · have HS2 := Lib.hid (show attL (l.take (k + 1)) = attL (l.take k) by rw [HS.out]; unfold attF; rw [if_neg (fun hh => by have := hh.1; simp at f1; exact f1 this)])
        go_wp2_with fail
        exact ⟨⟨k + 1, by go_num, by omega, by rw [HS2.out]; exact HV.out, HB.out⟩, by simp [intOf]; omega⟩
      · have F1 := Lib.hid f1
        go_wp2_with fail
        refine HSEEN.out.mono ?_
        rintro e w5 ⟨rfl, rfl⟩
        cases hs : hasK (l.take k) xa 1
        · have HS2 := Lib.hid (show attL (l.take (k + 1)) = attL (l.take k) ++ [xa] by
            rw [HS.out]; unfold attF
            rw [if_pos ⟨by simpa using F1.out, fun hm => by rw [HMEM.out.1 hm] at hs; cases hs⟩])
          clear hs
          go_wp2_with (at_builtin; refine wpList_append_own _ rfl _ _ 24 rfl w.heap.size 3 i0 (.int .i64 0) 1 8 Tryz.underlying24 hi hz0 hz1 hz2 rfl (by decide) _ _ ((attL (l.take k)).map fun t => .int .i64 t) rfl (ownsRow_only HV.out (Only.empty (show Below wr.heap.size wr (wr.alloc (.cells #[.int .i64 xa] 3)) from by repeat (first | (with_reducible exact Below.refl _ _) | (with_reducible apply Below.drew) | (with_reducible refine below_drewN ?_ _) | (with_reducible refine below_alloc' ?_ ?_ _; (focus ((try simp) <;> omega))) | (with_reducible refine below_set' ?_ ?_ _; (focus ((try simp) <;> omega))))) (Nat.le_refl _)) (fun _ _ h => h)) ⟨wr.heap.size, 0, none⟩ 1 1 [.int .i64 xa] rfl rfl ?_ ?_ ?_ ?_ ?_ ?_)
          rotate_right
          · intro v' w2 hown hgr _
            have hB2 : Below w.heap.size w w2 := (HB.out.alloc hsz _).grown hgr (by simp; omega) (fun k hk => (World.ownsRow.lt HV.out k hk).1)
            have HB2 := Lib.hid hB2
            have HP2 := Lib.hid (show IntsAt w.heap.size w2 v' (attL (l.take (k + 1))) from by rw [HS2.out]; unfold IntsAt; rw [List.map_append, List.length_append]; exact hown)
            clear hown hgr hB2
            go_wp2_with fail
            exact ⟨⟨k + 1, by go_num, by omega, HP2.out, HB2.out⟩, by simp [intOf]; omega⟩
          all_goals (first | (intro j u hu; rw [Addr.add_lit]; have hnw := blk_cell (blk_new wr (.cells #[.int .i64 xa] 3)) j; rw [Nat.zero_add, hnw]; simpa using hu) | (simp [Value.oneCell']; done) | (unfold maxLen; omega) | omega | (simp; omega))
        · have HS2 := Lib.hid (show attL (l.take (k + 1)) = attL (l.take k) by rw [HS.out]; unfold attF; rw [if_neg (fun hh => hh.2 (HMEM.out.2 hs))])
          clear hs
          go_wp2_with fail
          exact ⟨⟨k + 1, by go_num, by omega, by rw [HS2.out]; exact HV.out, HB.out⟩, by simp [intOf]; omega⟩
    · obtain rfl : k = n := by omega
      have hv := HV.out
      rw [List.take_of_length_le (by rw [HL.out]; exact Nat.le_refl _)] at hv
      have HV2 := Lib.hid hv
      clear hv
      go_wp2_with fail
      go_ret
      exact ⟨_, rfl, HV2.out, HB.out⟩
end Go.Proofs.YtganmdbhmihjpaaGreat.His
/- Same of the document's side: events that are the same. -/
namespace Go.Proofs.YtganmdbhmihjpaaGreat.His
open Go.RowKit
set_option linter.unusedSimpArgs false
set_option linter.unusedVariables false
set_option maxRecDepth 50000

end Go.Proofs.YtganmdbhmihjpaaGreat.His
/- slices.Contains over ints. -/
namespace Go.Proofs.YtganmdbhmihjpaaGreat.His
open Go.RowKit
set_option linter.unusedSimpArgs false
set_option linter.unusedVariables false
set_option maxRecDepth 50000

def IntsIn (w : World) (a : Option Addr) (n : Nat) (ts : List Int) : Prop :=
  ts.length = n ∧ (n = 0 ∨ ∃ b off, a = some ⟨b, off, none⟩ ∧ ∀ i, i < n → w.cell? ⟨b, off + i, none⟩ = some (.int .i64 (ts.getD i 0)))
theorem IntsIn.below {w w' : World} {a : Option Addr} {n : Nat} {ts : List Int} (h : IntsIn w a n ts) (l : Below w.heap.size w w') : IntsIn w' a n ts :=
  ⟨h.1, h.2.imp id fun ⟨b, off, e, hc⟩ => ⟨b, off, e, fun i hi => bkeep l (hc i hi)⟩⟩
theorem IntsAt.open {B : Nat} {w : World} {v : Value} {ts : List Int} (h : IntsAt B w v ts) : ∃ a c, v = .slice a ts.length c ∧ IntsIn w a ts.length ts := by
  rcases h.2 with ⟨rfl, h0⟩ | ⟨g, cap, cur, rfl, _⟩
  · exact ⟨none, 0, by rw [h0], rfl, .inl h0⟩
  · refine ⟨_, _, rfl, rfl, .inr ⟨g, 0, rfl, fun i hi => ?_⟩⟩
    rw [Nat.zero_add]
    have hx : (ts.map fun t => Value.int .i64 t)[i]? = some (.int .i64 (ts.getD i 0)) := by
      rw [List.getElem?_map, List.getElem?_eq_getElem hi, List.getD_eq_getElem?_getD, List.getElem?_eq_getElem hi]; rfl
    have := World.ownsRow.cells h (g := g) rfl i _ hx
    rwa [Addr.add_lit, Nat.zero_add] at this
theorem index_any (w : World) (a : Option Addr) (n c : Nat) (ts : List Int) (x : Int) (h : IntsIn w a n ts) (hn : n ≤ 1000000) :
    Calls Tryz.prog 56 #[.slice a n c, .int .i64 x] w fun e w' => ∃ i : Int, e = .returned (.int .i64 i) ∧ decide (0 ≤ i) = decide (x ∈ ts) ∧ w = w' := by
  have H := Lib.hid h
  have HL := Lib.hid h.1
  clear h
  go_enter Tryz.func56, Tryz.ntmps56
  go_wp2_with fail
  go_loopw [8] (fun i wr => ∃ k : Nat, i = .int .i64 k ∧ k ≤ n ∧ w = wr ∧ ∀ j, j < k → ts.getD j 0 ≠ x) (fun i _ => n - (intOf i).toNat)
  case atStart => exact ⟨0, rfl, Nat.zero_le _, rfl, fun j hj => by omega⟩
  case round =>
    obtain ⟨k, rfl, hk, rfl, hno⟩ := hrel
    have HNO := Lib.hid hno
    clear hno
    by_cases hlt : k < n
    · obtain ⟨g, off, rfl, hc⟩ := H.out.2.resolve_left (by omega)
      have c0 := hc k hlt
      have hmem : ts.getD k 0 ∈ ts := by rw [List.getD_eq_getElem?_getD, List.getElem?_eq_getElem (by rw [HL.out]; exact hlt)]; exact List.getElem_mem _
      have hw1 : IntKind.i64.wrap ((k : Int) + 1) = (k : Int) + 1 := by rw [IntKind.wrap_i64]; omega
      have HMEM := Lib.hid hmem
      obtain ⟨t, ht⟩ : ∃ t, ts.getD k 0 = t := ⟨_, rfl⟩
      have HT := Lib.hid ht
      rw [ht] at c0 HMEM
      clear hc hmem ht
      cases f1 : (x == t)
      · have HNO2 := Lib.hid (show ∀ j, j < k + 1 → ts.getD j 0 ≠ x from fun j hj => by
          rcases Nat.lt_or_ge j k with h1 | h1
          · exact HNO.out j h1
          · obtain rfl : j = k := by omega
            rw [HT.out]
            intro e
            subst e
            simp at f1)
        go_wp2_with fail
        exact ⟨⟨k + 1, by go_num, by omega, trivial, HNO2.out⟩, by simp [intOf]; omega⟩
      · have hx : x ∈ ts := by have e : x = t := by simpa using f1
                               rw [e]; exact HMEM.out
        have HX := Lib.hid hx
        clear hx
        go_wp2_with fail
        go_ret
        exact ⟨k, rfl, by have := HX.out; simp [this], rfl⟩
    · obtain rfl : k = n := by omega
      have hx : ¬ x ∈ ts := by
        intro hm
        obtain ⟨j, hj⟩ := List.mem_iff_getElem?.1 hm
        have hjl := (List.getElem?_eq_some_iff.1 hj).1
        refine HNO.out j (by rw [← HL.out]; exact hjl) ?_
        rw [List.getD_eq_getElem?_getD, hj]; rfl
      have HX := Lib.hid hx
      clear hx
      go_wp2_with fail
      go_ret
      exact ⟨-1, rfl, by have := HX.out; simp [this], rfl⟩
theorem contains_any (w : World) (a : Option Addr) (n c : Nat) (ts : List Int) (x : Int) (h : IntsIn w a n ts) (hn : n ≤ 1000000) :
    Calls Tryz.prog 34 #[.slice a n c, .int .i64 x] w fun e w' => e = .returned (.bool (decide (x ∈ ts))) ∧ w = w' := by
  have HI := Lib.hid (index_any w a n c ts x h hn)
  clear h
  go_enter Tryz.func34, Tryz.ntmps34
  go_wp2_with fail
  refine HI.out.mono ?_
  rintro e w1 ⟨i, rfl, hd, rfl⟩
  have HD := Lib.hid hd
  clear hd
  go_wp2_with fail
  go_ret
  exact ⟨by rw [← HD.out]; rfl, rfl⟩
end Go.Proofs.YtganmdbhmihjpaaGreat.His
/- Attempts of the real side. -/
namespace Go.Proofs.YtganmdbhmihjpaaGreat.His
open Go.RowKit
set_option linter.unusedSimpArgs false
set_option linter.unusedVariables false
set_option maxRecDepth 50000

set_option maxHeartbeats 1600000 in
theorem attempts_any (w : World) (p : Option Addr) (n c : Nat) (l : List Ev) (h : EvsIn w p n l) (hn : n ≤ 1000000) :
    Calls Tryz.prog 36 #[.slice p n c] w fun e w' => ∃ v, e = .returned v ∧ IntsAt w.heap.size w' v (attL l) ∧ Below w.heap.size w w' := by
  obtain ⟨i0, hi, hz0, hz1, hz2⟩ := info_parts infoI
  have H := Lib.hid h
  have HL := Lib.hid h.1
  clear h
  go_enter Tryz.func36, Tryz.ntmps36
  go_wp2_with fail
  go_loopw [3, 8] (fun v i wr => ∃ k : Nat, i = .int .i64 k ∧ k ≤ n ∧ IntsAt w.heap.size wr v (attL (l.take k)) ∧ Below w.heap.size w wr) (fun _ i _ => n - (intOf i).toNat)
  case atStart => exact ⟨0, rfl, Nat.zero_le _, World.ownsRow_nil _ _ _ _, Below.refl _ _⟩
  case round =>
    obtain ⟨k, rfl, hk, hV, hB⟩ := hrel
    have HV := Lib.hid hV; have HB := Lib.hid hB
    have hsz := hB.size
    clear hV hB
    by_cases hlt : k < n
    · obtain ⟨g, off, rfl, hc⟩ := H.out.2.resolve_left (by omega)
      obtain ⟨x, hx, c0, c1, c2, c3⟩ := hc k hlt
      replace c0 := bkeep HB.out c0; replace c1 := bkeep HB.out c1; replace c2 := bkeep HB.out c2; replace c3 := bkeep HB.out c3
      have HS := Lib.hid (show attL (l.take (k + 1)) = attF (attL (l.take k)) x by rw [take_at hx, attL_snoc])
      have hml : (attL (l.take k)).length ≤ k := by
        have := attL_len (l.take k) []
        rw [List.length_take] at this
        simp at this
        unfold attL
        omega
      have hw1 : IntKind.i64.wrap ((k : Int) + 1) = (k : Int) + 1 := by rw [IntKind.wrap_i64]; omega
      obtain ⟨xk, xa, xt, xv⟩ := x
      simp only at c0 c1 c2 c3
      clear hc hx
      have lX : Below wr.heap.size wr (wr.alloc (.cells #[.int .u8 xk, .int .i64 xa, .int .i64 xt, .int .u64 xv] 60)) := by repeat (first | (with_reducible exact Below.refl _ _) | (with_reducible apply Below.drew) | (with_reducible refine below_drewN ?_ _) | (with_reducible refine below_alloc' ?_ ?_ _; (focus ((try simp) <;> omega))) | (with_reducible refine below_set' ?_ ?_ _; (focus ((try simp) <;> omega))))
      have HVX := Lib.hid (ownsRow_only HV.out (Only.empty lX (Nat.le_refl _)) (fun _ _ h => h))
      have HBX := Lib.hid (btrans HB.out (Nat.le_refl _) lX)
      clear lX
      cases f1 : (xk == 1)
      · have HS2 := Lib.hid (show attL (l.take (k + 1)) = attL (l.take k) by rw [HS.out]; unfold attF; rw [if_neg (fun hh => by have := hh.1; simp at f1; exact f1 this)])
        go_wp2_with fail
        exact ⟨⟨k + 1, by go_num, by omega, by rw [HS2.out]; exact HVX.out, HBX.out⟩, by simp [intOf]; omega⟩
      · have F1 := Lib.hid f1
        obtain ⟨va, vc, rfl, hin⟩ := IntsAt.open HVX.out
        have HC := Lib.hid (contains_any _ va _ vc _ xa hin (by omega))
        clear hin
        go_wp2_with fail
        refine HC.out.mono ?_
        rintro e w5 ⟨rfl, rfl⟩
        cases hs : decide (xa ∈ attL (l.take k))
        · have HS2 := Lib.hid (show attL (l.take (k + 1)) = attL (l.take k) ++ [xa] by
            rw [HS.out]; unfold attF
            rw [if_pos ⟨by simpa using F1.out, by simpa using hs⟩])
          clear hs
          go_wp2_with (at_builtin; refine wpList_append_own _ rfl _ _ 24 rfl w.heap.size 3 i0 (.int .i64 0) 1 8 Tryz.underlying24 hi hz0 hz1 hz2 rfl (by decide) _ _ ((attL (l.take k)).map fun t => .int .i64 t) rfl (ownsRow_only HVX.out (Only.empty (show Below (wr.alloc (.cells #[.int .u8 xk, .int .i64 xa, .int .i64 xt, .int .u64 xv] 60)).heap.size (wr.alloc (.cells #[.int .u8 xk, .int .i64 xa, .int .i64 xt, .int .u64 xv] 60)) ((wr.alloc (.cells #[.int .u8 xk, .int .i64 xa, .int .i64 xt, .int .u64 xv] 60)).alloc (.cells #[.int .i64 xa] 3)) from by repeat (first | (with_reducible exact Below.refl _ _) | (with_reducible apply Below.drew) | (with_reducible refine below_drewN ?_ _) | (with_reducible refine below_alloc' ?_ ?_ _; (focus ((try simp) <;> omega))) | (with_reducible refine below_set' ?_ ?_ _; (focus ((try simp) <;> omega))))) (Nat.le_refl _)) (fun _ _ h => h)) ⟨wr.heap.size + 1, 0, none⟩ 1 1 [.int .i64 xa] rfl rfl ?_ ?_ ?_ ?_ ?_ ?_)
          rotate_right
          · intro v' w2 hown hgr _
            have hB2 : Below w.heap.size w w2 := (HBX.out.alloc HBX.out.size _).grown hgr (by simp; omega) (fun k hk => (World.ownsRow.lt HVX.out k hk).1)
            have HB2 := Lib.hid hB2
            have HP2 := Lib.hid (show IntsAt w.heap.size w2 v' (attL (l.take (k + 1))) from by rw [HS2.out]; unfold IntsAt; rw [List.map_append, List.length_append]; exact hown)
            clear hown hgr hB2
            go_wp2_with fail
            exact ⟨⟨k + 1, by go_num, by omega, HP2.out, HB2.out⟩, by simp [intOf]; omega⟩
          all_goals (first | (intro j u hu; rw [Addr.add_lit]; have hnw := blk_cell (blk_new (wr.alloc (.cells #[.int .u8 xk, .int .i64 xa, .int .i64 xt, .int .u64 xv] 60)) (.cells #[.int .i64 xa] 3)) j; rw [show (wr.alloc (.cells #[.int .u8 xk, .int .i64 xa, .int .i64 xt, .int .u64 xv] 60)).heap.size = wr.heap.size + 1 by simp] at hnw; rw [Nat.zero_add, hnw]; simpa using hu) | (simp [Value.oneCell']; done) | (unfold maxLen; omega) | omega | (simp; omega))
        · have HS2 := Lib.hid (show attL (l.take (k + 1)) = attL (l.take k) by rw [HS.out]; unfold attF; rw [if_neg (fun hh => hh.2 (by simpa using hs))])
          clear hs
          go_wp2_with fail
          exact ⟨⟨k + 1, by go_num, by omega, by rw [HS2.out]; exact HVX.out, HBX.out⟩, by simp [intOf]; omega⟩
    · obtain rfl : k = n := by omega
      have hv := HV.out
      rw [List.take_of_length_le (by rw [HL.out]; exact Nat.le_refl _)] at hv
      have HV2 := Lib.hid hv
      clear hv
      go_wp2_with fail
      go_ret
      exact ⟨_, rfl, HV2.out, HB.out⟩
end Go.Proofs.YtganmdbhmihjpaaGreat.His
/- Right events, in plain words: how far an attempt is, and what one more event leaves. -/
namespace Go.Proofs.YtganmdbhmihjpaaGreat.His
open Go.RowKit Go.Proofs.YtganmdbhmihjpaaGreat.Wri
set_option linter.unusedSimpArgs false
set_option linter.unusedVariables false
set_option maxRecDepth 50000

/-- an attempt, as far as it is -/
structure Att where
  fs : List Frm
  tried : Bool
  ended : Bool
def actN (fs : List Frm) (x : Ev) : Int := if x.k = 3 then putN fs x.t x.v else if x.k = 4 then pushN fs else if x.k = 5 then dropN fs else if x.k = 6 then dropN fs else 0
def actS (fs : List Frm) (x : Ev) : List Frm := if x.k = 3 then putS fs x.t x.v else if x.k = 4 then pushS fs else if x.k = 5 then dropS fs else if x.k = 6 then mergeS fs else fs
theorem _root_.Go.Proofs.YtganmdbhmihjpaaGreat.Wri.WellS.act {fs : List Frm} (h : WellS fs) (x : Ev) : WellS (actS fs x) := by
  unfold actS
  split
  · exact h.put _ _
  split
  · exact h.push
  split
  · exact h.drop
  split
  · exact h.merge
  · exact h
def bareE (x : Ev) : Bool := x.t == 0 && x.v == 0
def stepA (o : Option Att) (x : Ev) : Option Att :=
  if ¬ (0 ≤ x.a ∧ x.a < 64) then none
  else if x.k = 1 then (match o with | none => if bareE x then some ⟨[[]], false, false⟩ else none | some _ => none)
  else match o with
    | none => none
    | some a =>
      if a.ended then none
      else if x.k = 8 then (if a.tried && bareE x then some ⟨a.fs, a.tried, true⟩ else none)
      else if x.k = 9 then (if bareE x then some ⟨a.fs, a.tried, true⟩ else none)
      else if a.tried then none
      else if x.k = 2 then (if okT x.t ∧ rightVal x.v = true then some a else none)
      else if x.k = 3 then (if actN a.fs x = 0 then some ⟨actS a.fs x, false, false⟩ else none)
      else if x.k = 4 ∨ x.k = 5 ∨ x.k = 6 then (if bareE x = true ∧ actN a.fs x = 0 then some ⟨actS a.fs x, false, false⟩ else none)
      else if x.k = 7 then (if bareE x = true ∧ a.fs.length = 1 then some ⟨a.fs, true, false⟩ else none)
      else none
/-- an attempt's own log behind events -/
def ownL (l : List Ev) (n : Int) : List Frm := (cutL l n).foldl actS [[]]
theorem WellS.one : WellS [[]] := ⟨fun f hf => by simp at hf; subst hf; exact GoodF.nil, by simp [lenF]⟩
theorem foldl_well : ∀ (l : List Ev) (fs : List Frm), WellS fs → WellS (l.foldl actS fs)
  | [], _, h => h
  | x :: l, fs, h => foldl_well l _ (h.act x)
theorem ownL_well (l : List Ev) (n : Int) : WellS (ownL l n) := foldl_well _ _ WellS.one
theorem ownL_snoc (l : List Ev) (x : Ev) (n : Int) : ownL (l ++ [x]) n = if x.a = n then actS (ownL l n) x else ownL l n := by
  unfold ownL
  rw [cutL_snoc]
  split <;> simp
theorem ownL_cut (l : List Ev) (n : Int) : ownL (cutL l n) n = ownL l n := by
  unfold ownL
  rw [cutL_cut]
/-- what an attempt is behind right events -/
def stA (l : List Ev) (n : Int) : Option Att := if hasK l n 1 then some ⟨ownL l n, hasK l n 7, endedL l n⟩ else none
theorem endedL_cut (l : List Ev) (n : Int) : endedL (cutL l n) n = endedL l n := by
  unfold endedL
  rw [hasK_cut, hasK_cut]
theorem stA_cut (l : List Ev) (n : Int) : stA (cutL l n) n = stA l n := by
  unfold stA
  rw [hasK_cut, hasK_cut, ownL_cut, endedL_cut]
/-- right events: each can be, behind those ahead -/
def Good (l : List Ev) : Prop := ∀ (i : Nat) (x : Ev), l[i]? = some x → (stepA (stA (l.take i) x.a) x).isSome = true
def goodFrom (p : List Ev) : List Ev → Bool
  | [] => true
  | x :: l => (stepA (stA p x.a) x).isSome && goodFrom (p ++ [x]) l
def goodL (l : List Ev) : Bool := goodFrom [] l
theorem goodFrom_iff : ∀ (l p : List Ev), goodFrom p l = true ↔ ∀ (i : Nat) (x : Ev), l[i]? = some x → (stepA (stA (p ++ l.take i) x.a) x).isSome = true := by
  intro l
  induction l with
  | nil => intro p; simp [goodFrom]
  | cons y l ih =>
    intro p
    unfold goodFrom
    rw [Bool.and_eq_true, ih]
    constructor
    · rintro ⟨h1, h2⟩ i x hx
      cases i with
      | zero =>
        simp at hx
        subst hx
        simpa using h1
      | succ i =>
        have := h2 i x (by simpa using hx)
        rw [List.take_succ_cons]
        simpa using this
    · intro h
      refine ⟨by simpa using h 0 y rfl, fun i x hx => ?_⟩
      have := h (i + 1) x (by simpa using hx)
      rw [List.take_succ_cons] at this
      simpa using this
theorem goodL_iff (l : List Ev) : goodL l = true ↔ Good l := by
  unfold goodL
  rw [goodFrom_iff]
  simp [Good]
theorem Good.take {l : List Ev} (h : Good l) (k : Nat) : Good (l.take k) := by
  intro i x hx
  rw [List.getElem?_take] at hx
  split at hx
  · rename_i hi
    have := h i x hx
    rw [List.take_take, Nat.min_eq_left (by omega)]
    exact this
  · cases hx
theorem Good.snoc {l : List Ev} {x : Ev} (h : Good (l ++ [x])) : Good l ∧ (stepA (stA l x.a) x).isSome = true := by
  constructor
  · have := h.take l.length
    rwa [List.take_left] at this
  · have := h l.length x (by simp)
    rwa [List.take_left] at this
theorem good_snoc {l : List Ev} {x : Ev} (h : Good l) (hx : (stepA (stA l x.a) x).isSome = true) : Good (l ++ [x]) := by
  intro i y hy
  rcases Nat.lt_trichotomy i l.length with h1 | h1 | h1
  · rw [List.getElem?_append_left h1] at hy
    rw [List.take_append_of_le_length (by omega)]
    exact h i y hy
  · subst h1
    simp at hy
    subst hy
    rw [List.take_left]
    exact hx
  · rw [List.getElem?_eq_none (by simp; omega)] at hy
    cases hy
theorem snocInd {C : List Ev → Prop} (h0 : C []) (h1 : ∀ l x, C l → C (l ++ [x])) : ∀ l, C l := by
  intro l
  have : ∀ r : List Ev, C r.reverse := by
    intro r
    induction r with
    | nil => exact h0
    | cons x r ih => rw [List.reverse_cons]; exact h1 _ _ ih
  have := this l.reverse
  rwa [List.reverse_reverse] at this
/-- what a step asks -/
theorem stepA_k1 {o : Option Att} {x : Ev} (hk : x.k = 1) (h : (stepA o x).isSome = true) : o = none ∧ stepA o x = some ⟨[[]], false, false⟩ := by
  unfold stepA at h ⊢
  split at h
  · cases h
  · rename_i ha
    try rw [if_neg ha]
    try rw [if_pos hk]
    try rw [if_pos hk] at h
    cases o with
    | none =>
      simp only at h ⊢
      split at h
      · rename_i hb
        rw [if_pos hb]
        simp
      · cases h
    | some a => cases h
theorem stepA_none {x : Ev} (hk : x.k ≠ 1) : stepA none x = none := by
  unfold stepA
  split
  · rfl
  · first | rfl | (rw [if_neg hk])
theorem stepA_other {o : Option Att} {x : Ev} (hk : x.k ≠ 1) (h : (stepA o x).isSome = true) : ∃ a, o = some a ∧ a.ended = false ∧ stepA o x = some ⟨actS a.fs x, a.tried || x.k == 7, x.k == 8 || x.k == 9⟩ := by
  cases o with
  | none => rw [stepA_none hk] at h; cases h
  | some a =>
    refine ⟨a, rfl, ?_⟩
    obtain ⟨fs, tr, en⟩ := a
    unfold stepA at h ⊢
    split at h
    · cases h
    rename_i ha
    rw [if_neg ha, if_neg hk]
    try rw [if_neg hk] at h
    simp only at h ⊢
    cases en
    case true => cases h
    simp only [Bool.false_eq_true, if_false] at h ⊢
    refine ⟨trivial, ?_⟩
    unfold actS
    by_cases h8 : x.k = 8
    · rw [if_pos h8] at h ⊢
      split at h
      · rename_i hb
        rw [if_pos hb]
        simp [h8]
      · cases h
    rw [if_neg h8] at h ⊢
    by_cases h9 : x.k = 9
    · rw [if_pos h9] at h ⊢
      split at h
      · rename_i hb
        rw [if_pos hb]
        simp [h9]
      · cases h
    rw [if_neg h9] at h ⊢
    cases tr
    case true => cases h
    simp only [Bool.false_eq_true, if_false] at h ⊢
    by_cases h2 : x.k = 2
    · rw [if_pos h2] at h ⊢
      split at h
      · rename_i hb
        rw [if_pos hb]
        simp [h2]
      · cases h
    rw [if_neg h2] at h ⊢
    by_cases h3 : x.k = 3
    · rw [if_pos h3] at h ⊢
      split at h
      · rename_i hb
        rw [if_pos hb]
        simp [h3]
      · cases h
    rw [if_neg h3] at h ⊢
    by_cases h4 : x.k = 4 ∨ x.k = 5 ∨ x.k = 6
    · rw [if_pos h4] at h ⊢
      split at h
      · rename_i hb
        rw [if_pos hb]
        rcases h4 with h4 | h4 | h4 <;> simp [h4]
      · cases h
    rw [if_neg h4] at h ⊢
    split at h
    · rename_i h7
      rw [if_pos h7]
      split at h
      · rename_i hb
        rw [if_pos hb]
        simp [h7]
      · cases h
    · cases h
/-- who did not begin has no event -/
theorem Good.none_cut {l : List Ev} (h : Good l) {n : Int} (hn : hasK l n 1 = false) : cutL l n = [] := by
  induction l using snocInd with
  | h0 => rfl
  | h1 l x ih =>
    obtain ⟨g1, g2⟩ := h.snoc
    rw [hasK_snoc] at hn
    simp only [Bool.or_eq_false_iff] at hn
    rw [cutL_snoc, ih g1 hn.1, List.nil_append]
    split
    · rename_i ha
      subst ha
      have hk : x.k ≠ 1 := by
        have := hn.2
        simpa using this
      rw [show stA l x.a = none by unfold stA; rw [hn.1]; rfl, stepA_none hk] at g2
      cases g2
    · rfl
theorem cutL_hasK {l : List Ev} {n : Int} (h : cutL l n = []) (k : Int) : hasK l n k = false := by
  rw [← hasK_cut, h]
  rfl
/-- one more -/
theorem stA_step {l : List Ev} {x : Ev} (h : Good l) (hx : (stepA (stA l x.a) x).isSome = true) (n : Int) : stA (l ++ [x]) n = if n = x.a then stepA (stA l x.a) x else stA l n := by
  by_cases hn : n = x.a
  · rw [if_pos hn]
    subst hn
    by_cases hk : x.k = 1
    · obtain ⟨h1, h2⟩ := stepA_k1 hk hx
      have hb : hasK l x.a 1 = false := by
        unfold stA at h1
        split at h1
        · cases h1
        · rename_i hh; simpa using hh
      have hc := h.none_cut hb
      rw [h2]
      unfold stA
      rw [hasK_snoc, hk, ownL_snoc, if_pos rfl, hasK_snoc, endedL_snoc]
      have e7 := cutL_hasK hc 7
      have e8 := cutL_hasK hc 8
      have e9 := cutL_hasK hc 9
      unfold endedL ownL
      rw [e7, e8, e9, hc, hk]
      simp [actS, hk]
    · obtain ⟨a, h1, h2, h3⟩ := stepA_other hk hx
      have hb : hasK l x.a 1 = true := by
        unfold stA at h1
        split at h1
        · assumption
        · cases h1
      have h1' := h1
      unfold stA at h1'
      rw [if_pos hb] at h1'
      injection h1' with h1'
      rw [h3]
      unfold stA
      rw [hasK_snoc, hb, ownL_snoc, if_pos rfl, hasK_snoc, endedL_snoc]
      subst h1'
      simp only at h2 ⊢
      rw [h2]
      simp
  · rw [if_neg hn]
    have hn' : ¬ x.a = n := fun e => hn e.symm
    unfold stA
    have hb : (x.a == n) = false := by simpa using hn'
    rw [hasK_snoc, ownL_snoc, if_neg hn', hasK_snoc, endedL_snoc, hb]
    simp only [Bool.false_and, Bool.or_false]
theorem stA_nil (n : Int) : stA [] n = none := rfl
theorem Good.well {l : List Ev} (h : Good l) : Well l := by
  intro i x hx
  have := h i x hx
  refine ⟨fun hk => ?_, fun hk => ?_⟩
  · obtain ⟨h1, _⟩ := stepA_k1 hk this
    unfold stA at h1
    split at h1
    · cases h1
    · rename_i hh; simpa using hh
  · obtain ⟨a, h1, _, _⟩ := stepA_other hk this
    unfold stA at h1
    split at h1
    · assumption
    · cases h1
theorem Good.done {l : List Ev} (h : Good l) : Done l := by
  intro i x hx
  have hs := h i x hx
  by_cases hk : x.k = 1
  · obtain ⟨h1, _⟩ := stepA_k1 hk hs
    have hb : hasK (l.take i) x.a 1 = false := by
      unfold stA at h1
      split at h1
      · cases h1
      · rename_i hh; simpa using hh
    have hc := (h.take i).none_cut hb
    unfold endedL
    rw [cutL_hasK hc 8, cutL_hasK hc 9]
    rfl
  · obtain ⟨a, h1, h2, _⟩ := stepA_other hk hs
    unfold stA at h1
    split at h1
    · injection h1 with h1
      subst h1
      exact h2
    · cases h1
/-- one attempt's events are right -/
theorem Good.cut {l : List Ev} (h : Good l) (n : Int) : Good (cutL l n) := by
  induction l using snocInd with
  | h0 => intro i x hx; simp [cutL] at hx
  | h1 l x ih =>
    obtain ⟨g1, g2⟩ := h.snoc
    rw [cutL_snoc]
    split
    · rename_i ha
      refine good_snoc (ih g1) ?_
      subst ha
      rw [stA_cut]
      exact g2
    · rw [List.append_nil]
      exact ih g1
end Go.Proofs.YtganmdbhmihjpaaGreat.His
/- The real side: what gives up, and an event on an attempt's own log. -/
namespace Go.Proofs.YtganmdbhmihjpaaGreat.His
open Go.RowKit Go.Proofs.YtganmdbhmihjpaaGreat.Wri
set_option linter.unusedSimpArgs false
set_option linter.unusedVariables false
set_option maxRecDepth 50000

abbrev evV (x : Ev) : Value := .agg #[.int .u8 x.k, .int .i64 x.a, .int .i64 x.t, .int .u64 x.v]
abbrev wrongP : List PanicEntry := [{ v := .iface 84 (.agg #[]), recovered := false }]
theorem need_yes (w : World) : Calls Tryz.prog 74 #[.bool true] w fun e w' => e = .returned (.tuple #[]) ∧ w = w' := by
  go_enter Tryz.func74, Tryz.ntmps74
  go_wp2_with fail
  exact bodyPost_end (results_none rfl _ _ _) rfl ⟨rfl, rfl⟩
theorem need_no (w : World) : Calls Tryz.prog 74 #[.bool false] w fun e w' => e = .panicked wrongP ∧ w = w' := by
  go_enter Tryz.func74, Tryz.ntmps74
  go_wp2_with fail
  exact ⟨rfl, rfl, rfl⟩
theorem bare_any (w : World) (x : Ev) : Calls Tryz.prog 75 #[evV x] w fun e w' => e = .returned (.bool (bareE x)) ∧ Below w.heap.size w w' := by
  unfold bareE
  obtain ⟨xk, xa, xt, xv⟩ := x
  simp only at *
  cases e1 : (xt == 0) <;> cases e2 : (xv == 0)
  all_goals
    go_enter Tryz.func75, Tryz.ntmps75
    go_wp2_with fail
    go_ret
    exact ⟨rfl, by repeat (first | (with_reducible exact Below.refl _ _) | (with_reducible apply Below.drew) | (with_reducible refine below_drewN ?_ _) | (with_reducible refine below_alloc' ?_ ?_ _; (focus ((try simp) <;> omega))) | (with_reducible refine below_set' ?_ ?_ _; (focus ((try simp) <;> omega))))⟩
/-- an attempt in memory -/
structure AttAt (w : World) (p q : Nat) (a : Att) : Prop where
  blk : w.heap[p]? = some (.cells #[ptr q, .bool a.tried, .bool a.ended] 109 (0, 0))
  log : LAt w q a.fs
  well : WellS a.fs
theorem LAt.blk {w : World} {q : Nat} {fs : List Frm} (h : LAt w q fs) : ∃ cs, w.heap[q]? = some (.cells cs 123 (0, 0)) := by
  obtain ⟨xs, _, o, h, _⟩ := h
  exact ⟨_, h⟩
theorem AttAt.below {w w' : World} {p q : Nat} {a : Att} (h : AttAt w p q a) (l : Below w.heap.size w w') : AttAt w' p q a := ⟨bblk l h.blk, h.log.below l, h.well⟩
theorem AttAt.ne {w : World} {p q p' q' : Nat} {a a' : Att} (h : AttAt w p q a) (k : AttAt w p' q' a') : p ≠ q' := by
  rintro rfl
  obtain ⟨cs, hq⟩ := LAt.blk k.log
  rw [h.blk] at hq
  injection hq with hq
  injection hq with _ hq _
  revert hq
  decide
theorem AttAt.strange {w w' : World} {S : Nat → Prop} {p q : Nat} {a : Att} (h : AttAt w p q a) (ho : Only S w w') (hs : Strange w S) (hp : ¬ S p) (hq : ¬ S q) : AttAt w' p q a := ⟨ho.blk h.blk hp, h.log.strange ho hs hq, h.well⟩
theorem AttAt.odd {w : World} {p q : Nat} {a : Att} (h : AttAt w p q a) : Strange w (fun k => k = p ∨ k = q) := fun k hk => by
  rcases hk with rfl | rfl
  · exact .inr ⟨_, _, _, h.blk, by decide, by decide, by decide⟩
  · exact h.log.odd _ rfl
def ActPost (w : World) (p q : Nat) (a : Att) (x : Ev) (e : Ending) (w' : World) : Prop :=
  e = .returned (.int .i64 (actN a.fs x)) ∧ AttAt w' p q ⟨actS a.fs x, a.tried, a.ended⟩ ∧ Only (fun k => k = q) w w'
theorem ActPost.of {w W w1 : World} {p q : Nat} {a : Att} {x : Ev} {n : Int} {fs : List Frm} (h : AttAt W p q a) (lW : Below w.heap.size w W) (hn : actN a.fs x = n) (hf : actS a.fs x = fs) (o : Only (fun k => k = q) W w1) (m : LAt w1 q fs) : ActPost w p q a x (.returned (.int .i64 n)) w1 := by
  subst hn hf
  refine ⟨rfl, ⟨o.blk h.blk (h.ne h), m, WellS.act h.well x⟩, (Only.of_below lW (fun k hk e => ?_)).trans o⟩
  omega
set_option maxHeartbeats 1600000 in
theorem hact_any (w : World) (p q : Nat) (a : Att) (x : Ev) (h : AttAt w p q a) (hv : 0 ≤ x.v ∧ x.v < 18446744073709551616) :
    Calls Tryz.prog 77 #[ptr p, evV x] w (ActPost w p q a x) := by
  have hplt := blk_lt h.blk
  obtain ⟨xk, xa, xt, xv⟩ := x
  simp only at hv
  obtain ⟨W, hWdef⟩ : ∃ W, w.alloc (.cells #[.int .u8 xk, .int .i64 xa, .int .i64 xt, .int .u64 xv] 60) = W := ⟨_, rfl⟩; have lW : Below w.heap.size w W := by rw [← hWdef]; repeat (first | (with_reducible exact Below.refl _ _) | (with_reducible apply Below.drew) | (with_reducible refine below_drewN ?_ _) | (with_reducible refine below_alloc' ?_ ?_ _; (focus ((try simp) <;> omega))) | (with_reducible refine below_set' ?_ ?_ _; (focus ((try simp) <;> omega))))
  have hW := h.below lW
  have p0 := blk_cell hW.blk 0
  simp only [List.getElem?_toArray, List.getElem?_cons_zero] at p0
  have c0 : W.cell? ⟨w.heap.size, 0, none⟩ = some (.int .u8 xk) := by rw [← hWdef]; simp
  have c2 : W.cell? ⟨w.heap.size, 2, none⟩ = some (.int .i64 xt) := by rw [← hWdef]; simp
  have c3 : W.cell? ⟨w.heap.size, 3, none⟩ = some (.int .u64 xv) := by rw [← hWdef]; simp
  have HW := Lib.hid hW; have LW := Lib.hid lW; have HV := Lib.hid hv; have HWD := Lib.hid hWdef
  have HWd := Lib.hid (h.below lW.drew)
  have LWd := Lib.hid (show Below w.heap.size w W.drew from lW.drew)
  have hpq : p ≠ q := h.ne h
  have hqlt : q < w.heap.size := by obtain ⟨cs, hc⟩ := LAt.blk h.log; exact blk_lt hc
  have p0w := blk_cell h.blk 0
  simp only [List.getElem?_toArray, List.getElem?_cons_zero] at p0w
  have hpn : ¬ p = w.heap.size := by omega
  clear h hW lW hv hWdef
  by_cases h3 : xk = 3
  · subst h3
    have KO := Lib.hid (show ∀ w', Only (fun j => j = q) W.drew w' → w'.cell? ⟨p, 0, none⟩ = some (ptr q) ∧ w'.cell? ⟨w.heap.size, 2, none⟩ = some (.int .i64 xt) ∧ w'.cell? ⟨w.heap.size, 3, none⟩ = some (.int .u64 xv) from fun w' h => ⟨h.cell (w := W.drew) p0 (by show ¬ p = q; omega), h.cell (w := W.drew) c2 (by show ¬ w.heap.size = q; omega), h.cell (w := W.drew) c3 (by show ¬ w.heap.size = q; omega)⟩)
    have hS0 := KO.out W.drew (Only.refl _ _)
    go_enter Tryz.func77, Tryz.ntmps77
    go_wp2_with fail
    rw [HWD.out]
    go_wp2_with fail
    go_region_held3 (fun w' => w'.cell? ⟨p, 0, none⟩ = some (ptr q) ∧ w'.cell? ⟨w.heap.size, 2, none⟩ = some (.int .i64 xt) ∧ w'.cell? ⟨w.heap.size, 3, none⟩ = some (.int .u64 xv)) (first | (with_reducible exact hS0) | (with_reducible exact QB)) ((go_at_call 89; (with_reducible refine Calls.mono (lput_p HWd.out.log HWd.out.well xt xv HV.out) ?_); rintro e w4 ⟨rfl, o4, m4⟩; have QB := KO.out w4 o4))
    have HF := Lib.hid (ActPost.of (x := ⟨3, xa, xt, xv⟩) HWd.out LWd.out rfl rfl o4 m4)
    clear QB o4 m4 hS0 p0 c2 c3
    have HN := Lib.hid (show actN a.fs ⟨3, xa, xt, xv⟩ = putN a.fs xt xv from rfl)
    go_wp2_with fail
    go_ret
    exact HF.out
  have q3 : (xk == 3) = false := by simpa using h3
  by_cases h4 : xk = 4
  · subst h4
    go_enter Tryz.func77, Tryz.ntmps77; go_wp2_with fail; rw [HWD.out]; (try go_wp2_with fail); refine (lpush_p HW.out.log).mono ?_; rintro e w4 ⟨rfl, o4, m4⟩; have HF := Lib.hid (ActPost.of (x := ⟨4, xa, xt, xv⟩) HW.out LW.out rfl rfl o4 m4); clear o4 m4; go_wp2_with fail; go_ret; exact HF.out
  have q4 : (xk == 4) = false := by simpa using h4
  by_cases h5 : xk = 5
  · subst h5
    go_enter Tryz.func77, Tryz.ntmps77; go_wp2_with fail; rw [HWD.out]; (try go_wp2_with fail); refine (ldrop_p HW.out.log).mono ?_; rintro e w4 ⟨rfl, o4, m4⟩; have HF := Lib.hid (ActPost.of (x := ⟨5, xa, xt, xv⟩) HW.out LW.out rfl rfl o4 m4); clear o4 m4; go_wp2_with fail; go_ret; exact HF.out
  have q5 : (xk == 5) = false := by simpa using h5
  by_cases h6 : xk = 6
  · subst h6
    go_enter Tryz.func77, Tryz.ntmps77; go_wp2_with fail; rw [HWD.out]; (try go_wp2_with fail); refine (lmerge_p HW.out.log HW.out.well).mono ?_; rintro e w4 ⟨rfl, o4, m4⟩; have HF := Lib.hid (ActPost.of (x := ⟨6, xa, xt, xv⟩) HW.out LW.out rfl rfl o4 m4); clear o4 m4; go_wp2_with fail; go_ret; exact HF.out
  have q6 : (xk == 6) = false := by simpa using h6
  have HF := Lib.hid (ActPost.of (x := ⟨xk, xa, xt, xv⟩) (n := 0) (fs := a.fs) HW.out LW.out (by simp [actN, h3, h4, h5, h6]) (by simp [actS, h3, h4, h5, h6]) (Only.refl _ _) HW.out.log)
  clear h3 h4 h5 h6
  go_enter Tryz.func77, Tryz.ntmps77
  go_wp2_with fail
  go_ret
  rw [HWD.out]
  exact HF.out
end Go.Proofs.YtganmdbhmihjpaaGreat.His
/- The real side: one event more, of all attempts. -/
namespace Go.Proofs.YtganmdbhmihjpaaGreat.His
open Go.RowKit Go.Proofs.YtganmdbhmihjpaaGreat.Wri
set_option linter.unusedSimpArgs false
set_option linter.unusedVariables false
set_option maxRecDepth 50000

theorem StackAt.apart {w w' : World} {S : Nat → Prop} (ho : Only S w w') (hs : ∀ k cs t fr, w.heap[k]? = some (.cells cs t fr) → ¬ S k) : ∀ {p : Value} {xs : Frs}, StackAt w p xs → StackAt w' p xs
  | _, [], h => h
  | _, x :: r, ⟨b, q, e, hb, hf, hl, hr⟩ => ⟨b, q, e, ho.blk hb (hs _ _ _ _ hb), ownsRow_only hf ho (fun k hk => by obtain ⟨cs, hc⟩ := row_obj hf hk; exact hs _ _ _ _ hc), hl, StackAt.apart ho hs hr⟩
theorem AttAt.apart {w w' : World} {S : Nat → Prop} {p q : Nat} {a : Att} (h : AttAt w p q a) (ho : Only S w w') (hs : ∀ k cs t fr, w.heap[k]? = some (.cells cs t fr) → ¬ S k) : AttAt w' p q a := by
  obtain ⟨hb, ⟨xs, hx, o, hl, hst, h1, h5⟩, hw⟩ := h
  exact ⟨ho.blk hb (hs _ _ _ _ hb), ⟨xs, hx, o, ho.blk hl (hs _ _ _ _ hl), StackAt.apart ho hs hst, h1, h5⟩, hw⟩
abbrev AtM := Int → Option Att
def updA (M : AtM) (t : Int) (a : Att) : AtM := fun s => if s = t then some a else M s
structure EntsF (B : Nat) (w : World) (b n : Nat) (M : AtM) (ent : Int → Option (Nat × Nat)) : Prop where
  map : MapIs Tryz.prog 3 w b n (fun t => (ent t).map fun e => ptr e.1)
  some' : ∀ t, (ent t).isSome = (M t).isSome
  at' : ∀ t e a, ent t = some e → M t = some a → AttAt w e.1 e.2 a ∧ B ≤ e.1 ∧ B ≤ e.2
  inj : ∀ t s e f, ent t = some e → ent s = some f → t ≠ s → e.1 ≠ f.1 ∧ e.2 ≠ f.2
  lo : B ≤ b
/-- block b is the map of attempts -/
def Ents (B : Nat) (w : World) (b n : Nat) (M : AtM) : Prop := ∃ ent, EntsF B w b n M ent
theorem EntsF.below {B : Nat} {w w' : World} {b n : Nat} {M : AtM} {ent : Int → Option (Nat × Nat)} (h : EntsF B w b n M ent) (l : Below w.heap.size w w') : EntsF B w' b n M ent :=
  ⟨h.map.below l, h.some', fun t e a h1 h2 => ⟨(h.at' t e a h1 h2).1.below l, (h.at' t e a h1 h2).2⟩, h.inj, h.lo⟩
theorem Ents.below {B : Nat} {w w' : World} {b n : Nat} {M : AtM} (h : Ents B w b n M) (l : Below w.heap.size w w') : Ents B w' b n M := h.imp fun _ h => h.below l
theorem Ents.mono {B : Nat} {w : World} {b n n' : Nat} {M : AtM} (h : Ents B w b n M) (hn : n ≤ n') : Ents B w b n' M := h.imp fun _ h => ⟨h.map.mono hn, h.some', h.at', h.inj, h.lo⟩
theorem EntsF.find {B : Nat} {w : World} {b n : Nat} {M : AtM} {ent : Int → Option (Nat × Nat)} (h : EntsF B w b n M ent) {t : Int} {a : Att} (ht : M t = some a) : ∃ p q, ent t = some (p, q) ∧ AttAt w p q a ∧ B ≤ p ∧ B ≤ q := by
  have h1 := h.some' t
  rw [ht] at h1
  obtain ⟨⟨p, q⟩, he⟩ := Option.isSome_iff_exists.1 h1
  exact ⟨p, q, he, h.at' t _ a he ht⟩
theorem EntsF.no {B : Nat} {w : World} {b n : Nat} {M : AtM} {ent : Int → Option (Nat × Nat)} (h : EntsF B w b n M ent) {t : Int} (ht : M t = none) : ent t = none := by
  have h1 := h.some' t
  rw [ht] at h1
  simpa using h1
theorem EntsF.bne {B : Nat} {w : World} {b n : Nat} {M : AtM} {ent : Int → Option (Nat × Nat)} (h : EntsF B w b n M ent) {p q : Nat} {a : Att} (k : AttAt w p q a) : b ≠ p ∧ b ≠ q := by
  constructor
  · rintro rfl; exact h.map.not_cells k.blk
  · rintro rfl
    obtain ⟨cs, hc⟩ := LAt.blk k.log
    exact h.map.not_cells hc
/-- one attempt is another one -/
theorem EntsF.turn {B : Nat} {w w' : World} {b n : Nat} {M : AtM} {ent : Int → Option (Nat × Nat)} (h : EntsF B w b n M ent) {t : Int} {a a' : Att} {p q : Nat} (ht : M t = some a) (he : ent t = some (p, q)) (o : Only (fun k => k = p ∨ k = q) w w') (ha : AttAt w' p q a') : Ents B w' b n (updA M t a') := by
  obtain ⟨hk, hp, hq⟩ := h.at' t _ a he ht
  have hb := h.bne hk
  refine ⟨ent, h.map.only o (fun e => e.elim hb.1 hb.2), fun s => ?_, fun s e c h1 h2 => ?_, h.inj, h.lo⟩
  · unfold updA
    split
    · rename_i hs; subst hs; rw [he]; rfl
    · exact h.some' s
  · unfold updA at h2
    split at h2
    · rename_i hs
      subst hs
      injection h2 with h2
      subst h2
      rw [he] at h1
      injection h1 with h1
      subst h1
      exact ⟨ha, hp, hq⟩
    · rename_i hs
      obtain ⟨k2, hp2, hq2⟩ := h.at' s e c h1 h2
      have hi := h.inj s t e _ h1 he hs
      exact ⟨k2.strange o hk.odd (fun e => e.elim hi.1 (k2.ne hk)) (fun e => e.elim (fun e => (hk.ne k2) e.symm) hi.2), hp2, hq2⟩
/-- a new one -/
theorem EntsF.more {B : Nat} {w w' : World} {b n : Nat} {M : AtM} {ent : Int → Option (Nat × Nat)} (h : EntsF B w b n M ent) {t : Int} {a : Att} {p q : Nat} (ht : M t = none) (hm : MapIs Tryz.prog 3 w' b (n + 1) (updM (fun t => (ent t).map fun e => ptr e.1) t (some (ptr p)))) (o : Only (fun k => k = b) w w') (ha : AttAt w' p q a) (hp : B ≤ p) (hq : B ≤ q) (hno : ∀ s e c, ent s = some e → M s = some c → e.1 ≠ p ∧ e.2 ≠ q) : Ents B w' b (n + 1) (updA M t a) := by
  have hS : ∀ {p q : Nat} {c : Att}, AttAt w p q c → ¬ p = b ∧ ¬ q = b := fun k => ⟨fun e => (h.bne k).1 e.symm, fun e => (h.bne k).2 e.symm⟩
  have hstr : ∀ k cs t fr, w.heap[k]? = some (.cells cs t fr) → ¬ (k = b) := fun k cs t fr hk e => by
    subst e
    exact h.map.not_cells hk
  refine ⟨fun s => if s = t then some (p, q) else ent s, ?_, fun s => ?_, fun s e c h1 h2 => ?_, fun s r e f h1 h2 hne => ?_, h.lo⟩
  · refine hm.congr fun s _ => ?_
    unfold updM
    split <;> rfl
  · unfold updA
    split
    · rfl
    · exact h.some' s
  · unfold updA at h2
    split at h2
    · rename_i hs
      rw [if_pos hs] at h1
      injection h1 with h1
      injection h2 with h2
      subst h1 h2
      exact ⟨ha, hp, hq⟩
    · rename_i hs
      rw [if_neg hs] at h1
      obtain ⟨k2, hp2, hq2⟩ := h.at' s e c h1 h2
      exact ⟨k2.apart o hstr, hp2, hq2⟩
  · have hM : ∀ s e, ent s = some e → ∃ c, M s = some c := fun s e he => by
      have := h.some' s
      rw [he] at this
      exact Option.isSome_iff_exists.1 this.symm
    by_cases hs : s = t
    · rw [if_pos hs] at h1
      injection h1 with h1
      subst h1
      rw [if_neg (fun e => hne (by rw [hs, e]))] at h2
      obtain ⟨c, hc⟩ := hM r f h2
      have := hno r f c h2 hc
      exact ⟨fun e => this.1 e.symm, fun e => this.2 e.symm⟩
    · rw [if_neg hs] at h1
      by_cases hr : r = t
      · rw [if_pos hr] at h2
        injection h2 with h2
        subst h2
        obtain ⟨c, hc⟩ := hM s e h1
        exact hno s e c h1 hc
      · rw [if_neg hr] at h2
        exact h.inj s r e f h1 h2 hne
end Go.Proofs.YtganmdbhmihjpaaGreat.His
