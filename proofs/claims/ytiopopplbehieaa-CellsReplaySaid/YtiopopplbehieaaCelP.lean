/- 'live', 'play', 'same' of the statements on cells. -/
import Derived.Test.YtiopopplbehieaaCelF
import Derived.Laws.StructEq
namespace Go.Proofs.Ytiopopplbehieaa.Cel
open Go.RowKit
set_option linter.unusedSimpArgs false
set_option linter.unusedVariables false

theorem do_to {F : Nat → Prop} {w : World} {b : Nat} {s s' : CSt} {d : Dn} {n : Int} (hI : s.Inv) (hl : s.log.length < 1000) (h : CellsAt 66 w b F s) (o : OpV) (ho : o.Fit)
    (hE : s.doE o = n) (hD : s.doD o = d) (hS : s.doS o = s') :
    Calls Try.prog 13 #[ptr b, .agg #[.int .u8 o.k, .int .i64 o.c, .int .u64 o.a, .int .u64 o.b]] w fun e w' => e = .returned (.tuple #[.agg #[.int .u8 d.o.k, .int .i64 d.o.c, .int .u64 d.o.a, .int .u64 d.o.b, .int .u64 d.w, .bool d.ok], .int .i64 n]) ∧ CellsAt 66 w' b (Grow F w w') s' ∧ Only F w w' := by
  subst hE hD hS
  exact do_any w b s hI hl h o ho
theorem rdo_to {F : Nat → Prop} {w : World} {b : Nat} {s s' : CSt} {d : Dn} {n : Int} (hI : s.Inv) (hl : s.log.length < 1000) (h : CellsAt 71 w b F s) (o : OpV) (ho : o.Fit)
    (hE : s.doE o = n) (hD : s.doD o = d) (hS : s.doS o = s') :
    Calls Try.prog 17 #[ptr b, .agg #[.int .u8 o.k, .int .i64 o.c, .int .u64 o.a, .int .u64 o.b]] w fun e w' => e = .returned (.tuple #[.agg #[.int .u8 d.o.k, .int .i64 d.o.c, .int .u64 d.o.a, .int .u64 d.o.b, .int .u64 d.w, .bool d.ok], .int .i64 n]) ∧ CellsAt 71 w' b (Grow F w w') s' ∧ Only F w w' := by
  subst hE hD hS
  exact rdo_any w b s hI hl h o ho

theorem new_to (w : World) (n : Int) (h : 1 ≤ n ∧ n ≤ 32) : Calls Try.prog 21 #[.int .i64 n] w fun e w' =>
    e = .returned (ptr (w.heap.size + 1)) ∧ CellsAt 66 w' (w.heap.size + 1) (Grow (fun _ => False) w w') ⟨List.replicate n.toNat 0, []⟩ ∧ Below w.heap.size w w' := by
  refine (new_any w n).mono ?_
  rintro e w' ⟨hb, h1 | h1⟩
  · omega
  · exact ⟨h1.2.1, h1.2.2, hb⟩
theorem rnew_to (w : World) (n : Int) (h : 1 ≤ n ∧ n ≤ 32) : Calls Try.prog 28 #[.int .i64 n] w fun e w' =>
    e = .returned (ptr (w.heap.size + 1)) ∧ CellsAt 71 w' (w.heap.size + 1) (Grow (fun _ => False) w w') ⟨List.replicate n.toNat 0, []⟩ ∧ Below w.heap.size w w' := by
  refine (rnew_any w n).mono ?_
  rintro e w' ⟨hb, h1 | h1⟩
  · omega
  · exact ⟨h1.2.1, h1.2.2, hb⟩

theorem live_any (w : World) : Calls Try.prog 11 #[] w fun e w' => e = .returned (.bool true) ∧ Below w.heap.size w w' := by
  have i0 : CSt.Inv ⟨[0, 0], []⟩ := ⟨by simp [U64], by decide, by decide⟩
  have i1 : CSt.Inv ⟨[0, 3], [⟨⟨4, 1, 3, 0⟩, 0, true⟩]⟩ := ⟨by simp [U64], by decide, by decide⟩
  have i2 : CSt.Inv ⟨[0, 9], [⟨⟨4, 1, 3, 0⟩, 0, true⟩, ⟨⟨3, 1, 3, 9⟩, 3, true⟩]⟩ := ⟨by simp [U64], by decide, by decide⟩
  go_enter Try.func11, Try.ntmps11
  go_wp2_with fail
  refine (new_to w 2 (by decide)).mono ?_
  rintro e w1 ⟨rfl, h1, l1⟩
  have f1 := grow_lo (F := fun _ => False) (lo := w.heap.size) (w := w) (w' := w1) (fun _ h => h.elim) (Nat.le_refl _)
  have H1 := Lib.hid h1; have L1 := Lib.hid l1; have F1 := Lib.hid f1
  clear h1 l1 f1
  go_wp2_with fail
  refine (do_to i0 (by decide) H1.out ⟨4, 1, 3, 0⟩ ⟨by decide, by decide, by simp [U64], by simp [U64]⟩ (n := 0) (d := ⟨⟨4, 1, 3, 0⟩, 0, true⟩) (s' := ⟨[0, 3], [⟨⟨4, 1, 3, 0⟩, 0, true⟩]⟩) (by rfl) (by rfl) (by rfl)).mono ?_
  rintro e w2 ⟨rfl, h2, o2⟩
  have l2 := L1.out.trans (o2.lo F1.out L1.out.size)
  have f2 := grow_lo (w := w1) (w' := w2) F1.out L1.out.size
  have H2 := Lib.hid h2; have L2 := Lib.hid l2; have F2 := Lib.hid f2
  clear h2 l2 f2 o2 H1 L1 F1
  go_wp2_with fail
  have hx := blk_new w2 (.cells #[.int .u8 4, .int .i64 1, .int .u64 3, .int .u64 0, .int .u64 0, .bool true] 37)
  have lx : Below w2.heap.size w2 (w2.alloc (.cells #[.int .u8 4, .int .i64 1, .int .u64 3, .int .u64 0, .int .u64 0, .bool true] 37)) := by repeat (first | (with_reducible exact Below.refl _ _) | (with_reducible apply Below.drew) | (with_reducible refine below_drewN ?_ _) | (with_reducible refine below_alloc' ?_ ?_ _; (focus ((try simp) <;> omega))) | (with_reducible refine below_set' ?_ ?_ _; (focus ((try simp) <;> omega))))
  have nx : w2.heap.size < (w2.alloc (.cells #[.int .u8 4, .int .i64 1, .int .u64 3, .int .u64 0, .int .u64 0, .bool true] 37)).heap.size := by simp
  generalize (w2.alloc (.cells #[.int .u8 4, .int .i64 1, .int .u64 3, .int .u64 0, .int .u64 0, .bool true] 37)) = w3 at *
  have h3 := H2.out.below lx
  have l3 := btrans L2.out (Nat.le_refl _) lx
  refine (do_to i1 (by decide) h3 ⟨3, 1, 3, 9⟩ ⟨by decide, by decide, by simp [U64], by simp [U64]⟩ (n := 0) (d := ⟨⟨3, 1, 3, 9⟩, 3, true⟩) (s' := ⟨[0, 9], [⟨⟨4, 1, 3, 0⟩, 0, true⟩, ⟨⟨3, 1, 3, 9⟩, 3, true⟩]⟩) (by rfl) (by rfl) (by rfl)).mono ?_
  rintro e w4 ⟨rfl, h4, o4⟩
  have hx4 := o4.blk hx (fun h => by have := H2.out.within _ h; omega)
  have l4 := l3.trans (o4.lo F2.out l3.size)
  have c1 := blk_cell hx4 4
  simp only [List.getElem?_toArray, List.getElem?_cons_zero, List.getElem?_cons_succ] at c1
  have H4 := Lib.hid h4; have L4 := Lib.hid l4
  clear h4 l4 o4 H2 L2 F2 hx lx nx h3 l3 hx4
  go_wp2_with fail
  have hy := blk_new w4 (.cells #[.int .u8 3, .int .i64 1, .int .u64 3, .int .u64 9, .int .u64 3, .bool true] 37)
  have ly : Below w4.heap.size w4 (w4.alloc (.cells #[.int .u8 3, .int .i64 1, .int .u64 3, .int .u64 9, .int .u64 3, .bool true] 37)) := by repeat (first | (with_reducible exact Below.refl _ _) | (with_reducible apply Below.drew) | (with_reducible refine below_drewN ?_ _) | (with_reducible refine below_alloc' ?_ ?_ _; (focus ((try simp) <;> omega))) | (with_reducible refine below_set' ?_ ?_ _; (focus ((try simp) <;> omega))))
  generalize (w4.alloc (.cells #[.int .u8 3, .int .i64 1, .int .u64 3, .int .u64 9, .int .u64 3, .bool true] 37)) = w5 at *
  have h5 := H4.out.below ly
  have l5 := btrans L4.out (Nat.le_refl _) ly
  replace c1 := bkeep ly c1
  have y1 := blk_cell hy 4; have y2 := blk_cell hy 5
  simp only [List.getElem?_toArray, List.getElem?_cons_zero, List.getElem?_cons_succ] at y1 y2
  clear hy H4 L4
  refine (word_any _ _ _ h5 1).mono ?_
  rintro e w6 ⟨rfl, rfl⟩
  go_wp2_with fail
  refine (steps_any _ _ _ i2 h5).mono ?_
  rintro e w6 ⟨rfl, rfl⟩
  go_wp2_with fail
  go_ret
  exact ⟨rfl, l5⟩

/-! ### SameWords, SameLog -/
theorem row_cell {w : World} {v : Value} {n b0 e size : Nat} {g : Nat} {xs : List Value} {cap : Nat} (h : w.ownsRow b0 e size (.slice (some ⟨g, 0, none⟩) n cap) n xs) (i : Nat) {u : Value} (hu : xs[i]? = some u) : w.cell? ⟨g, i, none⟩ = some u := by
  have := h.cells (g := g) rfl i u hu
  rwa [Addr.add_lit, Nat.zero_add] at this
theorem sameWords_any {w : World} {v v' : Value} {n b0 b0' : Nat} {xs : List Int} (h : w.ownsRow b0 23 1 v n (wordVals xs)) (h' : w.ownsRow b0' 23 1 v' n (wordVals xs)) (hn : n ≤ 1000) :
    Calls Try.prog 26 #[v, v'] w fun e w' => e = .returned (.bool true) ∧ Below w.heap.size w w' := by
  obtain ⟨a, c, rfl⟩ := ownsRow_slice h
  obtain ⟨a', c', rfl⟩ := ownsRow_slice h'
  rcases Nat.eq_zero_or_pos n with rfl | hp
  · clear h h'
    go_enter Try.func26, Try.ntmps26
    go_wp2_with fail
    go_loopw [5] (fun i wr => i = .int .i64 0 ∧ wr = w) (fun _ _ => 0)
    case atStart => exact ⟨rfl, rfl⟩
    case round =>
      obtain ⟨rfl, rfl⟩ := hrel
      go_wp2_with fail
      go_ret
      exact ⟨rfl, Below.refl _ _⟩
  · have hl : xs.length = n := by have := h.1; rw [wordVals_length] at this; omega
    rcases h.2 with ⟨h0, _⟩ | ⟨g, cap, cur, h0, _⟩
    · injection h0 with _ h0; omega
    rcases h'.2 with ⟨h1, _⟩ | ⟨g', cap', cur', h1, _⟩
    · injection h1 with _ h1; omega
    injection h0 with h0 _ h2; subst h0 h2
    injection h1 with h1 _ h2; subst h1 h2
    have hc : ∀ i, i < n → w.cell? ⟨g, i, none⟩ = some (.int .u64 (xs.getD i 0)) ∧ w.cell? ⟨g', i, none⟩ = some (.int .u64 (xs.getD i 0)) := by
      intro i hi
      have hx : (wordVals xs)[i]? = some (.int .u64 (xs.getD i 0)) := by simp [wordVals, List.getD_eq_getElem?_getD, List.getElem?_eq_getElem (show i < xs.length by omega)]
      exact ⟨row_cell (v := .nilFunc) h i hx, row_cell (v := .nilFunc) h' i hx⟩
    have HC := Lib.hid hc
    clear h h' hl hc
    go_enter Try.func26, Try.ntmps26
    go_wp2_with fail
    go_loopw [5] (fun i wr => ∃ k : Nat, i = .int .i64 k ∧ k ≤ n ∧ Below w.heap.size w wr) (fun i _ => n - (intOf i).toNat)
    case atStart => exact ⟨0, rfl, Nat.zero_le _, Below.refl _ _⟩
    case round =>
      obtain ⟨k, rfl, hk, hL⟩ := hrel
      have HL := Lib.hid hL; clear hL
      by_cases hlt : k < n
      · obtain ⟨c0, c1⟩ := HC.out k hlt
        replace c0 := bkeep HL.out c0; replace c1 := bkeep HL.out c1
        go_wp2_with fail
        go_quiet (fail)
        go_wp2_with fail
        exact ⟨⟨k + 1, by go_num, by omega, below_drewN HL.out _⟩, by simp [intOf]; omega⟩
      · go_wp2_with fail
        go_ret
        exact ⟨rfl, HL.out⟩

theorem logVals_get (l : List Dn) (i : Nat) (hi : i < l.length) : ∃ d : Dn, l[i]? = some d ∧ (logVals l)[i * 6]? = some (.int .u8 d.o.k) ∧ (logVals l)[i * 6 + 1]? = some (.int .i64 d.o.c) ∧ (logVals l)[i * 6 + 2]? = some (.int .u64 d.o.a) ∧
    (logVals l)[i * 6 + 3]? = some (.int .u64 d.o.b) ∧ (logVals l)[i * 6 + 4]? = some (.int .u64 d.w) ∧ (logVals l)[i * 6 + 5]? = some (.bool d.ok) := by
  induction l generalizing i with
  | nil => simp at hi
  | cons d l ih =>
    cases i with
    | zero => exact ⟨d, rfl, rfl, rfl, rfl, rfl, rfl, rfl⟩
    | succ i =>
      obtain ⟨d', h, h0, h1, h2, h3, h4, h5⟩ := ih i (by simpa using hi)
      have e : ∀ j, (logVals (d :: l))[(i + 1) * 6 + j]? = (logVals l)[i * 6 + j]? := by
        intro j
        rw [show (i + 1) * 6 + j = (i * 6 + j) + 6 by omega]
        simp only [logVals, List.flatMap_cons, Dn.vals]
        rfl
      exact ⟨d', by simpa using h, (e 0).trans h0, (e 1).trans h1, (e 2).trans h2, (e 3).trans h3, (e 4).trans h4, (e 5).trans h5⟩

theorem sameLog_any {w : World} {v v' : Value} {n b0 b0' : Nat} {xs : List Dn} (h : w.ownsRow b0 37 6 v n (logVals xs)) (h' : w.ownsRow b0' 37 6 v' n (logVals xs)) (hn : n ≤ 1000) :
    Calls Try.prog 32 #[v, v'] w fun e w' => e = .returned (.bool true) ∧ Below w.heap.size w w' := by
  obtain ⟨a, c, rfl⟩ := ownsRow_slice h
  obtain ⟨a', c', rfl⟩ := ownsRow_slice h'
  rcases Nat.eq_zero_or_pos n with rfl | hp
  · clear h h'
    go_enter Try.func32, Try.ntmps32
    go_wp2_with fail
    go_loopw [5] (fun i wr => i = .int .i64 0 ∧ wr = w) (fun _ _ => 0)
    case atStart => exact ⟨rfl, rfl⟩
    case round =>
      obtain ⟨rfl, rfl⟩ := hrel
      go_wp2_with fail
      go_ret
      exact ⟨rfl, Below.refl _ _⟩
  · have hl : xs.length = n := by have := h.1; rw [logVals_length] at this; omega
    rcases h.2 with ⟨h0, _⟩ | ⟨g, cap, cur, h0, _⟩
    · injection h0 with _ h0; omega
    rcases h'.2 with ⟨h1, _⟩ | ⟨g', cap', cur', h1, _⟩
    · injection h1 with _ h1; omega
    injection h0 with h0 _ h2; subst h0 h2
    injection h1 with h1 _ h2; subst h1 h2
    have hc : ∀ i, i < n → ∃ d : Dn, (w.cell? ⟨g, i * 6, none⟩ = some (.int .u8 d.o.k) ∧ w.cell? ⟨g, i * 6 + 1, none⟩ = some (.int .i64 d.o.c) ∧ w.cell? ⟨g, i * 6 + 2, none⟩ = some (.int .u64 d.o.a) ∧
        w.cell? ⟨g, i * 6 + 3, none⟩ = some (.int .u64 d.o.b) ∧ w.cell? ⟨g, i * 6 + 4, none⟩ = some (.int .u64 d.w) ∧ w.cell? ⟨g, i * 6 + 5, none⟩ = some (.bool d.ok)) ∧
        (w.cell? ⟨g', i * 6, none⟩ = some (.int .u8 d.o.k) ∧ w.cell? ⟨g', i * 6 + 1, none⟩ = some (.int .i64 d.o.c) ∧ w.cell? ⟨g', i * 6 + 2, none⟩ = some (.int .u64 d.o.a) ∧
        w.cell? ⟨g', i * 6 + 3, none⟩ = some (.int .u64 d.o.b) ∧ w.cell? ⟨g', i * 6 + 4, none⟩ = some (.int .u64 d.w) ∧ w.cell? ⟨g', i * 6 + 5, none⟩ = some (.bool d.ok)) := by
      intro i hi
      obtain ⟨d, _, h0, h1, h2, h3, h4, h5⟩ := logVals_get xs i (by omega)
      exact ⟨d, ⟨row_cell (v := .nilFunc) h _ h0, row_cell (v := .nilFunc) h _ h1, row_cell (v := .nilFunc) h _ h2, row_cell (v := .nilFunc) h _ h3, row_cell (v := .nilFunc) h _ h4, row_cell (v := .nilFunc) h _ h5⟩,
        row_cell (v := .nilFunc) h' _ h0, row_cell (v := .nilFunc) h' _ h1, row_cell (v := .nilFunc) h' _ h2, row_cell (v := .nilFunc) h' _ h3, row_cell (v := .nilFunc) h' _ h4, row_cell (v := .nilFunc) h' _ h5⟩
    have HC := Lib.hid hc
    clear h h' hl hc
    go_enter Try.func32, Try.ntmps32
    go_wp2_with fail
    go_loopw [5] (fun i wr => ∃ k : Nat, i = .int .i64 k ∧ k ≤ n ∧ Below w.heap.size w wr) (fun i _ => n - (intOf i).toNat)
    case atStart => exact ⟨0, rfl, Nat.zero_le _, Below.refl _ _⟩
    case round =>
      obtain ⟨k, rfl, hk, hL⟩ := hrel
      have HL := Lib.hid hL; clear hL
      by_cases hlt : k < n
      · obtain ⟨d, ⟨c0, c1, c2, c3, c4, c5⟩, e0, e1, e2, e3, e4, e5⟩ := HC.out k hlt
        replace c0 := bkeep HL.out c0; replace c1 := bkeep HL.out c1; replace c2 := bkeep HL.out c2; replace c3 := bkeep HL.out c3; replace c4 := bkeep HL.out c4; replace c5 := bkeep HL.out c5
        replace e0 := bkeep HL.out e0; replace e1 := bkeep HL.out e1; replace e2 := bkeep HL.out e2; replace e3 := bkeep HL.out e3; replace e4 := bkeep HL.out e4; replace e5 := bkeep HL.out e5
        go_wp2_with fail
        go_quiet (fail)
        go_wp2_with fail
        exact ⟨⟨k + 1, by go_num, by omega, below_drewN HL.out _⟩, by simp [intOf]; omega⟩
      · go_wp2_with fail
        go_ret
        exact ⟨rfl, HL.out⟩

/-! ### same -/
structure Both (w : World) (c r : Nat) (F G : Nat → Prop) (s : CSt) : Prop where
  c : CellsAt 66 w c F s
  r : CellsAt 71 w r G s
  ap : Apart F G
  inv : s.Inv
theorem Both.below {w w' : World} {c r : Nat} {F G : Nat → Prop} {s : CSt} (h : Both w c r F G s) (hb : Below w.heap.size w w') : Both w' c r F G s := ⟨h.c.below hb, h.r.below hb, h.ap, h.inv⟩

theorem same_any {F G : Nat → Prop} (w : World) (c r : Nat) (s : CSt) (h : Both w c r F G s) : Calls Try.prog 14 #[ptr c, ptr r] w fun e w' => e = .returned (.bool true) ∧ Below w.heap.size w w' := by
  have H := Lib.hid h; clear h
  go_enter Try.func14, Try.ntmps14
  go_wp2_with fail
  go_loopw [5] (fun i wr => ∃ k : Nat, i = .int .i64 ((k : Int) - 1) ∧ k ≤ 8 ∧ wr = w) (fun i _ => 8 - (intOf i + 1).toNat)
  case atStart => exact ⟨0, rfl, by decide, rfl⟩
  case round =>
    obtain ⟨k, rfl, hk, rfl⟩ := hrel
    by_cases hlt : k < 8
    · have hd : decide ((k : Int) - 1 < 7) = true := by simp; omega
      have hwr : IntKind.i64.wrap ((k : Int) - 1 + 1) = k := by rw [IntKind.wrap_i64]; omega
      go_wp2_with fail
      refine (word_any _ _ _ H.out.c _).mono ?_
      rintro e w' ⟨rfl, rfl⟩
      go_wp2_with fail
      refine (rword_any _ _ _ H.out.r _).mono ?_
      rintro e w' ⟨rfl, rfl⟩
      go_wp2_with fail
      exact ⟨⟨k + 1, by simp, by omega, by first | rfl | trivial⟩, by simp [intOf]; omega⟩
    · have hd : decide ((k : Int) - 1 < 7) = false := by simp; omega
      go_wp2_with fail
      refine (words_any _ _ _ H.out.inv H.out.c).mono ?_
      rintro e w1 ⟨v1, rfl, h1, l1⟩
      have H1 := Lib.hid (H.out.below l1); have L1 := Lib.hid l1; have V1 := Lib.hid h1
      clear h1 l1
      go_wp2_with fail
      refine (rwords_any _ _ _ H1.out.inv H1.out.r).mono ?_
      rintro e w2 ⟨v2, rfl, h2, l2⟩
      have H2 := Lib.hid (H1.out.below l2); have L2 := Lib.hid (btrans L1.out (Nat.le_refl _) l2); have V2 := Lib.hid h2
      have V1' := Lib.hid (ownsRow_only V1.out (Only.empty l2 (Nat.le_refl _)) (fun _ _ h => h))
      clear h2 l2 V1 H1 L1
      go_wp2_with fail
      refine (sameWords_any V1'.out V2.out H2.out.inv.small).mono ?_
      rintro e w3 ⟨rfl, l3⟩
      have H3 := Lib.hid (H2.out.below l3); have L3 := Lib.hid (btrans L2.out (Nat.le_refl _) l3)
      clear l3 V1' V2 H2 L2
      go_wp2_with fail
      refine (log_any _ _ _ H3.out.inv H3.out.c).mono ?_
      rintro e w1 ⟨v1, rfl, h1, l1⟩
      have H1 := Lib.hid (H3.out.below l1); have L1 := Lib.hid (btrans L3.out (Nat.le_refl _) l1); have V1 := Lib.hid h1
      clear h1 l1 H3 L3
      go_wp2_with fail
      refine (rlog_any _ _ _ H1.out.inv H1.out.r).mono ?_
      rintro e w2 ⟨v2, rfl, h2, l2⟩
      have H2 := Lib.hid (H1.out.below l2); have L2 := Lib.hid (btrans L1.out (Nat.le_refl _) l2); have V2 := Lib.hid h2
      have V1' := Lib.hid (ownsRow_only V1.out (Only.empty l2 (Nat.le_refl _)) (fun _ _ h => h))
      clear h2 l2 V1 H1 L1
      go_wp2_with fail
      refine (sameLog_any V1'.out V2.out H2.out.inv.log).mono ?_
      rintro e w3 ⟨rfl, l3⟩
      have H3 := Lib.hid (H2.out.below l3); have L3 := Lib.hid (btrans L2.out (Nat.le_refl _) l3)
      clear l3 V1' V2 H2 L2
      go_wp2_with fail
      refine (steps_any _ _ _ H3.out.inv H3.out.c).mono ?_
      rintro e w' ⟨rfl, rfl⟩
      go_wp2_with fail
      refine (rsteps_any _ _ _ H3.out.inv H3.out.r).mono ?_
      rintro e w' ⟨rfl, rfl⟩
      go_wp2_with fail
      go_ret
      exact ⟨by simp, L3.out⟩

/-! ### play -/
/-- A slice of ops that is read. -/
def Ops (w : World) (a : Option Addr) (len : Nat) : Prop :=
  len ≤ 9223372036854775807 ∧ (len = 0 ∨ ∃ b off, a = some ⟨b, off, none⟩ ∧ ∀ i, i < len → ∃ o : OpV, o.Fit ∧ w.cell? ⟨b, off + i * 4, none⟩ = some (.int .u8 o.k) ∧ w.cell? ⟨b, off + i * 4 + 1, none⟩ = some (.int .i64 o.c) ∧ w.cell? ⟨b, off + i * 4 + 2, none⟩ = some (.int .u64 o.a) ∧ w.cell? ⟨b, off + i * 4 + 3, none⟩ = some (.int .u64 o.b))

/-- what ops leave -/
inductive Played (n : Nat) : CSt → Nat → Prop
  | nil : Played n ⟨List.replicate n 0, []⟩ 0
  | step {s : CSt} {k : Nat} (h : Played n s k) (o : OpV) (ho : o.Fit) : Played n (s.doS o) (k + 1)
theorem doS_len (s : CSt) (o : OpV) : (s.doS o).ws.length = s.ws.length ∧ (s.doS o).log.length ≤ s.log.length + 1 ∧ s.log.length ≤ (s.doS o).log.length := by
  unfold CSt.doS
  split
  · simp
  · exact ⟨rfl, by omega, Nat.le_refl _⟩
theorem Played.facts {n k : Nat} {s : CSt} (h : Played n s k) (hn : n ≤ 1000) (hk : k ≤ 900) : s.Inv ∧ s.ws.length = n ∧ s.log.length ≤ k := by
  induction h with
  | nil => exact ⟨⟨by simp [U64], by simpa using hn, by simp⟩, by simp, by simp⟩
  | step h o ho ih =>
    obtain ⟨i1, i2, i3⟩ := ih (by omega)
    exact ⟨inv_do i1 (by omega) ho, by rw [(doS_len _ o).1, i2], Nat.le_trans (doS_len _ o).2.1 (by omega)⟩

/-- both, after so many ops; what is theirs is new -/
structure Pair (w0 w : World) (n k : Nat) (c r : Nat) (F G : Nat → Prop) (s : CSt) : Prop where
  b : Both w c r F G s
  p : Played n s k
  f : ∀ i, F i → w0.heap.size ≤ i
  g : ∀ i, G i → w0.heap.size ≤ i
  lo : Below w0.heap.size w0 w
def PlayPost (w : World) (n : Int) (e : Ending) (w' : World) : Prop :=
  ∃ c r F G s k, k ≤ 60 ∧ e = .returned (.tuple #[ptr c, ptr r, .bool true]) ∧ Pair w w' ((n % 5).toNat + 1) k c r F G s
end Go.Proofs.Ytiopopplbehieaa.Cel
