/- New, Push, pop, Drop, Depth, Put of a log. -/
import Derived.Test.YtgjemjogncnbnaaWriC
import Derived.Test.YtgjemjogncnbnaaWriB
namespace Go.Proofs.Ytgjemjogncnbnaa.Wri
open Go.RowKit
set_option linter.unusedSimpArgs false
set_option linter.unusedVariables false
set_option maxRecDepth 50000

abbrev Frs := List (Value × Frm)
abbrev nilF : Value × Frm := (.slice none 0 0, [])
theorem frAt_nil (w : World) : FrAt w (.slice none 0 0) [] := World.ownsRow_nil _ _ _ _
theorem new_any (w : World) : Calls Try.prog 28 #[] w fun e w' => ∃ b, e = .returned (ptr b) ∧ w.heap.size ≤ b ∧ LogAt w' b [nilF] ∧ Below w.heap.size w w' := by
  go_enter Try.func28, Try.ntmps28
  go_wp2_with fail
  refine (push_any w none none 0 0).mono ?_
  rintro e w1 ⟨rfl, rfl⟩
  go_wp2_with fail
  go_ret
  refine ⟨w.heap.size + 1, by simp [ptr], by omega, ?_, by repeat (first | (with_reducible exact Below.refl _ _) | (with_reducible apply Below.drew) | (with_reducible refine below_drewN ?_ _) | (with_reducible refine below_alloc' ?_ ?_ _; (focus ((try simp) <;> omega))) | (with_reducible refine below_set' ?_ ?_ _; (focus ((try simp) <;> omega))))⟩
  refine ⟨some ⟨w.heap.size, 0, none⟩, by simp [↓heap_alloc_eq, ↓heap_set_eq, ↓heap_drew_eq, ↓heap_drewN_eq, setObj, size_drewN], ⟨w.heap.size, .pointer none, rfl, by simp [↓heap_alloc_eq, ↓heap_set_eq, ↓heap_drew_eq, ↓heap_drewN_eq, setObj, size_drewN], frAt_nil _, by simp, rfl⟩, by simp, by simp⟩
theorem depth_any (w : World) (b : Nat) (xs : Frs) (h : LogAt w b xs) : Calls Try.prog 59 #[ptr b] w fun e w' => e = .returned (.int .i64 ((xs.length : Int) - 1)) ∧ w = w' := by
  obtain ⟨o, hb, hS, hx1, hx5⟩ := h
  have b1 := blk_cell hb 1
  simp only [List.getElem?_toArray, List.getElem?_cons_zero, List.getElem?_cons_succ] at b1
  clear hb hS
  go_enter Try.func59, Try.ntmps59
  go_wp2
  go_ret
  exact ⟨rfl, rfl⟩
theorem depth_nil (w : World) : Calls Try.prog 59 #[.pointer none] w fun e w' => e = .returned (.int .i64 0) ∧ w = w' := by
  go_enter Try.func59, Try.ntmps59
  go_wp2
  go_ret
  exact ⟨rfl, rfl⟩
/-- the log's two cells are turned: another stack, another depth -/
theorem LogAt.turn {w w' : World} {b : Nat} {xs : Frs} {o : Option Addr} (hb : w'.heap[b]? = some (.cells #[.pointer o, .int .i64 ((xs.length : Int) - 1)] 105 (0, 0))) (hS : StackAt w' (.pointer o) xs) (h1 : 1 ≤ xs.length) (h5 : xs.length ≤ 5) : LogAt w' b xs := ⟨o, hb, hS, h1, h5⟩
/-- a stack stands through a turn of a block that is no part of it -/
theorem StackAt.set {w : World} {b i : Nat} {v : Value} {cs : Array Value} (hb : w.heap[b]? = some (.cells cs 105 (0, 0))) : ∀ {p : Value} {xs : Frs}, StackAt w p xs → StackAt (w.setCell ⟨b, i, none⟩ v) p xs
  | _, [], h => h
  | _, x :: r, ⟨b', q, e, hb', hf, hl, hr⟩ => by
    have hne : b ≠ b' := by
      rintro rfl
      rw [hb] at hb'
      injection hb' with h1
      injection h1 with _ h2 _
      exact absurd h2 (by decide)
    refine ⟨b', q, e, (blk_other hb' (p := ⟨b, i, none⟩) hne.symm v), ?_, hl, StackAt.set hb hr⟩
    refine ownsRow_only (S := fun k => k = b) hf ((Only.refl (fun k => k = b) w).setCell (p := ⟨b, i, none⟩) (.inr rfl) v) ?_
    intro k hk e
    subst e
    rcases hf.2 with ⟨h0, _⟩ | ⟨g, cap, cur, h0, _, hg, _⟩
    · rw [h0] at hk; cases hk
    · rw [h0] at hk
      injection hk with hk
      subst hk
      rw [hb] at hg
      injection hg with h1
      injection h1 with _ h2 _
      exact absurd h2 (by decide)
def PushPost (w : World) (b : Nat) (xs : Frs) (e : Ending) (w' : World) : Prop :=
  if 5 ≤ xs.length then e = .returned (.int .i64 4) ∧ w = w' else e = .returned (.int .i64 0) ∧ Only (fun k => k = b) w w' ∧ LogAt w' b (nilF :: xs)
theorem lpush_any (w : World) (b : Nat) (xs : Frs) (h : LogAt w b xs) : Calls Try.prog 48 #[ptr b] w (PushPost w b xs) := by
  obtain ⟨o, hb, hS, hx1, hx5⟩ := h
  have hblt := blk_lt hb
  have b0 := blk_cell hb 0; have b1 := blk_cell hb 1
  have bf := blk_free hb
  simp only [List.getElem?_toArray, List.getElem?_cons_zero, List.getElem?_cons_succ] at b0 b1
  unfold PushPost
  by_cases h5 : 5 ≤ xs.length
  · simp only [if_pos h5]
    have hd : decide ((4 : Int) ≤ (xs.length : Int) - 1) = true := by simp; omega
    clear hb hS h5
    generalize (xs.length : Int) - 1 = d at *
    go_enter Try.func48, Try.ntmps48
    go_wp2
    go_ret
    exact ⟨rfl, rfl⟩
  · simp only [if_neg h5]
    have hd : decide ((4 : Int) ≤ (xs.length : Int) - 1) = false := by simp; omega
    obtain ⟨d, hde⟩ : ∃ d, (xs.length : Int) - 1 = d := ⟨_, rfl⟩
    have hw : IntKind.i64.wrap (d + 1) = d + 1 := by rw [IntKind.wrap_i64]; omega
    have HB := Lib.hid hb; have HS := Lib.hid hS; have HD := Lib.hid hde
    rw [hde] at hd b1
    clear hb hS hde
    go_enter Try.func48, Try.ntmps48
    go_wp2_with fail
    refine (push_any w o none 0 0).mono ?_
    rintro e w1 ⟨rfl, rfl⟩
    have lb : Below w.heap.size w (w.alloc (.cells #[.slice none 0 0, .pointer o] 127)) := by repeat (first | (with_reducible exact Below.refl _ _) | (with_reducible apply Below.drew) | (with_reducible refine below_drewN ?_ _) | (with_reducible refine below_alloc' ?_ ?_ _; (focus ((try simp) <;> omega))) | (with_reducible refine below_set' ?_ ?_ _; (focus ((try simp) <;> omega))))
    have hn := blk_new w (.cells #[.slice none 0 0, .pointer o] 127)
    replace b0 := bkeep lb b0; replace b1 := bkeep lb b1
    have hb1 := bblk lb HB.out
    have bf1 := blk_free hb1
    have HL := Lib.hid lb; have HN := Lib.hid hn; have HB1 := Lib.hid hb1; have HS1 := Lib.hid (HS.out.below lb)
    clear lb hn hb1 bf
    generalize w.alloc (.cells #[.slice none 0 0, .pointer o] 127) = w1 at *
    go_wp2_with fail
    go_ret
    refine ⟨rfl, ?_, ?_⟩
    · repeat (first | (with_reducible exact Only.of_below HL.out (fun k hk h => by omega)) | (with_reducible refine only_set' ?_ ?_ _; (focus ((try simp) <;> omega))))
    · have hA := blk_set (blk_set HB1.out 0 (ptr w.heap.size)) 1 (.int .i64 (d + 1))
      simp only [List.setIfInBounds_toArray, List.set_cons_zero, List.set_cons_succ] at hA
      have hsA := blk_set HB1.out 0 (ptr w.heap.size)
      refine ⟨some ⟨w.heap.size, 0, none⟩, ?_, ?_, by simp, by simp; omega⟩
      · rw [hA]
        simp
        have := HD.out
        omega
      · have hs0 : StackAt w1 (ptr w.heap.size) (nilF :: xs) := ⟨w.heap.size, .pointer o, rfl, HN.out, frAt_nil _, by simp, HS1.out⟩
        exact StackAt.set (by simpa using hsA) (StackAt.set HB1.out hs0)

/-! ### pop, Drop -/
def PopPost (w : World) (b : Nat) (xs : Frs) (e : Ending) (w' : World) : Prop :=
  if xs.length ≤ 1 then e = .returned (.tuple #[.slice none 0 0, .int .i64 8]) ∧ w = w'
  else ∃ x r, xs = x :: r ∧ e = .returned (.tuple #[x.1, .int .i64 0]) ∧ Only (fun k => k = b) w w' ∧ LogAt w' b r ∧ FrAt w' x.1 x.2
theorem pop_any (w : World) (b : Nat) (xs : Frs) (h : LogAt w b xs) : Calls Try.prog 65 #[ptr b] w (PopPost w b xs) := by
  obtain ⟨o, hb, hS, hx1, hx5⟩ := h
  have hblt := blk_lt hb
  have b0 := blk_cell hb 0; have b1 := blk_cell hb 1
  have bf := blk_free hb
  simp only [List.getElem?_toArray, List.getElem?_cons_zero, List.getElem?_cons_succ] at b0 b1
  unfold PopPost
  by_cases h1 : xs.length ≤ 1
  · simp only [if_pos h1]
    have hd : ((xs.length : Int) - 1 == 0) = true := by simp; omega
    clear hb hS h1
    generalize (xs.length : Int) - 1 = d at *
    go_enter Try.func65, Try.ntmps65
    go_wp2
    go_ret2
    exact ⟨rfl, rfl⟩
  · simp only [if_neg h1]
    have hd : ((xs.length : Int) - 1 == 0) = false := by simp; omega
    obtain ⟨d, hde⟩ : ∃ d, (xs.length : Int) - 1 = d := ⟨_, rfl⟩
    have hw : IntKind.i64.wrap (d - 1) = d - 1 := by rw [IntKind.wrap_i64]; omega
    have HB := Lib.hid hb; have HD := Lib.hid hde
    rw [hde] at hd b1
    cases xs with
    | nil => simp at h1
    | cons x r =>
      obtain ⟨nb, q, e0, hn, hf, hl, hr⟩ := hS
      obtain ⟨oq, rfl⟩ := hr.isPtr
      injection e0 with e0
      subst e0
      obtain ⟨xv, xf⟩ := x
      simp only at hn hf hl
      have n0 := blk_cell hn 0; have n1 := blk_cell hn 1
      simp only [List.getElem?_toArray, List.getElem?_cons_zero, List.getElem?_cons_succ] at n0 n1
      have hnb : b ≠ nb := by
        rintro rfl
        have := hb.symm.trans hn
        injection this with h1
        injection h1 with _ h2 _
        exact absurd h2 (by decide)
      have hfin := (StackAt.set (i := 0) (v := .pointer oq) hb (xs := (xv, xf) :: r) (p := ptr nb) ⟨nb, _, rfl, hn, hf, hl, hr⟩)
      have hA1 := blk_set hb 0 (.pointer oq)
      have hfin2 := StackAt.set (i := 1) (v := .int .i64 (d - 1)) (by simpa using hA1) hfin
      obtain ⟨nb2, q2, e2, hn2, hf2, _, hr2⟩ := hfin2
      have hq2 : q2 = .pointer oq := by
        injection e2 with e2
        injection e2 with e2
        injection e2 with e2 _ _
        subst e2
        have hn3 := (blk_other (blk_other hn (p := ⟨b, 0, none⟩) hnb.symm (.pointer oq)) (p := ⟨b, 1, none⟩) hnb.symm (.int .i64 (d - 1)))
        rw [hn3] at hn2
        injection hn2 with h1
        injection h1 with h2 _ _
        have := congrArg (fun a : Array Value => a[1]?) h2
        simpa using this.symm
      subst hq2
      have hA := blk_set hA1 1 (.int .i64 (d - 1))
      simp only [List.setIfInBounds_toArray, List.set_cons_zero, List.set_cons_succ] at hA
      have hd2 : d - 1 = (r.length : Int) - 1 := by rw [← hde]; simp
      have HLOG := Lib.hid (show LogAt ((w.setCell ⟨b, 0, none⟩ (.pointer oq)).setCell ⟨b, 1, none⟩ (.int .i64 (d - 1))) b r from ⟨oq, by rw [hA, hd2], hr2, by rw [List.length_cons] at h1; omega, by rw [List.length_cons] at hx5; omega⟩)
      have HFR := Lib.hid hf2
      clear hb hn hf hr hfin hA1 hf2 hr2 hn2 hA hde h1 hd2 e2
      go_enter Try.func65, Try.ntmps65
      go_wp2_with fail
      go_ret2
      have hO : Only (fun k => k = b) w ((w.setCell ⟨b, 0, none⟩ (.pointer oq)).setCell ⟨b, 1, none⟩ (.int .i64 (d - 1))) := by repeat (first | (with_reducible exact Only.refl _ _) | (with_reducible apply Only.drew) | (with_reducible apply Only.drewN) | (with_reducible apply Only.alloc) | (with_reducible refine only_set' ?_ ?_ _; (focus ((try simp) <;> omega))))
      first
        | exact ⟨(xv, xf), r, rfl, rfl, hO, HLOG.out, HFR.out⟩
        | exact ⟨xv, xf, r, rfl, rfl, hO, HLOG.out, HFR.out⟩
        | exact ⟨xv, xf, r, ⟨⟨rfl, rfl⟩, rfl⟩, rfl, hO, HLOG.out, HFR.out⟩
theorem pop_nil (w : World) : Calls Try.prog 65 #[.pointer none] w fun e w' => e = .returned (.tuple #[.slice none 0 0, .int .i64 1]) ∧ w = w' := by
  go_enter Try.func65, Try.ntmps65
  go_wp2
  go_ret2
  exact ⟨rfl, rfl⟩
def DropPost (w : World) (b : Nat) (xs : Frs) (e : Ending) (w' : World) : Prop :=
  if xs.length ≤ 1 then e = .returned (.int .i64 8) ∧ w = w'
  else e = .returned (.int .i64 0) ∧ Only (fun k => k = b) w w' ∧ LogAt w' b xs.tail
theorem drop_any (w : World) (b : Nat) (xs : Frs) (h : LogAt w b xs) : Calls Try.prog 49 #[ptr b] w (DropPost w b xs) := by
  have hP := pop_any w b xs h
  unfold PopPost at hP
  unfold DropPost
  by_cases h1 : xs.length ≤ 1
  · simp only [if_pos h1] at hP ⊢
    have HP := Lib.hid hP
    clear hP h h1
    go_enter Try.func49, Try.ntmps49
    go_wp2_with fail; refine (HP.out).mono ?_; rintro e w0 ⟨rfl, rfl⟩
    go_wp2_with fail
    go_ret
    exact ⟨rfl, rfl⟩
  · simp only [if_neg h1] at hP ⊢
    have HP := Lib.hid hP
    clear hP h h1
    go_enter Try.func49, Try.ntmps49
    go_wp2_with fail
    refine HP.out.mono ?_
    rintro e w1 ⟨x, r, rfl, rfl, ho, hL, _⟩
    have HO := Lib.hid ho; have HL := Lib.hid hL
    clear ho hL
    go_wp2_with fail
    go_ret
    exact ⟨rfl, HO.out, HL.out⟩
theorem drop_nil (w : World) : Calls Try.prog 49 #[.pointer none] w fun e w' => e = .returned (.int .i64 1) ∧ w = w' := by
  go_enter Try.func49, Try.ntmps49
  go_wp2_with fail; refine (pop_nil w).mono ?_; rintro e w0 ⟨rfl, rfl⟩
  go_wp2_with fail
  go_ret
  exact ⟨rfl, rfl⟩
theorem lpush_nil (w : World) : Calls Try.prog 48 #[.pointer none] w fun e w' => e = .returned (.int .i64 1) ∧ w = w' := by
  go_enter Try.func48, Try.ntmps48
  go_wp2
  go_ret
  exact ⟨rfl, rfl⟩
theorem merge_nil (w : World) : Calls Try.prog 50 #[.pointer none] w fun e w' => e = .returned (.int .i64 1) ∧ w = w' := by
  go_enter Try.func50, Try.ntmps50
  go_wp2_with fail; refine (pop_nil w).mono ?_; rintro e w0 ⟨rfl, rfl⟩
  go_wp2_with fail
  go_ret
  exact ⟨rfl, rfl⟩
theorem put_nil (w : World) (t v : Int) : Calls Try.prog 51 #[.pointer none, .int .i64 t, .int .u64 v] w fun e w' => e = .returned (.int .i64 1) ∧ w = w' := by
  go_enter Try.func51, Try.ntmps51
  go_wp2
  go_ret
  exact ⟨rfl, rfl⟩
theorem len_nil (w : World) : Calls Try.prog 67 #[.pointer none] w fun e w' => e = .returned (.int .i64 0) ∧ w = w' := by
  go_enter Try.func67, Try.ntmps67
  go_wp2
  go_ret
  exact ⟨rfl, rfl⟩
theorem lget_nil (w : World) (t : Int) : Calls Try.prog 22 #[.pointer none, .int .i64 t] w fun e w' => e = .returned (.tuple #[.int .u64 0, .bool false]) ∧ Below w.heap.size w w' := by
  have bV := (Boxed.new (w.alloc (.cells #[.int .i64 t] 3)) 26 (.int .u64 0)).alloc (.cells #[.bool false] 4)
  have bI := Boxed.new ((w.alloc (.cells #[.int .i64 t] 3)).alloc (.cells #[.int .u64 0] 26)) 4 (.bool false)
  simp only [World.size_alloc] at bV bI
  have cV := bV.cell; have cI := bI.cell
  have hB3 : Below w.heap.size w (((w.alloc (.cells #[.int .i64 t] 3)).alloc (.cells #[.int .u64 0] 26)).alloc (.cells #[.bool false] 4)) := by repeat (first | (with_reducible exact Below.refl _ _) | (with_reducible apply Below.drew) | (with_reducible refine below_drewN ?_ _) | (with_reducible refine below_alloc' ?_ ?_ _; (focus ((try simp) <;> omega))) | (with_reducible refine below_set' ?_ ?_ _; (focus ((try simp) <;> omega))))
  go_enter Try.func22, Try.ntmps22
  go_wp2
  generalize (((w.alloc (.cells #[.int .i64 t] 3)).alloc (.cells #[.int .u64 0] 26)).alloc (.cells #[.bool false] 4)) = W at *
  refine bodyPost_ret (v := .tuple #[.int .u64 0, .bool false]) ?_ rfl ?_; (focus (simp [results, Try.results22, go_sem, cV, cI]; done))
  exact ⟨rfl, hB3⟩
end Go.Proofs.Ytgjemjogncnbnaa.Wri
