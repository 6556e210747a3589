/- Texts of this seat, one behind the other: WriD, WriE, WriN, WriP, WriQ, WriS, WriT. -/
import Derived.Test.YtganmdbhmihjpaaGreatMga
import Derived.Deep.MidRow
import Derived.Laws.Rows
import Derived.Laws.Tables
/- New, Push, pop, Drop, Depth, Put of a log. -/
namespace Go.Proofs.YtganmdbhmihjpaaGreat.Wri
open Go.RowKit
set_option linter.unusedSimpArgs false
set_option linter.unusedVariables false
set_option maxRecDepth 50000

abbrev Frs := List (Value × Frm)
abbrev nilF : Value × Frm := (.slice none 0 0, [])
theorem frAt_nil (w : World) : FrAt w (.slice none 0 0) [] := World.ownsRow_nil _ _ _ _
theorem new_any (w : World) : Calls Tryz.prog 76 #[] w fun e w' => ∃ b, e = .returned (ptr b) ∧ w.heap.size ≤ b ∧ LogAt w' b [nilF] ∧ Below w.heap.size w w' := by
  go_enter Tryz.func76, Tryz.ntmps76
  go_wp2_with fail
  refine (push_any w none none 0 0).mono ?_
  rintro e w1 ⟨rfl, rfl⟩
  go_wp2_with fail
  go_ret
  refine ⟨w.heap.size + 1, by simp [ptr], by omega, ?_, by repeat (first | (with_reducible exact Below.refl _ _) | (with_reducible apply Below.drew) | (with_reducible refine below_drewN ?_ _) | (with_reducible refine below_alloc' ?_ ?_ _; (focus ((try simp) <;> omega))) | (with_reducible refine below_set' ?_ ?_ _; (focus ((try simp) <;> omega))))⟩
  refine ⟨some ⟨w.heap.size, 0, none⟩, by simp [↓heap_alloc_eq, ↓heap_set_eq, ↓heap_drew_eq, ↓heap_drewN_eq, setObj, size_drewN], ⟨w.heap.size, .pointer none, rfl, by simp [↓heap_alloc_eq, ↓heap_set_eq, ↓heap_drew_eq, ↓heap_drewN_eq, setObj, size_drewN], frAt_nil _, by simp, rfl⟩, by simp, by simp⟩
theorem depth_any (w : World) (b : Nat) (xs : Frs) (h : LogAt w b xs) : Calls Tryz.prog 78 #[ptr b] w fun e w' => e = .returned (.int .i64 ((xs.length : Int) - 1)) ∧ w = w' := by
  obtain ⟨o, hb, hS, hx1, hx5⟩ := h
  have b1 := blk_cell hb 1
  simp only [List.getElem?_toArray, List.getElem?_cons_zero, List.getElem?_cons_succ] at b1
  clear hb hS
  go_enter Tryz.func78, Tryz.ntmps78
  go_wp2
  go_ret
  exact ⟨rfl, rfl⟩
theorem depth_nil (w : World) : Calls Tryz.prog 78 #[.pointer none] w fun e w' => e = .returned (.int .i64 0) ∧ w = w' := by
  go_enter Tryz.func78, Tryz.ntmps78
  go_wp2
  go_ret
  exact ⟨rfl, rfl⟩
/-- the log's two cells are turned: another stack, another depth -/
theorem LogAt.turn {w w' : World} {b : Nat} {xs : Frs} {o : Option Addr} (hb : w'.heap[b]? = some (.cells #[.pointer o, .int .i64 ((xs.length : Int) - 1)] 123 (0, 0))) (hS : StackAt w' (.pointer o) xs) (h1 : 1 ≤ xs.length) (h5 : xs.length ≤ 5) : LogAt w' b xs := ⟨o, hb, hS, h1, h5⟩
/-- a stack stands through a turn of a block that is no part of it -/
theorem StackAt.set {w : World} {b i : Nat} {v : Value} {cs : Array Value} (hb : w.heap[b]? = some (.cells cs 123 (0, 0))) : ∀ {p : Value} {xs : Frs}, StackAt w p xs → StackAt (w.setCell ⟨b, i, none⟩ v) p xs
  | _, [], h => h
  | _, x :: r, ⟨b', q, e, hb', hf, hl, hr⟩ => by
    have hne : b ≠ b' := by
      rintro rfl
      rw [hb] at hb'
      injection hb' with h1
      injection h1 with _ h2 _
      exact absurd h2 (by decide)
    refine ⟨b', q, e, (blk_other hb' (p := ⟨b, i, none⟩) hne.symm v), ?_, hl, StackAt.set hb hr⟩
    refine ownsRow_only (S := fun k => k = b) hf ((Only.refl (fun k => k = b) w).setCell (p := ⟨b, i, none⟩) (.inr rfl) v) ?_
    intro k hk e
    subst e
    rcases hf.2 with ⟨h0, _⟩ | ⟨g, cap, cur, h0, _, hg, _⟩
    · rw [h0] at hk; cases hk
    · rw [h0] at hk
      injection hk with hk
      subst hk
      rw [hb] at hg
      injection hg with h1
      injection h1 with _ h2 _
      exact absurd h2 (by decide)
def PushPost (w : World) (b : Nat) (xs : Frs) (e : Ending) (w' : World) : Prop :=
  if 5 ≤ xs.length then e = .returned (.int .i64 4) ∧ w = w' else e = .returned (.int .i64 0) ∧ Only (fun k => k = b) w w' ∧ LogAt w' b (nilF :: xs)
theorem lpush_any (w : World) (b : Nat) (xs : Frs) (h : LogAt w b xs) : Calls Tryz.prog 90 #[ptr b] w (PushPost w b xs) := by
  obtain ⟨o, hb, hS, hx1, hx5⟩ := h
  have hblt := blk_lt hb
  have b0 := blk_cell hb 0; have b1 := blk_cell hb 1
  have bf := blk_free hb
  simp only [List.getElem?_toArray, List.getElem?_cons_zero, List.getElem?_cons_succ] at b0 b1
  unfold PushPost
  by_cases h5 : 5 ≤ xs.length
  · simp only [if_pos h5]
    have hd : decide ((4 : Int) ≤ (xs.length : Int) - 1) = true := by simp; omega
    clear hb hS h5
    generalize (xs.length : Int) - 1 = d at *
    go_enter Tryz.func90, Tryz.ntmps90
    go_wp2
    go_ret
    exact ⟨rfl, rfl⟩
  · simp only [if_neg h5]
    have hd : decide ((4 : Int) ≤ (xs.length : Int) - 1) = false := by simp; omega
    obtain ⟨d, hde⟩ : ∃ d, (xs.length : Int) - 1 = d := ⟨_, rfl⟩
    have hw : IntKind.i64.wrap (d + 1) = d + 1 := by rw [IntKind.wrap_i64]; omega
    have HB := Lib.hid hb; have HS := Lib.hid hS; have HD := Lib.hid hde
    rw [hde] at hd b1
    clear hb hS hde
    go_enter Tryz.func90, Tryz.ntmps90
    go_wp2_with fail
    refine (push_any w o none 0 0).mono ?_
    rintro e w1 ⟨rfl, rfl⟩
    have lb : Below w.heap.size w (w.alloc (.cells #[.slice none 0 0, .pointer o] 142)) := by repeat (first | (with_reducible exact Below.refl _ _) | (with_reducible apply Below.drew) | (with_reducible refine below_drewN ?_ _) | (with_reducible refine below_alloc' ?_ ?_ _; (focus ((try simp) <;> omega))) | (with_reducible refine below_set' ?_ ?_ _; (focus ((try simp) <;> omega))))
    have hn := blk_new w (.cells #[.slice none 0 0, .pointer o] 142)
    replace b0 := bkeep lb b0; replace b1 := bkeep lb b1
    have hb1 := bblk lb HB.out
    have bf1 := blk_free hb1
    have HL := Lib.hid lb; have HN := Lib.hid hn; have HB1 := Lib.hid hb1; have HS1 := Lib.hid (HS.out.below lb)
    clear lb hn hb1 bf
    generalize w.alloc (.cells #[.slice none 0 0, .pointer o] 142) = w1 at *
    go_wp2_with fail
    go_ret
    refine ⟨rfl, ?_, ?_⟩
    · repeat (first | (with_reducible exact Only.of_below HL.out (fun k hk h => by omega)) | (with_reducible refine only_set' ?_ ?_ _; (focus ((try simp) <;> omega))))
    · have hA := blk_set (blk_set HB1.out 0 (ptr w.heap.size)) 1 (.int .i64 (d + 1))
      simp only [List.setIfInBounds_toArray, List.set_cons_zero, List.set_cons_succ] at hA
      have hsA := blk_set HB1.out 0 (ptr w.heap.size)
      refine ⟨some ⟨w.heap.size, 0, none⟩, ?_, ?_, by simp, by simp; omega⟩
      · rw [hA]
        simp
        have := HD.out
        omega
      · have hs0 : StackAt w1 (ptr w.heap.size) (nilF :: xs) := ⟨w.heap.size, .pointer o, rfl, HN.out, frAt_nil _, by simp, HS1.out⟩
        exact StackAt.set (by simpa using hsA) (StackAt.set HB1.out hs0)

/-! ### pop, Drop -/
def PopPost (w : World) (b : Nat) (xs : Frs) (e : Ending) (w' : World) : Prop :=
  if xs.length ≤ 1 then e = .returned (.tuple #[.slice none 0 0, .int .i64 8]) ∧ w = w'
  else ∃ x r, xs = x :: r ∧ e = .returned (.tuple #[x.1, .int .i64 0]) ∧ Only (fun k => k = b) w w' ∧ LogAt w' b r ∧ FrAt w' x.1 x.2
theorem pop_any (w : World) (b : Nat) (xs : Frs) (h : LogAt w b xs) : Calls Tryz.prog 105 #[ptr b] w (PopPost w b xs) := by
  obtain ⟨o, hb, hS, hx1, hx5⟩ := h
  have hblt := blk_lt hb
  have b0 := blk_cell hb 0; have b1 := blk_cell hb 1
  have bf := blk_free hb
  simp only [List.getElem?_toArray, List.getElem?_cons_zero, List.getElem?_cons_succ] at b0 b1
  unfold PopPost
  by_cases h1 : xs.length ≤ 1
  · simp only [if_pos h1]
    have hd : ((xs.length : Int) - 1 == 0) = true := by simp; omega
    clear hb hS h1
    generalize (xs.length : Int) - 1 = d at *
    go_enter Tryz.func105, Tryz.ntmps105
    go_wp2
    go_ret2
    exact ⟨rfl, rfl⟩
  · simp only [if_neg h1]
    have hd : ((xs.length : Int) - 1 == 0) = false := by simp; omega
    obtain ⟨d, hde⟩ : ∃ d, (xs.length : Int) - 1 = d := ⟨_, rfl⟩
    have hw : IntKind.i64.wrap (d - 1) = d - 1 := by rw [IntKind.wrap_i64]; omega
    have HB := Lib.hid hb; have HD := Lib.hid hde
    rw [hde] at hd b1
    cases xs with
    | nil => simp at h1
    | cons x r =>
      obtain ⟨nb, q, e0, hn, hf, hl, hr⟩ := hS
      obtain ⟨oq, rfl⟩ := hr.isPtr
      injection e0 with e0
      subst e0
      obtain ⟨xv, xf⟩ := x
      simp only at hn hf hl
      have n0 := blk_cell hn 0; have n1 := blk_cell hn 1
      simp only [List.getElem?_toArray, List.getElem?_cons_zero, List.getElem?_cons_succ] at n0 n1
      have hnb : b ≠ nb := by
        rintro rfl
        have := hb.symm.trans hn
        injection this with h1
        injection h1 with _ h2 _
        exact absurd h2 (by decide)
      have hfin := (StackAt.set (i := 0) (v := .pointer oq) hb (xs := (xv, xf) :: r) (p := ptr nb) ⟨nb, _, rfl, hn, hf, hl, hr⟩)
      have hA1 := blk_set hb 0 (.pointer oq)
      have hfin2 := StackAt.set (i := 1) (v := .int .i64 (d - 1)) (by simpa using hA1) hfin
      obtain ⟨nb2, q2, e2, hn2, hf2, _, hr2⟩ := hfin2
      have hq2 : q2 = .pointer oq := by
        injection e2 with e2
        injection e2 with e2
        injection e2 with e2 _ _
        subst e2
        have hn3 := (blk_other (blk_other hn (p := ⟨b, 0, none⟩) hnb.symm (.pointer oq)) (p := ⟨b, 1, none⟩) hnb.symm (.int .i64 (d - 1)))
        rw [hn3] at hn2
        injection hn2 with h1
        injection h1 with h2 _ _
        have := congrArg (fun a : Array Value => a[1]?) h2
        simpa using this.symm
      subst hq2
      have hA := blk_set hA1 1 (.int .i64 (d - 1))
      simp only [List.setIfInBounds_toArray, List.set_cons_zero, List.set_cons_succ] at hA
      have hd2 : d - 1 = (r.length : Int) - 1 := by rw [← hde]; simp
      have HLOG := Lib.hid (show LogAt ((w.setCell ⟨b, 0, none⟩ (.pointer oq)).setCell ⟨b, 1, none⟩ (.int .i64 (d - 1))) b r from ⟨oq, by rw [hA, hd2], hr2, by rw [List.length_cons] at h1; omega, by rw [List.length_cons] at hx5; omega⟩)
      have HFR := Lib.hid hf2
      clear hb hn hf hr hfin hA1 hf2 hr2 hn2 hA hde h1 hd2 e2
      go_enter Tryz.func105, Tryz.ntmps105
      go_wp2_with fail
      go_ret2
      have hO : Only (fun k => k = b) w ((w.setCell ⟨b, 0, none⟩ (.pointer oq)).setCell ⟨b, 1, none⟩ (.int .i64 (d - 1))) := by repeat (first | (with_reducible exact Only.refl _ _) | (with_reducible apply Only.drew) | (with_reducible apply Only.drewN) | (with_reducible apply Only.alloc) | (with_reducible refine only_set' ?_ ?_ _; (focus ((try simp) <;> omega))))
      first
        | exact ⟨(xv, xf), r, rfl, rfl, hO, HLOG.out, HFR.out⟩
        | exact ⟨xv, xf, r, rfl, rfl, hO, HLOG.out, HFR.out⟩
        | exact ⟨xv, xf, r, ⟨⟨rfl, rfl⟩, rfl⟩, rfl, hO, HLOG.out, HFR.out⟩
theorem pop_nil (w : World) : Calls Tryz.prog 105 #[.pointer none] w fun e w' => e = .returned (.tuple #[.slice none 0 0, .int .i64 1]) ∧ w = w' := by
  go_enter Tryz.func105, Tryz.ntmps105
  go_wp2
  go_ret2
  exact ⟨rfl, rfl⟩
def DropPost (w : World) (b : Nat) (xs : Frs) (e : Ending) (w' : World) : Prop :=
  if xs.length ≤ 1 then e = .returned (.int .i64 8) ∧ w = w'
  else e = .returned (.int .i64 0) ∧ Only (fun k => k = b) w w' ∧ LogAt w' b xs.tail
theorem drop_any (w : World) (b : Nat) (xs : Frs) (h : LogAt w b xs) : Calls Tryz.prog 91 #[ptr b] w (DropPost w b xs) := by
  have hP := pop_any w b xs h
  unfold PopPost at hP
  unfold DropPost
  by_cases h1 : xs.length ≤ 1
  · simp only [if_pos h1] at hP ⊢
    have HP := Lib.hid hP
    clear hP h h1
    go_enter Tryz.func91, Tryz.ntmps91
    go_wp2_with fail; refine (HP.out).mono ?_; rintro e w0 ⟨rfl, rfl⟩
    go_wp2_with fail
    go_ret
    exact ⟨rfl, rfl⟩
  · simp only [if_neg h1] at hP ⊢
    have HP := Lib.hid hP
    clear hP h h1
    go_enter Tryz.func91, Tryz.ntmps91
    go_wp2_with fail
    refine HP.out.mono ?_
    rintro e w1 ⟨x, r, rfl, rfl, ho, hL, _⟩
    have HO := Lib.hid ho; have HL := Lib.hid hL
    clear ho hL
    go_wp2_with fail
    go_ret
    exact ⟨rfl, HO.out, HL.out⟩
theorem drop_nil (w : World) : Calls Tryz.prog 91 #[.pointer none] w fun e w' => e = .returned (.int .i64 1) ∧ w = w' := by
  go_enter Tryz.func91, Tryz.ntmps91
  go_wp2_with fail; refine (pop_nil w).mono ?_; rintro e w0 ⟨rfl, rfl⟩
  go_wp2_with fail
  go_ret
  exact ⟨rfl, rfl⟩
theorem lpush_nil (w : World) : Calls Tryz.prog 90 #[.pointer none] w fun e w' => e = .returned (.int .i64 1) ∧ w = w' := by
  go_enter Tryz.func90, Tryz.ntmps90
  go_wp2
  go_ret
  exact ⟨rfl, rfl⟩
theorem merge_nil (w : World) : Calls Tryz.prog 92 #[.pointer none] w fun e w' => e = .returned (.int .i64 1) ∧ w = w' := by
  go_enter Tryz.func92, Tryz.ntmps92
  go_wp2_with fail; refine (pop_nil w).mono ?_; rintro e w0 ⟨rfl, rfl⟩
  go_wp2_with fail
  go_ret
  exact ⟨rfl, rfl⟩
theorem put_nil (w : World) (t v : Int) : Calls Tryz.prog 89 #[.pointer none, .int .i64 t, .int .u64 v] w fun e w' => e = .returned (.int .i64 1) ∧ w = w' := by
  go_enter Tryz.func89, Tryz.ntmps89
  go_wp2
  go_ret
  exact ⟨rfl, rfl⟩
theorem len_nil (w : World) : Calls Tryz.prog 103 #[.pointer none] w fun e w' => e = .returned (.int .i64 0) ∧ w = w' := by
  go_enter Tryz.func103, Tryz.ntmps103
  go_wp2
  go_ret
  exact ⟨rfl, rfl⟩
theorem lget_nil (w : World) (t : Int) : Calls Tryz.prog 79 #[.pointer none, .int .i64 t] w fun e w' => e = .returned (.tuple #[.int .u64 0, .bool false]) ∧ Below w.heap.size w w' := by
  have bV := (Boxed.new (w.alloc (.cells #[.int .i64 t] 3)) 58 (.int .u64 0)).alloc (.cells #[.bool false] 4)
  have bI := Boxed.new ((w.alloc (.cells #[.int .i64 t] 3)).alloc (.cells #[.int .u64 0] 58)) 4 (.bool false)
  simp only [World.size_alloc] at bV bI
  have cV := bV.cell; have cI := bI.cell
  have hB3 : Below w.heap.size w (((w.alloc (.cells #[.int .i64 t] 3)).alloc (.cells #[.int .u64 0] 58)).alloc (.cells #[.bool false] 4)) := by repeat (first | (with_reducible exact Below.refl _ _) | (with_reducible apply Below.drew) | (with_reducible refine below_drewN ?_ _) | (with_reducible refine below_alloc' ?_ ?_ _; (focus ((try simp) <;> omega))) | (with_reducible refine below_set' ?_ ?_ _; (focus ((try simp) <;> omega))))
  go_enter Tryz.func79, Tryz.ntmps79
  go_wp2
  generalize (((w.alloc (.cells #[.int .i64 t] 3)).alloc (.cells #[.int .u64 0] 58)).alloc (.cells #[.bool false] 4)) = W at *
  refine bodyPost_ret (v := .tuple #[.int .u64 0, .bool false]) ?_ rfl ?_; (focus (simp [results, Tryz.results79, go_sem, cV, cI]; done))
  exact ⟨rfl, hB3⟩
end Go.Proofs.YtganmdbhmihjpaaGreat.Wri
/- Put of a log. -/
namespace Go.Proofs.YtganmdbhmihjpaaGreat.Wri
open Go.RowKit
set_option linter.unusedSimpArgs false
set_option linter.unusedVariables false
set_option maxRecDepth 50000

def okT (t : Int) : Prop := 0 ≤ t ∧ t < 12
instance (t : Int) : Decidable (okT t) := inferInstanceAs (Decidable (_ ∧ _))
def putE (xs : Frs) (t v : Int) : Int :=
  if ¬ okT t then 2 else if rightVal v = false then 3 else match xs with
    | [] => 0
    | x :: _ => if getF x.2 t = none ∧ 16 ≤ lenAll xs then 4 else 0
def PutPost (w : World) (b : Nat) (xs : Frs) (t v : Int) (e : Ending) (w' : World) : Prop :=
  e = .returned (.int .i64 (putE xs t v)) ∧ Only (fun k => k = b) w w' ∧ (putE xs t v ≠ 0 → LogAt w' b xs) ∧
    (putE xs t v = 0 → ∀ x r, xs = x :: r → ∃ u, LogAt w' b ((u, putF x.2 t v) :: r) ∧ Fr w u)
theorem put_range (w : World) (b : Nat) (t v : Int) (h : ¬ okT t) : Calls Tryz.prog 89 #[ptr b, .int .i64 t, .int .u64 v] w fun e w' => e = .returned (.int .i64 2) ∧ w = w' := by
  by_cases h0 : t < 0
  · have hd : decide (t < 0) = true := by simpa using h0
    go_enter Tryz.func89, Tryz.ntmps89
    go_wp2
    go_ret
    exact ⟨rfl, rfl⟩
  · have hd : decide (t < 0) = false := by simpa using h0
    have hd2 : decide (12 ≤ t) = true := by simp; unfold okT at h; omega
    go_enter Tryz.func89, Tryz.ntmps89
    go_wp2
    go_ret
    exact ⟨rfl, rfl⟩
theorem put_form (w : World) (b : Nat) (t v : Int) (h : okT t) (hv : 0 ≤ v ∧ v < 18446744073709551616) (hr : rightVal v = false) : Calls Tryz.prog 89 #[ptr b, .int .i64 t, .int .u64 v] w fun e w' => e = .returned (.int .i64 3) ∧ w = w' := by
  have hd : decide (t < 0) = false := by simp; exact h.1
  have hd2 : decide (12 ≤ t) = false := by simp; exact h.2
  have hR := vRight_any w v hv
  rw [hr] at hR
  have HR := Lib.hid hR
  clear hR hr
  go_enter Tryz.func89, Tryz.ntmps89
  go_wp2_with fail; refine (HR.out).mono ?_; rintro e w0 ⟨rfl, rfl⟩
  go_wp2_with fail
  go_ret
  exact ⟨rfl, rfl⟩
set_option maxHeartbeats 1600000 in
theorem put_space (w : World) (b : Nat) (x : Value × Frm) (r : Frs) (t v : Int) (h : LogAt w b (x :: r)) (ht : okT t) (hv : 0 ≤ v ∧ v < 18446744073709551616) (hr : rightVal v = true) (hn : getF x.2 t = none) (hl : 16 ≤ lenAll (x :: r)) :
    Calls Tryz.prog 89 #[ptr b, .int .i64 t, .int .u64 v] w fun e w' => e = .returned (.int .i64 4) ∧ Below w.heap.size w w' := by
  have hd : decide (t < 0) = false := by simp; exact ht.1
  have hd2 : decide (12 ≤ t) = false := by simp; exact ht.2
  have hR := vRight_any w v hv
  rw [hr] at hR
  have HR := Lib.hid hR
  have HLOG := Lib.hid h
  obtain ⟨o, hb, hS, hx1, hx5⟩ := h
  obtain ⟨nb, q, e0, hnn, hf, hfl, hrr⟩ := hS
  injection e0 with e0
  subst e0
  have b0 := blk_cell hb 0
  have n0 := blk_cell hnn 0
  simp only [List.getElem?_toArray, List.getElem?_cons_zero] at b0 n0
  have hG := get_any w x.1 x.2 hf hfl t
  rw [hn] at hG
  have HG := Lib.hid hG
  have hle : decide (16 ≤ lenAll (x :: r)) = true := by simpa using hl
  have HLE := Lib.hid (show ∀ W, LogAt W b (x :: r) → Calls Tryz.prog 103 #[ptr b] W fun e w' => e = .returned (.int .i64 (lenAll (x :: r))) ∧ Below W.heap.size W w' from fun W h => len_any W b _ h)
  obtain ⟨L, hL⟩ : ∃ L, lenAll (x :: r) = L := ⟨_, rfl⟩
  rw [hL] at HLE hle
  clear hR hr hb hnn hf hrr hG hL hl hn
  go_enter Tryz.func89, Tryz.ntmps89
  go_wp2_with fail; refine (HR.out).mono ?_; rintro e w0 ⟨rfl, rfl⟩
  go_wp2_with fail
  refine HG.out.mono ?_
  rintro e w1 ⟨rfl, l1⟩
  have HL1 := Lib.hid l1; have HLG1 := Lib.hid (HLOG.out.below l1)
  clear l1 b0 n0
  simp only [Option.getD_none, Option.isSome_none]
  go_wp2_with fail
  refine (HLE.out w1 HLG1.out).mono ?_
  rintro e w2 ⟨rfl, l2⟩
  have HL2 := Lib.hid (btrans HL1.out (Nat.le_refl _) l2)
  clear l2
  go_wp2_with fail
  go_ret
  exact ⟨rfl, HL2.out⟩
/-- the last part of Put: the new frame is laid over the others -/
def PutDone (w : World) (b : Nat) (x : Value × Frm) (r : Frs) (t v : Int) (e : Ending) (w' : World) : Prop :=
  e = .returned (.int .i64 0) ∧ Only (fun k => k = b) w w' ∧ ∃ u, LogAt w' b ((u, putF x.2 t v) :: r) ∧ Fr w u
set_option maxHeartbeats 1600000 in
theorem put_done (w : World) (b : Nat) (x : Value × Frm) (r : Frs) (t v : Int) (h : LogAt w b (x :: r)) (hx9 : x.2.length ≤ 900) (ht : okT t) (hv : 0 ≤ v ∧ v < 18446744073709551616) (hr : rightVal v = true) (hn : ¬ (getF x.2 t = none ∧ 16 ≤ lenAll (x :: r))) :
    Calls Tryz.prog 89 #[ptr b, .int .i64 t, .int .u64 v] w (PutDone w b x r t v) := by
  have hd : decide (t < 0) = false := by simp; exact ht.1
  have hd2 : decide (12 ≤ t) = false := by simp; exact ht.2
  have hR := vRight_any w v hv
  rw [hr] at hR
  have HR := Lib.hid hR
  have HLOG := Lib.hid h
  obtain ⟨o, hb, hS, hx1, hx5⟩ := h
  obtain ⟨nb, q, e0, hnn, hf, hfl, hrr⟩ := hS
  obtain ⟨oq, rfl⟩ := hrr.isPtr
  injection e0 with e0
  subst e0
  have b0 := blk_cell hb 0
  have n0 := blk_cell hnn 0; have n1 := blk_cell hnn 1
  simp only [List.getElem?_toArray, List.getElem?_cons_zero, List.getElem?_cons_succ] at b0 n0 n1
  have hG := get_any w x.1 x.2 hf hfl t
  have HB := Lib.hid hb; have HN := Lib.hid hnn; have HF := Lib.hid hf; have HRR := Lib.hid hrr
  have HLE := Lib.hid (show ∀ W, LogAt W b (x :: r) → Calls Tryz.prog 103 #[ptr b] W fun e w' => e = .returned (.int .i64 (lenAll (x :: r))) ∧ Below W.heap.size W w' from fun W h => len_any W b _ h)
  have KW := Lib.hid (show ∀ w', Below w.heap.size w w' → (w'.cell? ⟨b, 0, none⟩ = some (ptr nb) ∧ w'.cell? ⟨nb, 0, none⟩ = some x.1 ∧ w'.cell? ⟨nb, 1, none⟩ = some (.pointer oq)) from fun w' h => ⟨bkeep h b0, bkeep h n0, bkeep h n1⟩)
  have KF := Lib.hid (show ∀ w', Below w.heap.size w w' → ∀ i, w'.frozen? ⟨b, i, none⟩ = false from fun w' h => blk_free (bblk h HB.out))
  have HPUT := Lib.hid (show ∀ W, Below w.heap.size w W → Calls Tryz.prog 104 #[x.1, .agg #[.int .i64 t, .int .u64 v]] W fun e w' => ∃ a n c, e = .returned (.slice a n c) ∧ FrAt w' (.slice a n c) (putF x.2 t v) ∧ Below W.heap.size W w' ∧ Fr W (.slice a n c) from fun W hl => put_any W x.1 x.2 (frAt_below (w := w) HF.out hl) hx9 t v)
  have hpl := putF_len x.2 t v
  unfold PutDone
  cases hg : getF x.2 t with
  | some g0 =>
    rw [hg] at hG
    have HG := Lib.hid hG
    clear hR hr hb hnn hf hrr hG hn hg HLE
    go_enter Tryz.func89, Tryz.ntmps89
    go_wp2_with fail; refine (HR.out).mono ?_; rintro e w0 ⟨rfl, rfl⟩
    go_wp2_with fail
    refine HG.out.mono ?_
    rintro e WW ⟨rfl, l1⟩
    have HLW := Lib.hid l1
    clear l1 b0 n0 n1
    simp only [Option.getD_some, Option.isSome_some]
    go_wp2_with fail
    have QL := btrans HLW.out (Nat.le_refl _) (show Below WW.heap.size WW WW.drew from (Below.refl _ _).drew)
    refine wp_region_F (fun w' => w'.cell? ⟨b, 0, none⟩ = some (ptr nb) ∧ w'.cell? ⟨nb, 0, none⟩ = some x.1 ∧ w'.cell? ⟨nb, 1, none⟩ = some (.pointer oq)) 22 (by kernel_rfl) ?_
    have hS0 := KW.out WW.drew QL
    refine wpAnyF_take (i := 0) (v := ?_) rfl (by kernel_rfl) (by kernel_rfl) (by kernel_rfl) (by kernel_rfl) (fun _ _ _ h => h) (Or.inl ⟨by rfl, ?_⟩) (by assumption) ?_; rotate_left; (focus (intro w hSw; (skip); (first | (go_simp; done) | (go_simp; with_reducible rfl)))); (try simp only [Act.put, List.setIfInBounds_toArray, List.set_cons_zero, List.set_cons_succ])
    refine wpAnyF_take (i := 1) (v := ?_) rfl (by kernel_rfl) (by kernel_rfl) (by kernel_rfl) (by kernel_rfl) (fun _ _ _ h => h) (Or.inl ⟨by rfl, ?_⟩) (by assumption) ?_; rotate_left; (focus (intro w hSw; (skip); (first | (go_simp; done) | (go_simp; with_reducible rfl)))); (try simp only [Act.put, List.setIfInBounds_toArray, List.set_cons_zero, List.set_cons_succ])
    refine wpAnyF_take (i := 2) (v := ?_) rfl (by kernel_rfl) (by kernel_rfl) (by kernel_rfl) (by kernel_rfl) (fun _ _ _ h => h) (Or.inl ⟨by rfl, ?_⟩) (by assumption) ?_; rotate_left; (focus (intro w hSw; (skip); (first | (go_simp; done) | (go_simp; with_reducible rfl)))); (try simp only [Act.put, List.setIfInBounds_toArray, List.set_cons_zero, List.set_cons_succ])
    refine wpAnyF_take (i := 3) (v := ?_) rfl (by kernel_rfl) (by kernel_rfl) (by kernel_rfl) (by kernel_rfl) (fun _ _ _ h => h) (Or.inl ⟨by rfl, ?_⟩) (by assumption) ?_; rotate_left; (focus (intro w hSw; (skip); (first | (go_simp; done) | (go_simp; with_reducible rfl)))); (try simp only [Act.put, List.setIfInBounds_toArray, List.set_cons_zero, List.set_cons_succ])
    refine wpAnyF_take (i := 4) (v := ?_) rfl (by kernel_rfl) (by kernel_rfl) (by kernel_rfl) (by kernel_rfl) (fun _ _ _ h => h) (Or.inl ⟨by rfl, ?_⟩) (by assumption) ?_; rotate_left; (focus (intro w hSw; (obtain ⟨q0, q1, q2⟩ := hSw); (first | (go_simp; done) | (go_simp; with_reducible rfl)))); (try simp only [Act.put, List.setIfInBounds_toArray, List.set_cons_zero, List.set_cons_succ])
    refine wpAnyF_take (i := 5) (v := ?_) rfl (by kernel_rfl) (by kernel_rfl) (by kernel_rfl) (by kernel_rfl) (fun _ _ _ h => h) (Or.inl ⟨by rfl, ?_⟩) (by assumption) ?_; rotate_left; (focus (intro w hSw; (skip); (first | (go_simp; done) | (go_simp; with_reducible rfl)))); (try simp only [Act.put, List.setIfInBounds_toArray, List.set_cons_zero, List.set_cons_succ])
    refine wpAnyF_take (i := 6) (v := ?_) rfl (by kernel_rfl) (by kernel_rfl) (by kernel_rfl) (by kernel_rfl) (fun _ _ _ h => h) (Or.inl ⟨by rfl, ?_⟩) (by assumption) ?_; rotate_left; (focus (intro w hSw; (skip); (first | (go_simp; done) | (go_simp; with_reducible rfl)))); (try simp only [Act.put, List.setIfInBounds_toArray, List.set_cons_zero, List.set_cons_succ])
    refine wpAnyF_take (i := 7) (v := ?_) rfl (by kernel_rfl) (by kernel_rfl) (by kernel_rfl) (by kernel_rfl) (fun _ _ _ h => h) (Or.inl ⟨by rfl, ?_⟩) (by assumption) ?_; rotate_left; (focus (intro w hSw; (obtain ⟨q0, q1, q2⟩ := hSw); (first | (go_simp; done) | (go_simp; with_reducible rfl)))); (try simp only [Act.put, List.setIfInBounds_toArray, List.set_cons_zero, List.set_cons_succ])
    refine wpAnyF_take (i := 8) (v := ?_) rfl (by kernel_rfl) (by kernel_rfl) (by kernel_rfl) (by kernel_rfl) (fun _ _ _ h => h) (Or.inl ⟨by rfl, ?_⟩) (by assumption) ?_; rotate_left; (focus (intro w hSw; (skip); (first | (go_simp; done) | (go_simp; with_reducible rfl)))); (try simp only [Act.put, List.setIfInBounds_toArray, List.set_cons_zero, List.set_cons_succ])
    refine wpAnyF_take (i := 9) (v := ?_) rfl (by kernel_rfl) (by kernel_rfl) (by kernel_rfl) (by kernel_rfl) (fun _ _ _ h => h) (Or.inl ⟨by rfl, ?_⟩) (by assumption) ?_; rotate_left; (focus (intro w hSw; (skip); (first | (go_simp; done) | (go_simp; with_reducible rfl)))); (try simp only [Act.put, List.setIfInBounds_toArray, List.set_cons_zero, List.set_cons_succ])
    refine wpAnyF_take (i := 10) (v := ?_) rfl (by kernel_rfl) (by kernel_rfl) (by kernel_rfl) (by kernel_rfl) (fun _ _ _ h => h) (Or.inl ⟨by rfl, ?_⟩) (by assumption) ?_; rotate_left; (focus (intro w hSw; (skip); (first | (go_simp; done) | (go_simp; with_reducible rfl)))); (try simp only [Act.put, List.setIfInBounds_toArray, List.set_cons_zero, List.set_cons_succ])
    refine wpAnyF_take (i := 11) (v := ?_) rfl (by kernel_rfl) (by kernel_rfl) (by kernel_rfl) (by kernel_rfl) (fun _ _ _ h => h) (Or.inl ⟨by rfl, ?_⟩) (by assumption) ?_; rotate_left; (focus (intro w hSw; (obtain ⟨q0, q1, q2⟩ := hSw); (first | (go_simp; done) | (go_simp; with_reducible rfl)))); (try simp only [Act.put, List.setIfInBounds_toArray, List.set_cons_zero, List.set_cons_succ])
    refine wpAnyF_take (i := 12) (v := ?_) rfl (by kernel_rfl) (by kernel_rfl) (by kernel_rfl) (by kernel_rfl) (fun _ _ _ h => h) (Or.inl ⟨by rfl, ?_⟩) (by assumption) ?_; rotate_left; (focus (intro w hSw; (skip); (first | (go_simp; done) | (go_simp; with_reducible rfl)))); (try simp only [Act.put, List.setIfInBounds_toArray, List.set_cons_zero, List.set_cons_succ])
    refine wpAnyF_take (i := 13) (v := ?_) rfl (by kernel_rfl) (by kernel_rfl) (by kernel_rfl) (by kernel_rfl) (fun _ _ _ h => h) (Or.inl ⟨by rfl, ?_⟩) (by assumption) ?_; rotate_left; (focus (intro w hSw; (skip); (first | (go_simp; done) | (go_simp; with_reducible rfl)))); (try simp only [Act.put, List.setIfInBounds_toArray, List.set_cons_zero, List.set_cons_succ])
    refine wpAnyF_take (i := 14) (v := ?_) rfl (by kernel_rfl) (by kernel_rfl) (by kernel_rfl) (by kernel_rfl) (fun _ _ _ h => h) (Or.inl ⟨by rfl, ?_⟩) (by assumption) ?_; rotate_left; (focus (intro w hSw; (obtain ⟨q0, q1, q2⟩ := hSw); (first | (go_simp; done) | (go_simp; with_reducible rfl)))); (try simp only [Act.put, List.setIfInBounds_toArray, List.set_cons_zero, List.set_cons_succ])
    refine wpAnyF_take (i := 15) (v := ?_) rfl (by kernel_rfl) (by kernel_rfl) (by kernel_rfl) (by kernel_rfl) (fun _ _ _ h => h) (Or.inl ⟨by rfl, ?_⟩) (by assumption) ?_; rotate_left; (focus (intro w hSw; (skip); (first | (go_simp; done) | (go_simp; with_reducible rfl)))); (try simp only [Act.put, List.setIfInBounds_toArray, List.set_cons_zero, List.set_cons_succ])
    refine wpAnyF_take (i := 16) (v := ?_) rfl (by kernel_rfl) (by kernel_rfl) (by kernel_rfl) (by kernel_rfl) (fun _ _ _ h => h) (Or.inl ⟨by rfl, ?_⟩) (by assumption) ?_; rotate_left; (focus (intro w hSw; (skip); (first | (go_simp; done) | (go_simp; with_reducible rfl)))); (try simp only [Act.put, List.setIfInBounds_toArray, List.set_cons_zero, List.set_cons_succ])
    refine wpAnyF_take (i := 17) (v := ?_) rfl (by kernel_rfl) (by kernel_rfl) (by kernel_rfl) (by kernel_rfl) (fun _ _ _ h => h) (Or.inl ⟨by rfl, ?_⟩) (by assumption) ?_; rotate_left; (focus (intro w hSw; (skip); (first | (go_simp; done) | (go_simp; with_reducible rfl)))); (try simp only [Act.put, List.setIfInBounds_toArray, List.set_cons_zero, List.set_cons_succ])
    refine wpAnyF_ready (rs := [18]) (by kernel_rfl) (by simp) ?_
    refine AllF.cons rfl (fun K hK => ?_) AllF.nil
    go_simp
    refine (HPUT.out _ QL).mono ?_
    rintro e w3 ⟨fa, fn, fc, rfl, hfr, l3, hfs⟩
    have HFS := Lib.hid (show Fr w (.slice fa fn fc) from fun k hk => Nat.le_trans QL.size (hfs k hk))
    clear hfs
    have LB3 := btrans QL (Nat.le_refl _) l3
    dsimp only
    refine hK.out _ _ (fun _ => KW.out _ LB3) ?_; clear hK K; (try simp only [Act.put, List.setIfInBounds_toArray, List.set_cons_zero, List.set_cons_succ])
    refine wpAnyF_ready (rs := [19]) (by kernel_rfl) (by simp) ?_
    refine AllF.cons rfl (fun K hK => ?_) AllF.nil
    go_simp
    refine (push_any w3 oq fa fn fc).mono ?_
    rintro e w4 ⟨rfl, hw4⟩
    have LB4 : Below w.heap.size w w4 := by rw [hw4]; exact btrans LB3 (Nat.le_refl _) ((Below.refl w3.heap.size w3).alloc (Nat.le_refl _) _)
    have hnw : w4.heap[w3.heap.size]? = some (.cells #[.slice fa fn fc, .pointer oq] 142 (0, 0)) := by rw [hw4]; exact blk_new _ _
    have hf4 : FrAt w4 (.slice fa fn fc) (putF x.2 t v) := by rw [hw4]; exact frAt_below hfr ((Below.refl w3.heap.size w3).alloc (Nat.le_refl _) _)
    clear hw4
    dsimp only
    refine hK.out _ _ (fun _ => KW.out _ LB4) ?_; clear hK K; (try simp only [Act.put, List.setIfInBounds_toArray, List.set_cons_zero, List.set_cons_succ])
    refine wpAnyF_ready (rs := [20]) (by kernel_rfl) (by simp) ?_
    refine AllF.cons rfl (fun K hK => ?_) AllF.nil
    go_simp
    refine hK.out _ _ (fun _ => KW.out _ LB4) ?_; clear hK K; (try simp only [Act.put, List.setIfInBounds_toArray, List.set_cons_zero, List.set_cons_succ])
    refine wpAnyF_ready (rs := [21]) (by kernel_rfl) (by simp) ?_
    refine AllF.cons rfl (fun K hK => ?_) AllF.nil
    go_simp
    refine hK.out _ _ (fun _ => KW.out _ LB4) ?_; clear hK K; (try simp only [Act.put, List.setIfInBounds_toArray, List.set_cons_zero, List.set_cons_succ])
    refine wpAnyF_ready (rs := [22]) (by kernel_rfl) (by simp) ?_
    refine AllF.cons rfl (fun K hK => ?_) AllF.nil
    have hcell := (KW.out _ LB4).1
    have hfrz := KF.out _ LB4
    go_simp
    refine hK.out _ _ (fun h => absurd rfl h) ?_; clear hK K; (try simp only [Act.put, List.setIfInBounds_toArray, List.set_cons_zero, List.set_cons_succ]); refine wpAnyF_done (by kernel_rfl) ?_ _
    have hb4 := bblk LB4 HB.out
    have hA := blk_set hb4 0 (ptr w3.heap.size)
    have hS4 : StackAt w4 (ptr w3.heap.size) ((.slice fa fn fc, putF x.2 t v) :: r) := ⟨w3.heap.size, .pointer oq, rfl, hnw, hf4, by show (putF x.2 t v).length ≤ 1000; omega, HRR.out.below LB4⟩
    have hS5 := StackAt.set (i := 0) (v := ptr w3.heap.size) hb4 hS4
    have hlt : b < w.heap.size := blk_lt HB.out
    have HFIN := Lib.hid (show LogAt (w4.setCell ⟨b, 0, none⟩ (ptr w3.heap.size)) b ((.slice fa fn fc, putF x.2 t v) :: r) from ⟨some ⟨w3.heap.size, 0, none⟩, by rw [hA]; simp, hS5, by simp, by rw [List.length_cons] at hx5 ⊢; omega⟩)
    have HO := Lib.hid (show Only (fun k => k = b) w (w4.setCell ⟨b, 0, none⟩ (ptr w3.heap.size)) from (Only.of_below (S := fun k => k = b) LB4 (fun k hk h => by omega)).setCell (p := ⟨b, 0, none⟩) (.inr rfl) _)
    clear hA hS4 hS5 hb4 hcell hfrz hf4 hnw hfr
    go_wp2_with fail
    go_ret
    exact ⟨rfl, HO.out, _, HFIN.out, HFS.out⟩
  | none =>
    rw [hg] at hG
    have HG := Lib.hid hG
    have hlf : ¬ 16 ≤ lenAll (x :: r) := fun h => hn ⟨hg, h⟩
    obtain ⟨L, hL⟩ : ∃ L, lenAll (x :: r) = L := ⟨_, rfl⟩
    rw [hL] at HLE hlf
    have hle : decide (16 ≤ L) = false := by simpa using hlf
    clear hR hr hb hnn hf hrr hG hn hg hL hlf
    go_enter Tryz.func89, Tryz.ntmps89
    go_wp2_with fail; refine (HR.out).mono ?_; rintro e w0 ⟨rfl, rfl⟩
    go_wp2_with fail
    refine HG.out.mono ?_
    rintro e w1 ⟨rfl, l1⟩
    have HL1 := Lib.hid l1; have HLG1 := Lib.hid (HLOG.out.below l1)
    clear l1 b0 n0 n1
    simp only [Option.getD_none, Option.isSome_none]
    go_wp2_with fail
    refine (HLE.out w1 HLG1.out).mono ?_
    rintro e WW ⟨rfl, l2⟩
    have HLW := Lib.hid (btrans HL1.out (Nat.le_refl _) l2)
    clear l2
    go_wp2_with fail
    have QL := btrans HLW.out (Nat.le_refl _) (show Below WW.heap.size WW WW.drew from (Below.refl _ _).drew)
    refine wp_region_F (fun w' => w'.cell? ⟨b, 0, none⟩ = some (ptr nb) ∧ w'.cell? ⟨nb, 0, none⟩ = some x.1 ∧ w'.cell? ⟨nb, 1, none⟩ = some (.pointer oq)) 22 (by kernel_rfl) ?_
    have hS0 := KW.out WW.drew QL
    refine wpAnyF_take (i := 0) (v := ?_) rfl (by kernel_rfl) (by kernel_rfl) (by kernel_rfl) (by kernel_rfl) (fun _ _ _ h => h) (Or.inl ⟨by rfl, ?_⟩) (by assumption) ?_; rotate_left; (focus (intro w hSw; (skip); (first | (go_simp; done) | (go_simp; with_reducible rfl)))); (try simp only [Act.put, List.setIfInBounds_toArray, List.set_cons_zero, List.set_cons_succ])
    refine wpAnyF_take (i := 1) (v := ?_) rfl (by kernel_rfl) (by kernel_rfl) (by kernel_rfl) (by kernel_rfl) (fun _ _ _ h => h) (Or.inl ⟨by rfl, ?_⟩) (by assumption) ?_; rotate_left; (focus (intro w hSw; (skip); (first | (go_simp; done) | (go_simp; with_reducible rfl)))); (try simp only [Act.put, List.setIfInBounds_toArray, List.set_cons_zero, List.set_cons_succ])
    refine wpAnyF_take (i := 2) (v := ?_) rfl (by kernel_rfl) (by kernel_rfl) (by kernel_rfl) (by kernel_rfl) (fun _ _ _ h => h) (Or.inl ⟨by rfl, ?_⟩) (by assumption) ?_; rotate_left; (focus (intro w hSw; (skip); (first | (go_simp; done) | (go_simp; with_reducible rfl)))); (try simp only [Act.put, List.setIfInBounds_toArray, List.set_cons_zero, List.set_cons_succ])
    refine wpAnyF_take (i := 3) (v := ?_) rfl (by kernel_rfl) (by kernel_rfl) (by kernel_rfl) (by kernel_rfl) (fun _ _ _ h => h) (Or.inl ⟨by rfl, ?_⟩) (by assumption) ?_; rotate_left; (focus (intro w hSw; (skip); (first | (go_simp; done) | (go_simp; with_reducible rfl)))); (try simp only [Act.put, List.setIfInBounds_toArray, List.set_cons_zero, List.set_cons_succ])
    refine wpAnyF_take (i := 4) (v := ?_) rfl (by kernel_rfl) (by kernel_rfl) (by kernel_rfl) (by kernel_rfl) (fun _ _ _ h => h) (Or.inl ⟨by rfl, ?_⟩) (by assumption) ?_; rotate_left; (focus (intro w hSw; (obtain ⟨q0, q1, q2⟩ := hSw); (first | (go_simp; done) | (go_simp; with_reducible rfl)))); (try simp only [Act.put, List.setIfInBounds_toArray, List.set_cons_zero, List.set_cons_succ])
    refine wpAnyF_take (i := 5) (v := ?_) rfl (by kernel_rfl) (by kernel_rfl) (by kernel_rfl) (by kernel_rfl) (fun _ _ _ h => h) (Or.inl ⟨by rfl, ?_⟩) (by assumption) ?_; rotate_left; (focus (intro w hSw; (skip); (first | (go_simp; done) | (go_simp; with_reducible rfl)))); (try simp only [Act.put, List.setIfInBounds_toArray, List.set_cons_zero, List.set_cons_succ])
    refine wpAnyF_take (i := 6) (v := ?_) rfl (by kernel_rfl) (by kernel_rfl) (by kernel_rfl) (by kernel_rfl) (fun _ _ _ h => h) (Or.inl ⟨by rfl, ?_⟩) (by assumption) ?_; rotate_left; (focus (intro w hSw; (skip); (first | (go_simp; done) | (go_simp; with_reducible rfl)))); (try simp only [Act.put, List.setIfInBounds_toArray, List.set_cons_zero, List.set_cons_succ])
    refine wpAnyF_take (i := 7) (v := ?_) rfl (by kernel_rfl) (by kernel_rfl) (by kernel_rfl) (by kernel_rfl) (fun _ _ _ h => h) (Or.inl ⟨by rfl, ?_⟩) (by assumption) ?_; rotate_left; (focus (intro w hSw; (obtain ⟨q0, q1, q2⟩ := hSw); (first | (go_simp; done) | (go_simp; with_reducible rfl)))); (try simp only [Act.put, List.setIfInBounds_toArray, List.set_cons_zero, List.set_cons_succ])
    refine wpAnyF_take (i := 8) (v := ?_) rfl (by kernel_rfl) (by kernel_rfl) (by kernel_rfl) (by kernel_rfl) (fun _ _ _ h => h) (Or.inl ⟨by rfl, ?_⟩) (by assumption) ?_; rotate_left; (focus (intro w hSw; (skip); (first | (go_simp; done) | (go_simp; with_reducible rfl)))); (try simp only [Act.put, List.setIfInBounds_toArray, List.set_cons_zero, List.set_cons_succ])
    refine wpAnyF_take (i := 9) (v := ?_) rfl (by kernel_rfl) (by kernel_rfl) (by kernel_rfl) (by kernel_rfl) (fun _ _ _ h => h) (Or.inl ⟨by rfl, ?_⟩) (by assumption) ?_; rotate_left; (focus (intro w hSw; (skip); (first | (go_simp; done) | (go_simp; with_reducible rfl)))); (try simp only [Act.put, List.setIfInBounds_toArray, List.set_cons_zero, List.set_cons_succ])
    refine wpAnyF_take (i := 10) (v := ?_) rfl (by kernel_rfl) (by kernel_rfl) (by kernel_rfl) (by kernel_rfl) (fun _ _ _ h => h) (Or.inl ⟨by rfl, ?_⟩) (by assumption) ?_; rotate_left; (focus (intro w hSw; (skip); (first | (go_simp; done) | (go_simp; with_reducible rfl)))); (try simp only [Act.put, List.setIfInBounds_toArray, List.set_cons_zero, List.set_cons_succ])
    refine wpAnyF_take (i := 11) (v := ?_) rfl (by kernel_rfl) (by kernel_rfl) (by kernel_rfl) (by kernel_rfl) (fun _ _ _ h => h) (Or.inl ⟨by rfl, ?_⟩) (by assumption) ?_; rotate_left; (focus (intro w hSw; (obtain ⟨q0, q1, q2⟩ := hSw); (first | (go_simp; done) | (go_simp; with_reducible rfl)))); (try simp only [Act.put, List.setIfInBounds_toArray, List.set_cons_zero, List.set_cons_succ])
    refine wpAnyF_take (i := 12) (v := ?_) rfl (by kernel_rfl) (by kernel_rfl) (by kernel_rfl) (by kernel_rfl) (fun _ _ _ h => h) (Or.inl ⟨by rfl, ?_⟩) (by assumption) ?_; rotate_left; (focus (intro w hSw; (skip); (first | (go_simp; done) | (go_simp; with_reducible rfl)))); (try simp only [Act.put, List.setIfInBounds_toArray, List.set_cons_zero, List.set_cons_succ])
    refine wpAnyF_take (i := 13) (v := ?_) rfl (by kernel_rfl) (by kernel_rfl) (by kernel_rfl) (by kernel_rfl) (fun _ _ _ h => h) (Or.inl ⟨by rfl, ?_⟩) (by assumption) ?_; rotate_left; (focus (intro w hSw; (skip); (first | (go_simp; done) | (go_simp; with_reducible rfl)))); (try simp only [Act.put, List.setIfInBounds_toArray, List.set_cons_zero, List.set_cons_succ])
    refine wpAnyF_take (i := 14) (v := ?_) rfl (by kernel_rfl) (by kernel_rfl) (by kernel_rfl) (by kernel_rfl) (fun _ _ _ h => h) (Or.inl ⟨by rfl, ?_⟩) (by assumption) ?_; rotate_left; (focus (intro w hSw; (obtain ⟨q0, q1, q2⟩ := hSw); (first | (go_simp; done) | (go_simp; with_reducible rfl)))); (try simp only [Act.put, List.setIfInBounds_toArray, List.set_cons_zero, List.set_cons_succ])
    refine wpAnyF_take (i := 15) (v := ?_) rfl (by kernel_rfl) (by kernel_rfl) (by kernel_rfl) (by kernel_rfl) (fun _ _ _ h => h) (Or.inl ⟨by rfl, ?_⟩) (by assumption) ?_; rotate_left; (focus (intro w hSw; (skip); (first | (go_simp; done) | (go_simp; with_reducible rfl)))); (try simp only [Act.put, List.setIfInBounds_toArray, List.set_cons_zero, List.set_cons_succ])
    refine wpAnyF_take (i := 16) (v := ?_) rfl (by kernel_rfl) (by kernel_rfl) (by kernel_rfl) (by kernel_rfl) (fun _ _ _ h => h) (Or.inl ⟨by rfl, ?_⟩) (by assumption) ?_; rotate_left; (focus (intro w hSw; (skip); (first | (go_simp; done) | (go_simp; with_reducible rfl)))); (try simp only [Act.put, List.setIfInBounds_toArray, List.set_cons_zero, List.set_cons_succ])
    refine wpAnyF_take (i := 17) (v := ?_) rfl (by kernel_rfl) (by kernel_rfl) (by kernel_rfl) (by kernel_rfl) (fun _ _ _ h => h) (Or.inl ⟨by rfl, ?_⟩) (by assumption) ?_; rotate_left; (focus (intro w hSw; (skip); (first | (go_simp; done) | (go_simp; with_reducible rfl)))); (try simp only [Act.put, List.setIfInBounds_toArray, List.set_cons_zero, List.set_cons_succ])
    refine wpAnyF_ready (rs := [18]) (by kernel_rfl) (by simp) ?_
    refine AllF.cons rfl (fun K hK => ?_) AllF.nil
    go_simp
    refine (HPUT.out _ QL).mono ?_
    rintro e w3 ⟨fa, fn, fc, rfl, hfr, l3, hfs⟩
    have HFS := Lib.hid (show Fr w (.slice fa fn fc) from fun k hk => Nat.le_trans QL.size (hfs k hk))
    clear hfs
    have LB3 := btrans QL (Nat.le_refl _) l3
    dsimp only
    refine hK.out _ _ (fun _ => KW.out _ LB3) ?_; clear hK K; (try simp only [Act.put, List.setIfInBounds_toArray, List.set_cons_zero, List.set_cons_succ])
    refine wpAnyF_ready (rs := [19]) (by kernel_rfl) (by simp) ?_
    refine AllF.cons rfl (fun K hK => ?_) AllF.nil
    go_simp
    refine (push_any w3 oq fa fn fc).mono ?_
    rintro e w4 ⟨rfl, hw4⟩
    have LB4 : Below w.heap.size w w4 := by rw [hw4]; exact btrans LB3 (Nat.le_refl _) ((Below.refl w3.heap.size w3).alloc (Nat.le_refl _) _)
    have hnw : w4.heap[w3.heap.size]? = some (.cells #[.slice fa fn fc, .pointer oq] 142 (0, 0)) := by rw [hw4]; exact blk_new _ _
    have hf4 : FrAt w4 (.slice fa fn fc) (putF x.2 t v) := by rw [hw4]; exact frAt_below hfr ((Below.refl w3.heap.size w3).alloc (Nat.le_refl _) _)
    clear hw4
    dsimp only
    refine hK.out _ _ (fun _ => KW.out _ LB4) ?_; clear hK K; (try simp only [Act.put, List.setIfInBounds_toArray, List.set_cons_zero, List.set_cons_succ])
    refine wpAnyF_ready (rs := [20]) (by kernel_rfl) (by simp) ?_
    refine AllF.cons rfl (fun K hK => ?_) AllF.nil
    go_simp
    refine hK.out _ _ (fun _ => KW.out _ LB4) ?_; clear hK K; (try simp only [Act.put, List.setIfInBounds_toArray, List.set_cons_zero, List.set_cons_succ])
    refine wpAnyF_ready (rs := [21]) (by kernel_rfl) (by simp) ?_
    refine AllF.cons rfl (fun K hK => ?_) AllF.nil
    go_simp
    refine hK.out _ _ (fun _ => KW.out _ LB4) ?_; clear hK K; (try simp only [Act.put, List.setIfInBounds_toArray, List.set_cons_zero, List.set_cons_succ])
    refine wpAnyF_ready (rs := [22]) (by kernel_rfl) (by simp) ?_
    refine AllF.cons rfl (fun K hK => ?_) AllF.nil
    have hcell := (KW.out _ LB4).1
    have hfrz := KF.out _ LB4
    go_simp
    refine hK.out _ _ (fun h => absurd rfl h) ?_; clear hK K; (try simp only [Act.put, List.setIfInBounds_toArray, List.set_cons_zero, List.set_cons_succ]); refine wpAnyF_done (by kernel_rfl) ?_ _
    have hb4 := bblk LB4 HB.out
    have hA := blk_set hb4 0 (ptr w3.heap.size)
    have hS4 : StackAt w4 (ptr w3.heap.size) ((.slice fa fn fc, putF x.2 t v) :: r) := ⟨w3.heap.size, .pointer oq, rfl, hnw, hf4, by show (putF x.2 t v).length ≤ 1000; omega, HRR.out.below LB4⟩
    have hS5 := StackAt.set (i := 0) (v := ptr w3.heap.size) hb4 hS4
    have hlt : b < w.heap.size := blk_lt HB.out
    have HFIN := Lib.hid (show LogAt (w4.setCell ⟨b, 0, none⟩ (ptr w3.heap.size)) b ((.slice fa fn fc, putF x.2 t v) :: r) from ⟨some ⟨w3.heap.size, 0, none⟩, by rw [hA]; simp, hS5, by simp, by rw [List.length_cons] at hx5 ⊢; omega⟩)
    have HO := Lib.hid (show Only (fun k => k = b) w (w4.setCell ⟨b, 0, none⟩ (ptr w3.heap.size)) from (Only.of_below (S := fun k => k = b) LB4 (fun k hk h => by omega)).setCell (p := ⟨b, 0, none⟩) (.inr rfl) _)
    clear hA hS4 hS5 hb4 hcell hfrz hf4 hnw hfr
    go_wp2_with fail
    go_ret
    exact ⟨rfl, HO.out, _, HFIN.out, HFS.out⟩
end Go.Proofs.YtganmdbhmihjpaaGreat.Wri
/- live; a nil log. -/
namespace Go.Proofs.YtganmdbhmihjpaaGreat.Wri
open Go.RowKit
set_option linter.unusedSimpArgs false
set_option linter.unusedVariables false
set_option maxRecDepth 50000

theorem lput_any (w : World) (b : Nat) (xs : Frs) (h : LogAt w b xs) (hx9 : ∀ x ∈ xs, x.2.length ≤ 900) (t v : Int) (hv : 0 ≤ v ∧ v < 18446744073709551616) : Calls Tryz.prog 89 #[ptr b, .int .i64 t, .int .u64 v] w (PutPost w b xs t v) := by
  have hblt : b < w.heap.size := by obtain ⟨o, hb, _⟩ := h; exact blk_lt hb
  by_cases ht : okT t
  · cases hr : rightVal v
    · have hE : putE xs t v = 3 := by unfold putE; rw [if_neg (by simpa using ht), if_pos hr]
      refine (put_form w b t v ht hv hr).mono ?_
      rintro e w' ⟨rfl, rfl⟩
      exact ⟨by rw [hE], Only.refl _ _, fun _ => h, fun h0 => by rw [hE] at h0; cases h0⟩
    · cases xs with
      | nil => obtain ⟨_, _, _, h1, _⟩ := h; simp at h1
      | cons x r =>
        have hE : putE (x :: r) t v = if getF x.2 t = none ∧ 16 ≤ lenAll (x :: r) then 4 else 0 := by unfold putE; rw [if_neg (by simpa using ht), if_neg (by rw [hr]; decide)]
        by_cases hs : getF x.2 t = none ∧ 16 ≤ lenAll (x :: r)
        · rw [if_pos hs] at hE
          refine (put_space w b x r t v h ht hv hr hs.1 hs.2).mono ?_
          rintro e w' ⟨rfl, hl⟩
          exact ⟨by rw [hE], Only.of_below hl (fun k hk h => by omega), fun _ => h.below hl, fun h0 => by rw [hE] at h0; cases h0⟩
        · rw [if_neg hs] at hE
          refine (put_done w b x r t v h (hx9 x (by simp)) ht hv hr hs).mono ?_
          rintro e w' ⟨rfl, ho, u, hL⟩
          refine ⟨by rw [hE], ho, fun h0 => absurd hE h0, fun _ y s hy => ?_⟩
          injection hy with h1 h2
          subst h1 h2
          exact ⟨u, hL⟩
  · have hE : putE xs t v = 2 := by unfold putE; rw [if_pos ht]
    refine (put_range w b t v ht).mono ?_
    rintro e w' ⟨rfl, rfl⟩
    exact ⟨by rw [hE], Only.refl _ _, fun _ => h, fun h0 => by rw [hE] at h0; cases h0⟩
theorem lput_to (w : World) (b : Nat) (x : Value × Frm) (r : Frs) (h : LogAt w b (x :: r)) (hx9 : ∀ y ∈ x :: r, y.2.length ≤ 900) (t v : Int) (hv : 0 ≤ v ∧ v < 18446744073709551616) (f : Frm) (hE : putE (x :: r) t v = 0) (hf : putF x.2 t v = f) :
    Calls Tryz.prog 89 #[ptr b, .int .i64 t, .int .u64 v] w fun e w' => ∃ u, e = .returned (.int .i64 0) ∧ Only (fun k => k = b) w w' ∧ LogAt w' b ((u, f) :: r) := by
  refine (lput_any w b _ h hx9 t v hv).mono ?_
  rintro e w' ⟨rfl, ho, _, hL⟩
  obtain ⟨u, hL, _⟩ := hL hE x r rfl
  exact ⟨u, by rw [hE], ho, hf ▸ hL⟩
theorem lo_only {B b : Nat} {w w1 w2 : World} (l : Below B w w1) (o : Only (fun k => k = b) w1 w2) (hb : B ≤ b) (hB : B ≤ w.heap.size) : Below B w w2 :=
  l.trans (o.below (Nat.le_trans hB l.size) fun k hk e => by omega)
theorem all_nil (w : World) : Calls Tryz.prog 60 #[.pointer none] w fun e w' => e = .returned (.slice none 0 0) ∧ Below w.heap.size w w' := by
  go_enter Tryz.func60, Tryz.ntmps60
  go_wp2_with fail
  go_loopw [3, 7] (fun s i wr => ∃ k : Nat, i = .int .i64 k ∧ s = .slice none 0 0 ∧ k ≤ 12 ∧ Below w.heap.size w wr) (fun _ i _ => 12 - (intOf i).toNat)
  case atStart => exact ⟨0, rfl, rfl, by decide, Below.refl _ _⟩
  case round =>
    obtain ⟨k, rfl, rfl, hk, hB⟩ := hrel
    have HB := Lib.hid hB; clear hB
    by_cases hlt : k < 12
    · go_wp2_with fail
      refine (lget_nil wr k).mono ?_
      rintro e w1 ⟨rfl, l1⟩
      have HL := Lib.hid (btrans HB.out (Nat.le_refl _) l1); clear l1
      go_wp2_with fail
      exact ⟨⟨k + 1, by go_num, rfl, by omega, HL.out⟩, by simp [intOf]; omega⟩
    · go_wp2_with fail
      go_ret
      exact ⟨rfl, HB.out⟩
end Go.Proofs.YtganmdbhmihjpaaGreat.Wri
/- Merge, All, Fork of a log. -/
namespace Go.Proofs.YtganmdbhmihjpaaGreat.Wri
open Go.RowKit
set_option linter.unusedSimpArgs false
set_option linter.unusedVariables false
set_option maxRecDepth 50000

/-- a frame over another one -/
def mergeF (y x : Frm) : Frm := x.foldl (fun a p => putF a p.1 p.2) y
theorem mergeF_take (y x : Frm) (k : Nat) (p : Int × Int) (h : x[k]? = some p) : mergeF y (x.take (k + 1)) = putF (mergeF y (x.take k)) p.1 p.2 := by
  unfold mergeF
  rw [List.take_add_one, h]
  simp [List.foldl_append]
theorem mergeF_len (x : Frm) : ∀ y, (mergeF y x).length ≤ y.length + x.length := by
  induction x with
  | nil => intro y; simp [mergeF]
  | cons p x ih =>
    intro y
    have h1 := ih (putF y p.1 p.2)
    have h2 := putF_len y p.1 p.2
    show (mergeF (putF y p.1 p.2) x).length ≤ _
    rw [List.length_cons]
    omega
theorem frAt_any {w : World} {v : Value} {f : Frm} (h : FrAt w v f) : ∃ a c, v = .slice a f.length c ∧ (f ≠ [] → ∃ g, a = some ⟨g, 0, none⟩) := by
  rcases frAt_slice h with ⟨rfl, rfl⟩ | ⟨g, cap, rfl⟩
  · exact ⟨none, 0, rfl, fun h => absurd rfl h⟩
  · exact ⟨_, _, rfl, fun _ => ⟨g, rfl⟩⟩
def MergePost (w : World) (b : Nat) (xs : Frs) (e : Ending) (w' : World) : Prop :=
  if xs.length ≤ 1 then e = .returned (.int .i64 8) ∧ w = w'
  else ∃ x y r u, xs = x :: y :: r ∧ e = .returned (.int .i64 0) ∧ Only (fun k => k = b) w w' ∧ LogAt w' b ((u, mergeF y.2 x.2) :: r) ∧ (Fr w u ∨ u = y.1)
set_option maxHeartbeats 1600000 in
theorem merge_any (w : World) (b : Nat) (xs : Frs) (h : LogAt w b xs) (hx4 : ∀ x ∈ xs, x.2.length ≤ 400) : Calls Tryz.prog 92 #[ptr b] w (MergePost w b xs) := by
  have hP := pop_any w b xs h
  have hblt : b < w.heap.size := by obtain ⟨o, hb, _⟩ := h; exact blk_lt hb
  unfold PopPost at hP
  unfold MergePost
  by_cases h1 : xs.length ≤ 1
  · simp only [if_pos h1] at hP ⊢
    have HP := Lib.hid hP
    clear hP h h1
    go_enter Tryz.func92, Tryz.ntmps92
    go_wp2_with fail; refine (HP.out).mono ?_; rintro e w0 ⟨rfl, rfl⟩
    go_wp2_with fail
    go_ret
    exact ⟨rfl, rfl⟩
  · simp only [if_neg h1] at hP ⊢
    have HP := Lib.hid hP
    clear hP h
    go_enter Tryz.func92, Tryz.ntmps92
    go_wp2_with fail
    refine HP.out.mono ?_
    rintro e w1 ⟨x, r0, rfl, rfl, ho, hL, hfx⟩
    cases r0 with
    | nil => simp at h1
    | cons y r =>
    have hxl := hx4 x (by simp)
    have hyl := hx4 y (by simp)
    obtain ⟨xv, xf⟩ := x
    obtain ⟨yv, yf⟩ := y
    simp only at hfx hxl hyl
    obtain ⟨xa, xc, rfl, hxg⟩ := frAt_any hfx
    obtain ⟨o, hb, ⟨nb, q, e0, hnn, hfy, hfl, hrr⟩, hl1, hl5⟩ := hL
    obtain ⟨oq, rfl⟩ := hrr.isPtr
    injection e0 with e0
    subst e0
    simp only at hnn hfy
    have b0 := blk_cell hb 0
    have n0 := blk_cell hnn 0; have n1 := blk_cell hnn 1
    simp only [List.getElem?_toArray, List.getElem?_cons_zero, List.getElem?_cons_succ] at b0 n0 n1
    obtain ⟨n, hn⟩ : ∃ n, xf.length = n := ⟨_, rfl⟩
    have HN := Lib.hid hn
    rw [hn] at hxl
    have HFX := Lib.hid hfx; have HFY := Lib.hid hfy; have HB := Lib.hid hb; have HNN := Lib.hid hnn; have HRR := Lib.hid hrr; have HO := Lib.hid ho; have HXG := Lib.hid hxg
    have hb1 := blk_lt hb
    have hwr := ho.size
    rw [hn]
    clear hfx hfy hb hnn hrr ho hxg HP hn h1 hx4
    go_wp2_with fail
    go_loopw [5, 25] (fun s i wr => ∃ k : Nat, i = .int .i64 k ∧ k ≤ n ∧ FrAt wr s (mergeF yf (xf.take k)) ∧ Below w1.heap.size w1 wr ∧ (Fr w s ∨ s = yv)) (fun _ i _ => n - (intOf i).toNat)
    case atStart => exact ⟨0, rfl, Nat.zero_le _, by simpa [mergeF] using HFY.out, Below.refl _ _, .inr rfl⟩
    case round =>
      obtain ⟨k, rfl, hk, hS, hB, hFr⟩ := hrel
      have HFR := Lib.hid hFr
      clear hFr
      have HB1 := Lib.hid hB; have HS := Lib.hid hS
      by_cases hlt : k < n
      · obtain ⟨p, hp⟩ : ∃ p, xf[k]? = some p := ⟨xf[k]'(by rw [HN.out]; exact hlt), List.getElem?_eq_getElem _⟩
        obtain ⟨g, rfl⟩ := HXG.out (by rintro rfl; have := HN.out; simp at this; omega)
        obtain ⟨c0, c1⟩ := frAt_cell HFX.out hp
        replace c0 := bkeep hB c0; replace c1 := bkeep hB c1
        obtain ⟨pt, pv⟩ := p
        simp only at c0 c1
        have hmt := mergeF_take yf xf k _ hp
        have hml := mergeF_len (xf.take k) yf
        rw [List.length_take] at hml
        have lb : Below wr.heap.size wr (wr.alloc (.cells #[.int .i64 pt, .int .u64 pv] 94)) := by repeat (first | (with_reducible exact Below.refl _ _) | (with_reducible apply Below.drew) | (with_reducible refine below_drewN ?_ _) | (with_reducible refine below_alloc' ?_ ?_ _; (focus ((try simp) <;> omega))) | (with_reducible refine below_set' ?_ ?_ _; (focus ((try simp) <;> omega))))
        have hput := put_any _ _ _ (frAt_below hS lb) (by omega) pt pv
        rw [← hmt] at hput
        have HPUT := Lib.hid hput
        have HL := Lib.hid (btrans hB (Nat.le_refl _) lb)
        clear hp lb hput hmt hB hS HS HB1
        go_wp2_with fail
        refine HPUT.out.mono ?_
        rintro e w2 ⟨fa, fn, fc, rfl, hF2, l2, hfs⟩
        have HFS := Lib.hid (show Fr w (.slice fa fn fc) from fun k hk => Nat.le_trans (Nat.le_trans hwr HL.out.size) (hfs k hk))
        clear hfs
        have HF2 := Lib.hid hF2
        have HL2 := Lib.hid (btrans HL.out (Nat.le_refl _) l2)
        clear hF2 l2 HPUT HL
        go_wp2_with fail
        exact ⟨⟨k + 1, by go_num, by omega, HF2.out, HL2.out, .inl HFS.out⟩, by simp [intOf]; omega⟩
      · obtain rfl : k = n := by omega
        have hb2 := bblk hB HB.out
        have hnn2 := bblk hB HNN.out
        have hfr := blk_free hb2
        have b0 := blk_cell hb2 0
        have n1 := blk_cell hnn2 1
        simp only [List.getElem?_toArray, List.getElem?_cons_zero, List.getElem?_cons_succ] at b0 n1
        rw [List.take_of_length_le (by rw [HN.out]; exact Nat.le_refl _)] at hS
        obtain ⟨sa, sc, rfl, _⟩ := frAt_any hS
        have hml := mergeF_len xf yf
        rw [HN.out] at hml
        have HS := Lib.hid hS; have HB2 := Lib.hid hb2
        obtain ⟨z, hz⟩ : ∃ z, (mergeF yf xf).length = z := ⟨_, rfl⟩
        rw [hz] at hml ⊢
        have HZ := Lib.hid hz
        clear hS hb2 hnn2 hz
        go_wp2_with fail
        refine (push_any wr oq sa z sc).mono ?_
        rintro e w2 ⟨rfl, rfl⟩
        have lb : Below wr.heap.size wr (wr.alloc (.cells #[.slice sa z sc, .pointer oq] 142)) := by repeat (first | (with_reducible exact Below.refl _ _) | (with_reducible apply Below.drew) | (with_reducible refine below_drewN ?_ _) | (with_reducible refine below_alloc' ?_ ?_ _; (focus ((try simp) <;> omega))) | (with_reducible refine below_set' ?_ ?_ _; (focus ((try simp) <;> omega))))
        have hnew := blk_new wr (.cells #[.slice sa z sc, .pointer oq] 142)
        replace b0 := bkeep lb b0
        have hb3 := bblk lb HB2.out
        have hfr3 := blk_free hb3
        have LB := Lib.hid (btrans hB (Nat.le_refl _) lb)
        have HS3 := Lib.hid (frAt_below HS.out lb)
        have HB3 := Lib.hid hb3; have HNEW := Lib.hid hnew
        clear lb hnew hb3 hB HB1 HS
        generalize wr.alloc (.cells #[.slice sa z sc, .pointer oq] 142) = w3 at *
        go_wp2_with fail
        go_ret
        have hA := blk_set HB3.out 0 (ptr wr.heap.size)
        have hS4 : StackAt w3 (ptr wr.heap.size) ((.slice sa z sc, mergeF yf xf) :: r) := ⟨wr.heap.size, .pointer oq, rfl, HNEW.out, (show Value.slice sa (mergeF yf xf).length sc = .slice sa z sc by rw [HZ.out]) ▸ HS3.out, by show (mergeF yf xf).length ≤ 1000; have := HZ.out; omega, HRR.out.below LB.out⟩
        have hS5 := StackAt.set (i := 0) (v := ptr wr.heap.size) HB3.out hS4
        refine ⟨_, _, r, _, rfl, rfl, ?_, ⟨some ⟨wr.heap.size, 0, none⟩, ?_, hS5, by simp, by rw [List.length_cons] at hl5 ⊢; exact hl5⟩, (show Value.slice sa (mergeF yf xf).length sc = .slice sa z sc by rw [HZ.out]) ▸ HFR.out⟩
        · exact HO.out.after ((Only.of_below (S := fun k => k = b) LB.out (fun k hk h => by omega)).setCell (p := ⟨b, 0, none⟩) (.inr rfl) _) (fun i _ h => h)
        · rw [hA]; simp
/-! ### All -/
/-- what is written, of the first k variables -/
def allK (g : Int → Option Int) : Nat → Frm
  | 0 => []
  | k + 1 => allK g k ++ (match g k with | some v => [((k : Int), v)] | none => [])
theorem allK_len (g : Int → Option Int) (k : Nat) : (allK g k).length ≤ k := by
  induction k with
  | zero => simp [allK]
  | succ k ih => simp only [allK, List.length_append]; split <;> simp <;> omega
/-- a row of pairs in memory that was made since -/
abbrev PairsAt (B : Nat) (w : World) (v : Value) (f : Frm) : Prop := w.ownsRow B 94 2 v f.length (pairVals f)
def AllPost (w : World) (g : Int → Option Int) (e : Ending) (w' : World) : Prop :=
  ∃ v, e = .returned v ∧ PairsAt w.heap.size w' v (allK g 12) ∧ Below w.heap.size w w'
theorem pairs_grow {B : Nat} {w w' : World} {v : Value} {f : Frm} (h : PairsAt B w v f) (l : Below w.heap.size w w') : PairsAt B w' v f := ownsRow_only h (Only.empty l (Nat.le_refl _)) (fun _ _ h => h)
set_option maxHeartbeats 1600000 in
theorem all_any (w : World) (b : Nat) (xs : Frs) (h : LogAt w b xs) : Calls Tryz.prog 60 #[ptr b] w (AllPost w (getS xs)) := by
  obtain ⟨i0, hi, hz0, hz1, hz2⟩ := info_parts infoP
  have HL := Lib.hid h
  clear h
  unfold AllPost
  go_enter Tryz.func60, Tryz.ntmps60
  go_wp2_with fail
  go_loopw [3, 7] (fun s i wr => ∃ k : Nat, i = .int .i64 k ∧ PairsAt w.heap.size wr s (allK (getS xs) k) ∧ k ≤ 12 ∧ Below w.heap.size w wr) (fun _ i _ => 12 - (intOf i).toNat)
  case atStart => exact ⟨0, rfl, World.ownsRow_nil _ _ _ _, by decide, Below.refl _ _⟩
  case round =>
    obtain ⟨k, rfl, hR, hk, hB⟩ := hrel
    have HB := Lib.hid hB; have HR := Lib.hid hR
    clear hB hR
    by_cases hlt : k < 12
    · go_wp2_with fail
      refine (lget_any wr b xs (HL.out.below HB.out) k).mono ?_
      rintro e w1 ⟨rfl, l1⟩
      have HB1 := Lib.hid (btrans HB.out (Nat.le_refl _) l1)
      have HR1 := Lib.hid (pairs_grow HR.out l1)
      clear l1 HB HR
      cases hg : getS xs k with
      | none =>
        have hA : allK (getS xs) (k + 1) = allK (getS xs) k := by simp [allK, hg]
        have HA := Lib.hid hA
        clear hA hg
        simp only [Option.getD_none, Option.isSome_none]
        go_wp2_with fail
        exact ⟨⟨k + 1, by go_num, by rw [HA.out]; exact HR1.out, by omega, HB1.out⟩, by simp [intOf]; omega⟩
      | some v =>
        have hA : allK (getS xs) (k + 1) = allK (getS xs) k ++ [((k : Int), v)] := by simp [allK, hg]
        have HA := Lib.hid hA
        have hlen := allK_len (getS xs) k
        have hsz := HB1.out.size
        clear hA hg
        simp only [Option.getD_some, Option.isSome_some]
        go_wp2_with (at_builtin; refine wpList_append_own _ rfl _ _ 71 rfl w.heap.size 94 i0 (.agg #[.int .i64 0, .int .u64 0]) 2 16 Tryz.underlying71 hi hz0 hz1 hz2 rfl (by decide) _ _ (pairVals (allK (getS xs) k)) rfl (pairs_grow HR1.out ((Below.refl w1.heap.size w1).alloc (Nat.le_refl _) _)) ⟨w1.heap.size, 0, none⟩ 1 1 [.int .i64 k, .int .u64 v] rfl rfl ?c1 ?c2 ?c3 ?c4 ?c5 ?_)
        case c1 =>
          intro j v' hv
          rw [Addr.add_lit]
          have := blk_cell (blk_new w1 (.cells #[.int .i64 k, .int .u64 v] 94)) j
          rw [Nat.zero_add, this]
          simpa using hv
        case c2 => simp [Value.oneCell']
        case c3 => unfold maxLen; omega
        case c4 => omega
        case c5 => simp; omega
        intro v' w2 hown hgr _
        have hB2 : Below w.heap.size w w2 := (HB1.out.alloc hsz _).grown hgr (by simp; omega) (fun k hk => (HR1.out.lt k hk).1)
        have hP2 : PairsAt w.heap.size w2 v' (allK (getS xs) (k + 1)) := by
          unfold PairsAt
          rw [HA.out, pairVals_append, List.length_append]
          exact hown
        have HB2 := Lib.hid hB2; have HP2 := Lib.hid hP2
        clear hown hgr hB2 hP2
        go_wp2_with fail
        exact ⟨⟨k + 1, by go_num, HP2.out, by omega, HB2.out⟩, by simp [intOf]; omega⟩
    · obtain rfl : k = 12 := by omega
      go_wp2_with fail
      go_ret
      exact ⟨_, rfl, HR.out, HB.out⟩
/-! ### Fork -/
end Go.Proofs.YtganmdbhmihjpaaGreat.Wri
/- The other side: its frames in memory; New, Depth, set. -/
namespace Go.Proofs.YtganmdbhmihjpaaGreat.Wri
open Go.RowKit
set_option linter.unusedSimpArgs false
set_option linter.unusedVariables false
set_option maxRecDepth 50000

/-- a frame's cells on the other side: twelve times whether it has one, and twelve values -/
def rc (f : Frm) : List Value := (List.range 12).map (fun t : Nat => .bool (getF f t).isSome) ++ (List.range 12).map (fun t : Nat => .int .u64 ((getF f t).getD 0))
theorem rc_len (f : Frm) : (rc f).length = 24 := by simp [rc]
theorem rc_one (f : Frm) : ∀ u ∈ rc f, u.oneCell' = true := by
  intro u hu
  simp only [rc, List.mem_append, List.mem_map] at hu
  rcases hu with ⟨t, _, rfl⟩ | ⟨t, _, rfl⟩ <;> rfl
theorem rc_has (f : Frm) (t : Nat) (h : t < 12) : (rc f)[t]? = some (.bool (getF f t).isSome) := by
  unfold rc
  rw [List.getElem?_append_left (by simpa using h)]
  simp [h]
theorem rc_val (f : Frm) (t : Nat) (h : t < 12) : (rc f)[12 + t]? = some (.int .u64 ((getF f t).getD 0)) := by
  unfold rc
  rw [List.getElem?_append_right (by simp)]
  simp [h]
theorem rc_put (f : Frm) (t : Nat) (v : Int) (h : t < 12) : ((rc f).set t (.bool true)).set (12 + t) (.int .u64 v) = rc (putF f t v) := by
  apply List.ext_getElem?
  intro j
  by_cases hj : j < 12
  · rw [List.getElem?_set_ne (by omega), rc_has _ _ hj]
    by_cases hjt : j = t
    · subst hjt
      rw [List.getElem?_set_self (by rw [rc_len]; omega), getF_put]
      simp
    · rw [List.getElem?_set_ne (by omega), rc_has _ _ hj, getF_put]
      have : ¬ ((j : Int) = t) := by omega
      simp [this]
  · by_cases hj2 : j < 24
    · obtain ⟨s, rfl⟩ : ∃ s, j = 12 + s := ⟨j - 12, by omega⟩
      have hs : s < 12 := by omega
      rw [rc_val _ _ hs]
      by_cases hjt : s = t
      · subst hjt
        rw [List.getElem?_set_self (by rw [List.length_set, rc_len]; omega), getF_put]
        simp
      · rw [List.getElem?_set_ne (by omega), List.getElem?_set_ne (by omega), rc_val _ _ hs, getF_put]
        have : ¬ ((s : Int) = t) := by omega
        simp [this]
    · rw [List.getElem?_eq_none (by rw [List.length_set, List.length_set, rc_len]; omega), List.getElem?_eq_none (by rw [rc_len]; omega)]
/-- the frames' cells, the first frame first -/
def rowV (gs : List Frm) : List Value := gs.flatMap rc
theorem rowV_len (gs : List Frm) : (rowV gs).length = gs.length * 24 := by
  induction gs with
  | nil => rfl
  | cons f gs ih => rw [rowV, List.flatMap_cons, List.length_append, rc_len, ← rowV, ih, List.length_cons]; omega
theorem rowV_one (gs : List Frm) : ∀ u ∈ rowV gs, u.oneCell' = true := by
  intro u hu
  simp only [rowV, List.mem_flatMap] at hu
  obtain ⟨f, _, hu⟩ := hu
  exact rc_one f u hu
theorem rowV_get (gs : List Frm) : ∀ (i r : Nat), r < 24 → (rowV gs)[i * 24 + r]? = (gs[i]?).bind fun f => (rc f)[r]? := by
  induction gs with
  | nil => intro i r _; simp [rowV]
  | cons f gs ih =>
    intro i r hr
    rw [rowV, List.flatMap_cons, ← rowV]
    cases i with
    | zero => rw [Nat.zero_mul, Nat.zero_add, List.getElem?_append_left (by rw [rc_len]; exact hr)]; rfl
    | succ i =>
      rw [List.getElem?_append_right (by rw [rc_len]; omega), rc_len, show (i + 1) * 24 + r - 24 = i * 24 + r by omega, ih i r hr]
      rfl
theorem rowV_append (gs hs : List Frm) : rowV (gs ++ hs) = rowV gs ++ rowV hs := by simp [rowV]
/-- cells set one by one -/
def setL : List Value → Nat → List Value → List Value
  | xs, _, [] => xs
  | xs, o, v :: r => setL (xs.set o v) (o + 1) r
theorem setL_get : ∀ (vs xs : List Value) (o : Nat), o + vs.length ≤ xs.length → ∀ j, (setL xs o vs)[j]? = if o ≤ j ∧ j < o + vs.length then vs[j - o]? else xs[j]?
  | [], xs, o, _, j => by simp [setL]; omega
  | v :: r, xs, o, h, j => by
    rw [List.length_cons] at h
    rw [setL, setL_get r (xs.set o v) (o + 1) (by rw [List.length_set]; omega) j]
    by_cases h1 : o + 1 ≤ j ∧ j < o + 1 + r.length
    · rw [if_pos h1, if_pos (by rw [List.length_cons]; omega), show j - o = (j - (o + 1)) + 1 by omega, List.getElem?_cons_succ]
    · rw [if_neg h1]
      by_cases h2 : j = o
      · subst h2
        rw [if_pos (by rw [List.length_cons]; omega), List.getElem?_set_self (by omega), Nat.sub_self]; rfl
      · rw [if_neg (by rw [List.length_cons]; omega), List.getElem?_set_ne (by omega)]
theorem setL_row (gs : List Frm) (i : Nat) (f : Frm) (h : i < gs.length) : setL (rowV gs) (i * 24) (rc f) = rowV (gs.set i f) := by
  apply List.ext_getElem?
  intro j
  rw [setL_get _ _ _ (by rw [rc_len, rowV_len]; omega), rc_len]
  obtain ⟨k, r, hr, rfl⟩ : ∃ k r, r < 24 ∧ j = k * 24 + r := ⟨j / 24, j % 24, by omega, by omega⟩
  rw [rowV_get _ _ _ hr, rowV_get _ _ _ hr]
  by_cases hk : k = i
  · subst hk
    rw [if_pos (by omega), show k * 24 + r - k * 24 = r by omega, List.getElem?_set_self h]
    rfl
  · rw [if_neg (by omega), List.getElem?_set_ne (by omega)]
theorem row_setCells {base : Nat} {e : TypeId} {size g cap n : Nat} : ∀ (vs : List Value) (o : Nat) (w : World) (xs : List Value), w.ownsRow base e size (.slice (some ⟨g, 0, none⟩) n cap) n xs → o + vs.length ≤ n * size →
    (w.setCells g o vs).ownsRow base e size (.slice (some ⟨g, 0, none⟩) n cap) n (setL xs o vs)
  | [], o, w, xs, h, _ => h
  | v :: r, o, w, xs, h, hl => by
    rw [List.length_cons] at hl
    exact row_setCells r (o + 1) _ _ (row_set h (by omega)) (by omega)
theorem only_setCells {S : Nat → Prop} {g : Nat} {w : World} (hS : w.heap.size ≤ g ∨ S g) : ∀ (vs : List Value) (o : Nat) (w1 : World), Only S w w1 → Only S w (w1.setCells g o vs)
  | [], o, w1, h => h
  | v :: r, o, w1, h => only_setCells hS r (o + 1) _ (h.setCell (p := ⟨g, o, none⟩) hS v)
theorem infoR : (Tryz.prog.info? 136).map (fun i => (i.zero, i.size, i.bytes)) = some (some (.agg (rc []).toArray), 24, 112) := by kernel_rfl
theorem zR : (Value.agg (rc []).toArray).cells.size = 24 := by kernel_rfl
theorem sizeR : (Tryz.prog.info? 136).map (·.size) = some 24 := by kernel_rfl
/-- the other side's log: its frames, the first one first -/
def RLogAt (w : World) (b : Nat) (gs : List Frm) : Prop :=
  ∃ g cap, w.heap[b]? = some (.cells #[.slice (some ⟨g, 0, none⟩) gs.length cap] 132 (0, 0)) ∧ w.ownsRow 0 136 24 (.slice (some ⟨g, 0, none⟩) gs.length cap) gs.length (rowV gs) ∧ 1 ≤ gs.length ∧ gs.length ≤ 5
theorem RLogAt.below {w w' : World} {b : Nat} {gs : List Frm} (h : RLogAt w b gs) (l : Below w.heap.size w w') : RLogAt w' b gs := by
  obtain ⟨g, cap, h1, h2, h3⟩ := h
  exact ⟨g, cap, bblk l h1, ownsRow_only h2 (Only.empty l (Nat.le_refl _)) (fun _ _ h => h), h3⟩
theorem RLogAt.lt {w : World} {b : Nat} {gs : List Frm} (h : RLogAt w b gs) : b < w.heap.size := by
  obtain ⟨g, cap, h1, _⟩ := h
  exact blk_lt h1
theorem empty_row (w : World) (e : TypeId) (size base : Nat) (hb : base ≤ w.heap.size) : (w.alloc (.cells #[] e)).ownsRow base e size (.slice (some ⟨w.heap.size, 0, none⟩) 0 0) 0 [] :=
  ⟨by simp, .inr ⟨w.heap.size, 0, #[], rfl, hb, blk_new _ _, Nat.le_refl _, by decide, by simp, by simp⟩⟩
theorem rnew_any (w : World) : Calls Tryz.prog 95 #[] w fun e w' => ∃ b, e = .returned (ptr b) ∧ w.heap.size ≤ b ∧ RLogAt w' b [[]] ∧ Below w.heap.size w w' := by
  go_enter Tryz.func95, Tryz.ntmps95
  go_wp2
  go_ret
  refine ⟨w.heap.size + 1, by simp [ptr], by omega, ⟨w.heap.size, 1, ?_, ⟨by simp [rowV, rc_len], .inr ⟨w.heap.size, 1, (rc []).toArray, rfl, Nat.zero_le _, ?_, by simp, by decide, by simp [rc_len], by simp [rowV, List.take_of_length_le, rc_len]⟩⟩, by simp, by simp⟩, by repeat (first | (with_reducible exact Below.refl _ _) | (with_reducible apply Below.drew) | (with_reducible refine below_drewN ?_ _) | (with_reducible refine below_alloc' ?_ ?_ _; (focus ((try simp) <;> omega))) | (with_reducible refine below_set' ?_ ?_ _; (focus ((try simp) <;> omega))))⟩
  · simp [↓heap_alloc_eq, ↓heap_set_eq, ↓heap_drew_eq, ↓heap_drewN_eq, setObj, size_drewN]
  · simp [↓heap_alloc_eq, ↓heap_set_eq, ↓heap_drew_eq, ↓heap_drewN_eq, setObj, size_drewN]
    rfl
theorem rdepth_any (w : World) (b : Nat) (gs : List Frm) (h : RLogAt w b gs) : Calls Tryz.prog 82 #[ptr b] w fun e w' => e = .returned (.int .i64 ((gs.length : Int) - 1)) ∧ w = w' := by
  obtain ⟨g, cap, hb, hS, hx1, hx5⟩ := h
  have b0 := blk_cell hb 0
  simp only [List.getElem?_toArray, List.getElem?_cons_zero, List.getElem?_cons_succ] at b0
  clear hb hS
  obtain ⟨n, hn⟩ : ∃ n, gs.length = n := ⟨_, rfl⟩
  rw [hn] at b0 hx1 hx5 ⊢
  have hw : IntKind.i64.wrap ((n : Int) - 1) = (n : Int) - 1 := by rw [IntKind.wrap_i64]; omega
  clear hn
  go_enter Tryz.func82, Tryz.ntmps82
  go_wp2
  go_ret
  exact ⟨rfl, rfl⟩
set_option maxHeartbeats 1600000 in
theorem rset_any (w : World) (b : Nat) (gs : List Frm) (h : RLogAt w b gs) (i : Nat) (hi : i < gs.length) (f : Frm) (A : Array Value) (hA : A.toList = rc f) :
    Calls Tryz.prog 108 #[ptr b, .int .i64 i, .agg A] w fun e w' => e = .returned (.tuple #[]) ∧ Only (fun k => k = b) w w' ∧ RLogAt w' b (gs.set i f) := by
  obtain ⟨i0, hi0, hz0, hz1, hz2⟩ := info_parts infoR
  obtain ⟨g, cap, hb, hS, hx1, hx5⟩ := h
  have hA24 : A.size = 24 := by have := congrArg List.length hA; simpa [rc_len] using this
  have hA1 : A.all (·.oneCell') = true := Array.all_eq_true_iff_forall_mem.2 (fun v hv => rc_one f v (by rw [← hA]; simpa using hv))
  have b0 := blk_cell hb 0
  simp only [List.getElem?_toArray, List.getElem?_cons_zero, List.getElem?_cons_succ] at b0
  obtain ⟨n, hn⟩ : ∃ n, gs.length = n := ⟨_, rfl⟩
  have HN := Lib.hid hn
  have HB := Lib.hid hb; have HS := Lib.hid hS
  clear b0
  rw [hn] at hi hx1 hx5 HB HS
  have hblt := blk_lt hb
  have hii : (i : Int) < n := by omega
  have L0 := Lib.hid (show Below w.heap.size w (w.alloc (.cells A 136)) by repeat (first | (with_reducible exact Below.refl _ _) | (with_reducible apply Below.drew) | (with_reducible refine below_drewN ?_ _) | (with_reducible refine below_alloc' ?_ ?_ _; (focus ((try simp) <;> omega))) | (with_reducible refine below_set' ?_ ?_ _; (focus ((try simp) <;> omega)))))
  have HX := Lib.hid (blk_new w (.cells A 136))
  have HSZ := Lib.hid (show (Tryz.prog.info? 136).map (·.size) = some A.size by rw [sizeR, hA24])
  have HAL := Lib.hid hA; have H24 := Lib.hid hA24; have HA1 := Lib.hid hA1
  clear hb hS hn hA hA24 hA1
  go_enter Tryz.func108, Tryz.ntmps108
  go_upto_region 1 with (fail)
  have hsz0 := Lib.hid (show (w.alloc (.cells A 136)).heap.size = w.heap.size + 1 by simp)
  generalize w.alloc (.cells A 136) = w0 at *
  have b0 := blk_cell (bblk L0.out HB.out) 0
  have hblt0 := blk_lt (bblk L0.out HB.out)
  simp only [List.getElem?_toArray, List.getElem?_cons_zero, List.getElem?_cons_succ] at b0
  go_wp2_with (at_builtin; refine wpList_append_own _ rfl _ _ 130 rfl w0.heap.size 136 i0 (.agg (rc []).toArray) 24 112 Tryz.underlying130 hi0 hz0 hz1 hz2 zR (by decide) _ 0 [] rfl (empty_row w0 _ 24 _ (Nat.le_refl _)) ⟨g, 0, none⟩ n cap (rowV gs) rfl ?c0 ?c1 (rowV_one gs) ?c3 ?c4 ?c5 ?_)
  case c0 => rw [rowV_len, HN.out]
  case c1 =>
    intro j u hu
    have := HS.out.cells (g := g) rfl j u hu
    exact bkeep ((Below.refl _ _).alloc (Nat.le_refl _) _) (bkeep L0.out this)
  case c3 => unfold maxLen; omega
  case c4 => omega
  case c5 => simp
  intro v' w1 hown hgr _
  have hB1 : Below w0.heap.size w0 w1 := ((Below.refl _ w0).alloc (Nat.le_refl _) (.cells #[] 136)).grown hgr (by simp) (by simp [Value.ownBlock])
  try simp only [Nat.zero_add, List.nil_append] at hown
  rcases hown.2 with ⟨rfl, hn0⟩ | ⟨g', cap', cur', rfl, hg1, hg2, _⟩
  · omega
  have hfg := blk_free hg2
  have hgl := blk_lt hg2
  have LB1 := Lib.hid (btrans L0.out (Nat.le_refl _) hB1)
  have HX1 := Lib.hid (bblk hB1 HX.out)
  have b0' := bkeep hB1 b0
  have hf0 := blk_free (bblk LB1.out HB.out)
  have HOWN := Lib.hid hown
  have hther : w1.there g' (i * 24) A.size := fun j hj => by
    rw [H24.out] at hj
    refine ⟨?_, hfg _⟩
    have hlen : i * 24 + j < (rowV gs).length := by rw [rowV_len, HN.out]; omega
    have := HOWN.out.cells (g := g') rfl (i * 24 + j) _ (List.getElem?_eq_getElem hlen)
    rw [Addr.add_lit, Nat.zero_add] at this
    rw [this]
    rfl
  have HT := Lib.hid hther
  have hb2 := bblk LB1.out HB.out
  have hne : ¬ b = g' := by have := hsz0.out; omega
  have HO3 := only_setCells (S := fun k => k = g') (g := g') (w := w1) (.inr rfl) A.toList (i * 24) w1 (Only.refl _ _)
  have hc2 := HO3.cell b0' hne
  have hfz2 : ∀ j, (w1.setCells g' (i * 24) A.toList).frozen? ⟨b, j, none⟩ = false := fun j => by rw [World.frozen?_setCells]; exact blk_free hb2 j
  have HO3 := Lib.hid HO3; have HB2 := Lib.hid hb2
  clear hb2 hown hgr hB1 b0 hg2 hther
  go_wp2_with (first | (refine wpList_load_row rfl 136 _ rfl w.heap.size rfl 136 A (0, 0) _ HX1.out Tryz.underlying136 rfl HSZ.out ?_) | (refine wpList_store_mid rfl 136 _ _ rfl g' (i * 24) A rfl rfl HT.out HSZ.out HA1.out ?_))
  go_end0
  have hrow := row_setCells A.toList (i * 24) w1 _ HOWN.out (by rw [HAL.out, rc_len]; omega)
  rw [HAL.out, setL_row gs i f (by rw [HN.out]; exact hi), ← HAL.out] at hrow
  refine ⟨rfl, ?_, g', cap', ?_, ?_, ?_, ?_⟩
  · have h1 : Only (fun k => k = b) w w1 := Only.of_below LB1.out (fun k hk h => by omega)
    refine Only.setCell (p := ⟨b, 0, none⟩) (h1.after HO3.out (fun k hk e => ?_)) (.inr rfl) _
    have := hsz0.out
    omega
  · rw [blk_set (HO3.out.blk HB2.out hne) 0]
    rw [List.length_set, HN.out]
    rfl
  · rw [List.length_set, HN.out]
    refine ownsRow_only (S := fun k => k = b) (ownsRow_base hrow (fun _ _ => Nat.zero_le _)) ((Only.refl (fun k => k = b) _).setCell (p := ⟨b, 0, none⟩) (.inr rfl) _) ?_
    intro k hk e
    injection hk with hk
    exact hne (e.symm.trans hk.symm)
  · rw [List.length_set, HN.out]; exact hx1
  · rw [List.length_set, HN.out]; exact hx5
end Go.Proofs.YtganmdbhmihjpaaGreat.Wri
/- The other side: Push, Fork, Get, All, Len. -/
namespace Go.Proofs.YtganmdbhmihjpaaGreat.Wri
open Go.RowKit
set_option linter.unusedSimpArgs false
set_option linter.unusedVariables false
set_option maxRecDepth 50000

def RPushPost (w : World) (b : Nat) (gs : List Frm) (e : Ending) (w' : World) : Prop :=
  if 5 ≤ gs.length then e = .returned (.int .i64 4) ∧ w = w' else e = .returned (.int .i64 0) ∧ Only (fun k => k = b) w w' ∧ RLogAt w' b (gs ++ [[]])
set_option maxHeartbeats 1600000 in
theorem rpush_any (w : World) (b : Nat) (gs : List Frm) (h : RLogAt w b gs) : Calls Tryz.prog 97 #[ptr b] w (RPushPost w b gs) := by
  have hD := rdepth_any w b gs h
  obtain ⟨i0, hi0, hz0, hz1, hz2⟩ := info_parts infoR
  obtain ⟨g, cap, hb, hS, hx1, hx5⟩ := h
  have hblt := blk_lt hb
  obtain ⟨n, hn⟩ : ∃ n, gs.length = n := ⟨_, rfl⟩
  have HN := Lib.hid hn
  rw [hn] at hb hS hD hx1 hx5
  have b0 := blk_cell hb 0
  simp only [List.getElem?_toArray, List.getElem?_cons_zero, List.getElem?_cons_succ] at b0
  have HB := Lib.hid hb; have HS := Lib.hid hS; have HD := Lib.hid hD
  unfold RPushPost
  rw [hn]
  clear hb hS hn hD
  by_cases h5 : 5 ≤ n
  · simp only [if_pos h5]
    have hd : decide ((4 : Int) ≤ (n : Int) - 1) = true := by simp; omega
    go_enter Tryz.func97, Tryz.ntmps97
    go_wp2_with fail; refine (HD.out).mono ?_; rintro e w0 ⟨rfl, rfl⟩
    go_wp2
    go_ret
    exact ⟨rfl, rfl⟩
  · simp only [if_neg h5]
    have hd : decide ((4 : Int) ≤ (n : Int) - 1) = false := by simp; omega
    go_enter Tryz.func97, Tryz.ntmps97
    go_wp2_with fail
    refine (HD.out).mono ?_
    rintro e w0 ⟨rfl, hw0⟩
    subst hw0
    go_wp2_with (at_builtin; refine wpList_append_own _ rfl _ _ 130 rfl w.heap.size 136 i0 (.agg (rc []).toArray) 24 112 Tryz.underlying130 hi0 hz0 hz1 hz2 zR (by decide) _ 0 [] rfl (empty_row w _ 24 _ (Nat.le_refl _)) ⟨g, 0, none⟩ n cap (rowV gs) rfl ?c0 ?c1 (rowV_one gs) ?c3 ?c4 ?c5 ?_)
    case c0 => rw [rowV_len, HN.out]
    case c1 =>
      intro j u hu
      have := HS.out.cells (g := g) rfl j u hu
      exact bkeep ((Below.refl _ _).alloc (Nat.le_refl _) _) this
    case c3 => unfold maxLen; omega
    case c4 => omega
    case c5 => simp
    intro v' w1 hown hgr _
    have hB1 : Below w.heap.size w w1 := ((Below.refl _ w).alloc (Nat.le_refl _) (.cells #[] 136)).grown hgr (by simp) (by simp [Value.ownBlock])
    try simp only [Nat.zero_add, List.nil_append] at hown
    rcases hown.2 with ⟨rfl, hn0⟩ | ⟨g', cap', cur', rfl, hg1, hg2, _⟩
    · omega
    have HOWN := Lib.hid hown; have HB1 := Lib.hid hB1
    clear hown hgr hB1 b0 hg2
    go_wp2_with (at_builtin; refine wpList_append_own _ rfl _ _ 130 rfl w.heap.size 136 i0 (.agg (rc []).toArray) 24 112 Tryz.underlying130 hi0 hz0 hz1 hz2 zR (by decide) _ n (rowV gs) rfl (ownsRow_only HOWN.out (Only.empty ((Below.refl w1.heap.size w1).alloc (Nat.le_refl _) _) (Nat.le_refl _)) (fun _ _ h => h)) ⟨w1.heap.size, 0, none⟩ 1 1 (rc []) rfl (by rw [rc_len]) ?c1 (rc_one []) ?c3 ?c4 ?c5 ?_)
    case c1 =>
      intro j u hu
      have := blk_cell (blk_new w1 (.cells (rc []).toArray 136)) j
      rw [show (⟨w1.heap.size, 0, none⟩ : Addr).add j = ⟨w1.heap.size, j, none⟩ by rw [Addr.add_lit, Nat.zero_add]]
      refine Eq.trans this ?_
      simpa using hu
    case c3 => unfold maxLen; omega
    case c4 => omega
    case c5 => have := HB1.out.size; simp; omega
    intro v' w2 hown hgr _
    have hB2 : Below w.heap.size w w2 := (HB1.out.alloc HB1.out.size _).grown hgr (by have := HB1.out.size; simp; omega) (fun k hk => (HOWN.out.lt k hk).1)
    rcases hown.2 with ⟨rfl, hn0⟩ | ⟨g2, cap2, cur2, rfl, hg3, hg4, _⟩
    · omega
    have HOWN2 := Lib.hid hown; have HB2 := Lib.hid hB2
    have hbb := bblk hB2 HB.out
    have hfb := blk_free hbb
    have b0' := blk_cell hbb 0
    simp only [List.getElem?_toArray, List.getElem?_cons_zero, List.getElem?_cons_succ] at b0'
    have HBB := Lib.hid hbb
    clear hown hgr hB2 hg4 hbb
    go_wp2
    go_ret
    refine ⟨rfl, (Only.of_below (S := fun k => k = b) HB2.out (fun k hk h => by omega)).setCell (p := ⟨b, 0, none⟩) (.inr rfl) _, g2, cap2, ?_, ?_, ?_, ?_⟩
    · rw [blk_set HBB.out 0, List.length_append, HN.out]
      rfl
    · rw [List.length_append, HN.out, rowV_append]
      refine ownsRow_only (S := fun k => k = b) (ownsRow_base (base := w.heap.size) (base' := 0) (v := .slice (some ⟨g2, 0, none⟩) (n + 1) cap2) ?_ (fun _ _ => Nat.zero_le _)) ((Only.refl (fun k => k = b) _).setCell (p := ⟨b, 0, none⟩) (.inr rfl) _) ?_
      · simpa [rowV] using HOWN2.out
      · intro k hk e
        injection hk with hk
        have hk2 : g2 = b := hk.trans e
        omega
    · rw [List.length_append, HN.out]; simp
    · rw [List.length_append, HN.out]; simp; omega
/-! ### Get -/
/-- what was written last -/
def getL (fs : List Frm) (t : Int) : Option Int := fs.findSome? fun f => getF f t
theorem getL_hit {gs : List Frm} {j : Nat} {f : Frm} {t v : Int} (hj : gs[j]? = some f) (hv : getF f t = some v) (h : ∀ i f', j < i → gs[i]? = some f' → getF f' t = none) : getL gs.reverse t = some v := by
  induction gs generalizing j with
  | nil => simp at hj
  | cons x gs ih =>
    unfold getL
    rw [List.reverse_cons, List.findSome?_append]
    cases j with
    | zero =>
      have hn : gs.reverse.findSome? (fun f => getF f t) = none := by
        rw [List.findSome?_eq_none_iff]
        intro y hy
        obtain ⟨i, hi⟩ := List.mem_iff_getElem?.1 (List.mem_reverse.1 hy)
        exact h (i + 1) y (by omega) (by simpa using hi)
      rw [hn]
      simp at hj
      subst hj
      simp [hv]
    | succ j =>
      have := ih (j := j) (by simpa using hj) (fun i f' hi hf => h (i + 1) f' (by omega) (by simpa using hf))
      unfold getL at this
      rw [this]; rfl
theorem getL_none {gs : List Frm} {t : Int} (h : ∀ (i : Nat) f', gs[i]? = some f' → getF f' t = none) : getL gs.reverse t = none := by
  unfold getL
  rw [List.findSome?_eq_none_iff]
  intro y hy
  obtain ⟨i, hi⟩ := List.mem_iff_getElem?.1 (List.mem_reverse.1 hy)
  exact h i y hi
theorem rget_out (w : World) (b : Nat) (t : Int) (ht : ¬ okT t) : Calls Tryz.prog 83 #[ptr b, .int .i64 t] w fun e w' => e = .returned (.tuple #[.int .u64 0, .bool false]) ∧ w = w' := by
  by_cases h1 : t < 0
  · have hd : decide (t < 0) = true := by simpa using h1
    go_enter Tryz.func83, Tryz.ntmps83
    go_wp2
    go_ret2
    exact ⟨rfl, rfl⟩
  · have hd : decide (t < 0) = false := by simpa using h1
    have hd2 : decide (12 ≤ t) = true := by unfold okT at ht; (try simp); omega
    go_enter Tryz.func83, Tryz.ntmps83
    go_wp2
    go_ret2
    exact ⟨rfl, rfl⟩
set_option maxHeartbeats 1600000 in
theorem rget_in (w : World) (b : Nat) (gs : List Frm) (h : RLogAt w b gs) (t : Nat) (ht : t < 12) : Calls Tryz.prog 83 #[ptr b, .int .i64 t] w fun e w' => e = .returned (.tuple #[.int .u64 ((getL gs.reverse t).getD 0), .bool (getL gs.reverse t).isSome]) ∧ w = w' := by
  obtain ⟨g, cap, hb, hS, hx1, hx5⟩ := h
  obtain ⟨n, hn⟩ : ∃ n, gs.length = n := ⟨_, rfl⟩
  have HN := Lib.hid hn
  rw [hn] at hb hS hx1 hx5
  have b0 := blk_cell hb 0
  simp only [List.getElem?_toArray, List.getElem?_cons_zero, List.getElem?_cons_succ] at b0
  have HS := Lib.hid hS
  have hd : decide ((t : Int) < 0) = false := by (try simp) <;> omega
  have hd2 : decide ((12 : Int) ≤ t) = false := by simp; omega
  have ht12 : (t : Int) < 12 := by omega
  have hw : IntKind.i64.wrap ((n : Int) - 1) = (n : Int) - 1 := by rw [IntKind.wrap_i64]; omega
  clear hb hS hn
  go_enter Tryz.func83, Tryz.ntmps83
  go_wp2
  go_loopw [6] (fun i wr => ∃ k : Nat, i = .int .i64 ((k : Int) - 1) ∧ k ≤ n ∧ wr = w ∧ ∀ i' f', k ≤ i' → gs[i']? = some f' → getF f' t = none) (fun i _ => (intOf i + 1).toNat)
  case atStart => exact ⟨n, rfl, Nat.le_refl _, rfl, fun i' f' hi hf => by
    have := (List.getElem?_eq_some_iff.1 hf).1
    have := HN.out
    omega⟩
  case round =>
    obtain ⟨k, rfl, hk, rfl, hno⟩ := hrel
    have HNO := Lib.hid hno
    clear hno
    cases k with
    | zero =>
      have hG := getL_none (gs := gs) (t := t) (fun i f' hf => HNO.out i f' (Nat.zero_le _) hf)
      have HG := Lib.hid hG
      clear hG
      go_wp2
      go_ret2
      exact ⟨by rw [HG.out]; rfl, rfl⟩
    | succ j =>
      rw [show ((j + 1 : Nat) : Int) - 1 = (j : Int) by omega]
      obtain ⟨f, hf⟩ : ∃ f, gs[j]? = some f := ⟨gs[j]'(by rw [HN.out]; omega), List.getElem?_eq_getElem _⟩
      have hjn : (j : Int) < n := by omega
      have r0 := rowV_get gs j t (by omega)
      have r1 := rowV_get gs j (12 + t) (by omega)
      rw [hf, Option.bind_some, rc_has _ _ ht] at r0
      rw [hf, Option.bind_some, rc_val _ _ ht] at r1
      have c0 := HS.out.cells (g := g) rfl _ _ r0
      have c1 := HS.out.cells (g := g) rfl _ _ r1
      rw [Addr.add_lit, Nat.zero_add] at c0 c1
      have HF := Lib.hid hf
      have hwj : IntKind.i64.wrap ((j : Int) - 1) = (j : Int) - 1 := by rw [IntKind.wrap_i64]; omega
      have c1' := c1
      rw [← Nat.add_assoc] at c1'
      clear hf r0 r1
      cases hg : getF f t with
      | some v =>
        rw [hg] at c0 c1 c1'
        simp only [Option.getD_some, Option.isSome_some] at c0 c1 c1'
        have hG := getL_hit HF.out hg (fun i f' hi hf => HNO.out i f' (by omega) hf)
        have HG := Lib.hid hG
        clear hG hg
        go_wp2
        go_ret2
        exact ⟨by rw [HG.out]; rfl, rfl⟩
      | none =>
        rw [hg] at c0 c1 c1'
        simp only [Option.getD_none, Option.isSome_none] at c0 c1 c1'
        have hno' : ∀ i' f', j ≤ i' → gs[i']? = some f' → getF f' t = none := fun i' f' hi hf => by
          by_cases e : i' = j
          · subst e; rw [HF.out] at hf; injection hf with hf; rw [← hf]; exact hg
          · exact HNO.out i' f' (by omega) hf
        have HNO2 := Lib.hid hno'
        clear hno' hg
        go_wp2
        exact ⟨⟨j, by first | rfl | trivial, by omega, by first | rfl | trivial, HNO2.out⟩, by simp [intOf]; try omega⟩
/-! ### All, Len -/
theorem rget_any (w : World) (b : Nat) (gs : List Frm) (h : RLogAt w b gs) (t : Int) : Calls Tryz.prog 83 #[ptr b, .int .i64 t] w fun e w' => e = .returned (.tuple #[.int .u64 ((if okT t then getL gs.reverse t else none).getD 0), .bool (if okT t then getL gs.reverse t else none).isSome]) ∧ w = w' := by
  by_cases ht : okT t
  · obtain ⟨k, rfl⟩ : ∃ k : Nat, t = k := ⟨t.toNat, by unfold okT at ht; omega⟩
    rw [if_pos ht]
    exact rget_in w b gs h k (by unfold okT at ht; omega)
  · rw [if_neg ht]
    exact rget_out w b t ht
theorem allK_congr {g g' : Int → Option Int} {n : Nat} (h : ∀ k : Nat, k < n → g k = g' k) : allK g n = allK g' n := by
  induction n with
  | zero => rfl
  | succ n ih => rw [allK, allK, ih (fun k hk => h k (by omega)), h n (by omega)]
set_option maxHeartbeats 1600000 in
theorem rall_any (w : World) (b : Nat) (gs : List Frm) (h : RLogAt w b gs) : Calls Tryz.prog 84 #[ptr b] w (AllPost w (getL gs.reverse)) := by
  obtain ⟨i0, hi, hz0, hz1, hz2⟩ := info_parts infoP
  have HL := Lib.hid h
  clear h
  unfold AllPost
  generalize hG : getL gs.reverse = G
  have HG := Lib.hid hG
  clear hG
  go_enter Tryz.func84, Tryz.ntmps84
  go_wp2_with fail
  go_loopw [3, 4] (fun s i wr => ∃ k : Nat, i = .int .i64 k ∧ PairsAt w.heap.size wr s (allK G k) ∧ k ≤ 12 ∧ Below w.heap.size w wr) (fun _ i _ => 12 - (intOf i).toNat)
  case atStart => exact ⟨0, rfl, World.ownsRow_nil _ _ _ _, by decide, Below.refl _ _⟩
  case round =>
    obtain ⟨k, rfl, hR, hk, hB⟩ := hrel
    have HB := Lib.hid hB; have HR := Lib.hid hR
    clear hB hR
    by_cases hlt : k < 12
    · have hget := rget_in wr b gs (HL.out.below HB.out) k hlt
      rw [HG.out] at hget
      have HGET := Lib.hid hget
      clear hget
      go_wp2_with fail
      refine (HGET.out).mono ?_
      rintro e w1 ⟨rfl, hw1⟩
      subst hw1
      cases hg : G k with
      | none =>
        have hA : allK G (k + 1) = allK G k := by simp [allK, hg]
        have HA := Lib.hid hA
        clear hA hg HGET
        simp only [Option.getD_none, Option.isSome_none]
        go_wp2_with fail
        exact ⟨⟨k + 1, by go_num, by rw [HA.out]; exact HR.out, by omega, HB.out⟩, by simp [intOf]; omega⟩
      | some v =>
        have hA : allK G (k + 1) = allK G k ++ [((k : Int), v)] := by simp [allK, hg]
        have HA := Lib.hid hA
        have hlen := allK_len G k
        have hsz := HB.out.size
        clear hA hg HGET
        simp only [Option.getD_some, Option.isSome_some]
        go_wp2_with (at_builtin; refine wpList_append_own _ rfl _ _ 71 rfl w.heap.size 94 i0 (.agg #[.int .i64 0, .int .u64 0]) 2 16 Tryz.underlying71 hi hz0 hz1 hz2 rfl (by decide) _ _ (pairVals (allK G k)) rfl (pairs_grow HR.out ((Below.refl wr.heap.size wr).alloc (Nat.le_refl _) _)) ⟨wr.heap.size, 0, none⟩ 1 1 [.int .i64 k, .int .u64 v] rfl rfl ?c1 ?c2 ?c3 ?c4 ?c5 ?_)
        case c1 =>
          intro j v' hv
          rw [Addr.add_lit]
          have := blk_cell (blk_new wr (.cells #[.int .i64 k, .int .u64 v] 94)) j
          rw [Nat.zero_add, this]
          simpa using hv
        case c2 => simp [Value.oneCell']
        case c3 => unfold maxLen; omega
        case c4 => omega
        case c5 => simp; omega
        intro v' w2 hown hgr _
        have hB2 : Below w.heap.size w w2 := (HB.out.alloc hsz _).grown hgr (by simp; omega) (fun k hk => (HR.out.lt k hk).1)
        have hP2 : PairsAt w.heap.size w2 v' (allK G (k + 1)) := by
          unfold PairsAt
          rw [HA.out, pairVals_append, List.length_append]
          exact hown
        have HB2 := Lib.hid hB2; have HP2 := Lib.hid hP2
        clear hown hgr hB2 hP2
        go_wp2_with fail
        exact ⟨⟨k + 1, by go_num, HP2.out, by omega, HB2.out⟩, by simp [intOf]; omega⟩
    · obtain rfl : k = 12 := by omega
      go_wp2_with fail
      go_ret
      exact ⟨_, rfl, HR.out, HB.out⟩
/-- how many of the first k variables a frame has -/
def cntK (f : Frm) : Nat → Nat
  | 0 => 0
  | k + 1 => cntK f k + if (getF f k).isSome then 1 else 0
theorem cntK_le (f : Frm) (k : Nat) : cntK f k ≤ k := by
  induction k with
  | zero => exact Nat.le_refl _
  | succ k ih => unfold cntK; split <;> omega
def cntG (gs : List Frm) : Nat := (gs.map fun f => cntK f 12).sum
theorem cntG_le (gs : List Frm) : cntG gs ≤ 12 * gs.length := by
  induction gs with
  | nil => exact Nat.le_refl _
  | cons f gs ih =>
    have := cntK_le f 12
    show cntK f 12 + cntG gs ≤ _
    rw [List.length_cons]; omega
theorem cntG_take (gs : List Frm) (k : Nat) (f : Frm) (h : gs[k]? = some f) : cntG (gs.take (k + 1)) = cntG (gs.take k) + cntK f 12 := by
  unfold cntG
  rw [List.take_add_one, h]
  simp
theorem rlen_any (w : World) (b : Nat) (gs : List Frm) (h : RLogAt w b gs) : Calls Tryz.prog 107 #[ptr b] w fun e w' => e = .returned (.int .i64 (cntG gs : Nat)) ∧ w = w' := by
  obtain ⟨g, cap, hb, hS, hx1, hx5⟩ := h
  obtain ⟨n, hn⟩ : ∃ n, gs.length = n := ⟨_, rfl⟩
  have HN := Lib.hid hn
  rw [hn] at hb hS hx1 hx5
  have b0 := blk_cell hb 0
  simp only [List.getElem?_toArray, List.getElem?_cons_zero, List.getElem?_cons_succ] at b0
  have HS := Lib.hid hS
  clear hb hS hn
  go_enter Tryz.func107, Tryz.ntmps107
  go_wp2
  go_loopw [3, 4] (fun s i wr => ∃ k : Nat, i = .int .i64 k ∧ s = .int .i64 (cntG (gs.take k) : Nat) ∧ k ≤ n ∧ wr = w) (fun _ i _ => n - (intOf i).toNat)
  case atStart => exact ⟨0, rfl, rfl, Nat.zero_le _, rfl⟩
  case round =>
    obtain ⟨k, rfl, rfl, hk, rfl⟩ := hrel
    by_cases hlt : k < n
    · obtain ⟨f, hf⟩ : ∃ f, gs[k]? = some f := ⟨gs[k]'(by rw [HN.out]; omega), List.getElem?_eq_getElem _⟩
      have hct := cntG_take gs k f hf
      have hle := cntG_le (gs.take k)
      have hlk : (gs.take k).length ≤ k := List.length_take_le _ _
      have HCT := Lib.hid hct
      obtain ⟨c, hc⟩ : ∃ c, cntG (gs.take k) = c := ⟨_, rfl⟩
      rw [hc] at hle ⊢
      have HC := Lib.hid hc
      have HF := Lib.hid hf
      have hkn : (k : Int) < n := by omega
      clear hct hc hf
      go_wp2
      go_loopw [3, 5] (fun s i wr2 => ∃ t : Nat, i = .int .i64 t ∧ s = .int .i64 (c + cntK f t : Nat) ∧ t ≤ 12 ∧ wr2 = wr) (fun _ i _ => 12 - (intOf i).toNat)
      case atStart => exact ⟨0, rfl, rfl, by decide, rfl⟩
      case round =>
        obtain ⟨t, rfl, rfl, ht, rfl⟩ := hrel
        by_cases ht12 : t < 12
        · have r0 := rowV_get gs k t (by omega)
          rw [HF.out, Option.bind_some, rc_has _ _ ht12] at r0
          have c0 := HS.out.cells (g := g) rfl _ _ r0
          rw [Addr.add_lit, Nat.zero_add] at c0
          have hcl := cntK_le f t
          have hti : (t : Int) < 12 := by omega
          cases hg : getF f t with
          | none =>
            rw [hg] at c0
            simp only [Option.isSome_none] at c0
            have HK := Lib.hid (show cntK f (t + 1) = cntK f t by simp [cntK, hg])
            clear r0 hg
            go_wp2
            exact ⟨⟨t + 1, by go_num, by rw [HK.out], by omega, by first | rfl | trivial⟩, by simp [intOf]; omega⟩
          | some v =>
            rw [hg] at c0
            simp only [Option.isSome_some] at c0
            have HK := Lib.hid (show cntK f (t + 1) = cntK f t + 1 by simp [cntK, hg])
            obtain ⟨q, hq⟩ : ∃ q, c + cntK f t = q := ⟨_, rfl⟩
            rw [hq]
            have HQ := Lib.hid hq
            have hql : q ≤ 1000 := by omega
            clear r0 hg hq
            go_wp2
            exact ⟨⟨t + 1, by go_num, by rw [HK.out, ← HQ.out]; go_num, by omega, by first | rfl | trivial⟩, by simp [intOf]; omega⟩
        · obtain rfl : t = 12 := by omega
          go_wp2
          exact ⟨⟨k + 1, by go_num, by rw [HCT.out, HC.out], by omega, by first | rfl | trivial⟩, by simp [intOf]; omega⟩
    · obtain rfl : k = n := by omega
      have hE : gs.take k = gs := List.take_of_length_le (by rw [HN.out]; exact Nat.le_refl _)
      rw [hE]
      go_wp2
      go_ret
      exact ⟨rfl, rfl⟩
end Go.Proofs.YtganmdbhmihjpaaGreat.Wri
/- The other side: Drop. -/
namespace Go.Proofs.YtganmdbhmihjpaaGreat.Wri
open Go.RowKit
set_option linter.unusedSimpArgs false
set_option linter.unusedVariables false
set_option maxRecDepth 50000

theorem rowV_take (gs : List Frm) (m : Nat) : rowV (gs.take m) = (rowV gs).take (m * 24) := by
  induction gs generalizing m with
  | nil => simp [rowV]
  | cons f gs ih =>
    cases m with
    | zero => simp [rowV]
    | succ m =>
      have e : rowV (f :: gs) = rc f ++ rowV gs := rfl
      have e2 : rowV (f :: gs.take m) = rc f ++ rowV (gs.take m) := rfl
      rw [List.take_succ_cons, e, e2, ih, List.take_append, rc_len, List.take_of_length_le (l := rc f) (by rw [rc_len]; omega), show (m + 1) * 24 - 24 = m * 24 by omega]
def RDropPost (w : World) (b : Nat) (gs : List Frm) (e : Ending) (w' : World) : Prop :=
  if gs.length ≤ 1 then e = .returned (.int .i64 8) ∧ w = w' else e = .returned (.int .i64 0) ∧ Only (fun k => k = b) w w' ∧ RLogAt w' b gs.dropLast
set_option maxHeartbeats 1600000 in
theorem rdrop_any (w : World) (b : Nat) (gs : List Frm) (h : RLogAt w b gs) : Calls Tryz.prog 98 #[ptr b] w (RDropPost w b gs) := by
  have hD := rdepth_any w b gs h
  obtain ⟨i0, hi0, hz0, hz1, hz2⟩ := info_parts infoR
  obtain ⟨g, cap, hb, hS, hx1, hx5⟩ := h
  have hblt := blk_lt hb
  obtain ⟨n, hn⟩ : ∃ n, gs.length = n := ⟨_, rfl⟩
  have HN := Lib.hid hn
  rw [hn] at hb hS hD hx1 hx5
  have b0 := blk_cell hb 0
  simp only [List.getElem?_toArray, List.getElem?_cons_zero, List.getElem?_cons_succ] at b0
  have HB := Lib.hid hb; have HS := Lib.hid hS; have HD := Lib.hid hD
  unfold RDropPost
  rw [hn]
  clear hb hS hn hD
  by_cases h5 : n ≤ 1
  · simp only [if_pos h5]
    have hd : ((n : Int) - 1 == 0) = true := by (try simp); omega
    go_enter Tryz.func98, Tryz.ntmps98
    go_wp2_with fail; refine (HD.out).mono ?_; rintro e w0 ⟨rfl, rfl⟩
    go_wp2
    go_ret
    exact ⟨rfl, rfl⟩
  · simp only [if_neg h5]
    have hd : ((n : Int) - 1 == 0) = false := by (try simp); omega
    obtain ⟨m, hnm⟩ : ∃ m, m + 1 = n := ⟨n - 1, by omega⟩
    have hcap : n ≤ cap := by
      rcases HS.out.2 with ⟨h0, _⟩ | ⟨_, _, _, he, _, _, hle, _⟩
      · cases h0
      · injection he with _ _ e3
        omega
    have hw : IntKind.i64.wrap ((n : Int) - 1) = (m : Int) := by rw [IntKind.wrap_i64]; omega
    have hs1 : (m : Int) ≤ cap := by omega
    have hs0 : (0 : Int) ≤ m := by omega
    have HNM := Lib.hid hnm
    have KW := Lib.hid (show ∀ w', Below w.heap.size w w' → w'.cell? ⟨b, 0, none⟩ = some (.slice (some ⟨g, 0, none⟩) n cap) from fun w' h => bkeep h b0)
    clear hnm
    go_enter Tryz.func98, Tryz.ntmps98
    go_wp2_with fail
    refine (HD.out).mono ?_
    rintro e w0 ⟨rfl, hw0⟩
    subst hw0
    go_upto_region 5 with (fail)
    refine wp_region_F (fun w' => w'.cell? ⟨b, 0, none⟩ = some (.slice (some ⟨g, 0, none⟩) n cap)) 16 (by kernel_rfl) ?_
    have hS0 := KW.out w.drew (Below.refl _ _).drew
    refine wpAnyF_take (i := 0) (v := ?_) rfl (by kernel_rfl) (by kernel_rfl) (by kernel_rfl) (by kernel_rfl) (fun _ _ _ h => h) (Or.inl ⟨by rfl, ?_⟩) (by assumption) ?_; rotate_left; (focus (intro w hSw; (skip); (first | (go_simp; done) | (go_simp; with_reducible rfl)))); (try simp only [Act.put, List.setIfInBounds_toArray, List.set_cons_zero, List.set_cons_succ])
    refine wpAnyF_take (i := 2) (v := ?_) rfl (by kernel_rfl) (by kernel_rfl) (by kernel_rfl) (by kernel_rfl) (fun _ _ _ h => h) (Or.inl ⟨by rfl, ?_⟩) (by assumption) ?_; rotate_left; (focus (intro w hSw; (skip); (first | (go_simp; done) | (go_simp; with_reducible rfl)))); (try simp only [Act.put, List.setIfInBounds_toArray, List.set_cons_zero, List.set_cons_succ])
    refine wpAnyF_take (i := 3) (v := ?_) rfl (by kernel_rfl) (by kernel_rfl) (by kernel_rfl) (by kernel_rfl) (fun _ _ _ h => h) (Or.inl ⟨by rfl, ?_⟩) (by assumption) ?_; rotate_left; (focus (intro w hSw; (skip); (first | (go_simp; done) | (go_simp; with_reducible rfl)))); (try simp only [Act.put, List.setIfInBounds_toArray, List.set_cons_zero, List.set_cons_succ])
    refine wpAnyF_take (i := 4) (v := ?_) rfl (by kernel_rfl) (by kernel_rfl) (by kernel_rfl) (by kernel_rfl) (fun _ _ _ h => h) (Or.inl ⟨by rfl, ?_⟩) (by assumption) ?_; rotate_left; (focus (intro w hSw; (skip); (first | (go_simp; done) | (go_simp; with_reducible rfl)))); (try simp only [Act.put, List.setIfInBounds_toArray, List.set_cons_zero, List.set_cons_succ])
    refine wpAnyF_take (i := 5) (v := ?_) rfl (by kernel_rfl) (by kernel_rfl) (by kernel_rfl) (by kernel_rfl) (fun _ _ _ h => h) (Or.inl ⟨by rfl, ?_⟩) (by assumption) ?_; rotate_left; (focus (intro w hSw; (skip); (first | (go_simp; done) | (go_simp; with_reducible rfl)))); (try simp only [Act.put, List.setIfInBounds_toArray, List.set_cons_zero, List.set_cons_succ])
    refine wpAnyF_take (i := 6) (v := ?_) rfl (by kernel_rfl) (by kernel_rfl) (by kernel_rfl) (by kernel_rfl) (fun _ _ _ h => h) (Or.inl ⟨by rfl, ?_⟩) (by assumption) ?_; rotate_left; (focus (intro w hSw; (skip); (first | (go_simp; done) | (go_simp; with_reducible rfl)))); (try simp only [Act.put, List.setIfInBounds_toArray, List.set_cons_zero, List.set_cons_succ])
    refine wpAnyF_take (i := 7) (v := ?_) rfl (by kernel_rfl) (by kernel_rfl) (by kernel_rfl) (by kernel_rfl) (fun _ _ _ h => h) (Or.inl ⟨by rfl, ?_⟩) (by assumption) ?_; rotate_left; (focus (intro w hSw; (skip); (first | (go_simp; done) | (go_simp; with_reducible rfl)))); (try simp only [Act.put, List.setIfInBounds_toArray, List.set_cons_zero, List.set_cons_succ])
    refine wpAnyF_take (i := 8) (v := ?_) rfl (by kernel_rfl) (by kernel_rfl) (by kernel_rfl) (by kernel_rfl) (fun _ _ _ h => h) (Or.inl ⟨by rfl, ?_⟩) (by assumption) ?_; rotate_left; (focus (intro w hSw; (skip); (first | (go_simp; done) | (go_simp; with_reducible rfl)))); (try simp only [Act.put, List.setIfInBounds_toArray, List.set_cons_zero, List.set_cons_succ])
    refine wpAnyF_take (i := 9) (v := ?_) rfl (by kernel_rfl) (by kernel_rfl) (by kernel_rfl) (by kernel_rfl) (fun _ _ _ h => h) (Or.inl ⟨by rfl, ?_⟩) (by assumption) ?_; rotate_left; (focus (intro w hSw; (skip); (first | (go_simp; done) | (go_simp; with_reducible rfl)))); (try simp only [Act.put, List.setIfInBounds_toArray, List.set_cons_zero, List.set_cons_succ])
    refine wpAnyF_take (i := 10) (v := ?_) rfl (by kernel_rfl) (by kernel_rfl) (by kernel_rfl) (by kernel_rfl) (fun _ _ _ h => h) (Or.inl ⟨by rfl, ?_⟩) (by assumption) ?_; rotate_left; (focus (intro w hSw; (skip); (first | (go_simp; done) | (go_simp; with_reducible rfl)))); (try simp only [Act.put, List.setIfInBounds_toArray, List.set_cons_zero, List.set_cons_succ])
    refine wpAnyF_take (i := 11) (v := ?_) rfl (by kernel_rfl) (by kernel_rfl) (by kernel_rfl) (by kernel_rfl) (fun _ _ _ h => h) (Or.inl ⟨by rfl, ?_⟩) (by assumption) ?_; rotate_left; (focus (intro w hSw; (skip); (first | (go_simp; done) | (go_simp; with_reducible rfl)))); (try simp only [Act.put, List.setIfInBounds_toArray, List.set_cons_zero, List.set_cons_succ])
    refine wpAnyF_take (i := 12) (v := ?_) rfl (by kernel_rfl) (by kernel_rfl) (by kernel_rfl) (by kernel_rfl) (fun _ _ _ h => h) (Or.inl ⟨by rfl, ?_⟩) (by assumption) ?_; rotate_left; (focus (intro w hSw; (skip); (first | (go_simp; done) | (go_simp; with_reducible rfl)))); (try simp only [Act.put, List.setIfInBounds_toArray, List.set_cons_zero, List.set_cons_succ])
    refine wpAnyF_ready (rs := [1]) (by kernel_rfl) (by simp) ?_
    refine AllF.cons rfl (fun K hK => ?_) AllF.nil
    go_simp
    have l1 : Below w.heap.size w (w.drew.alloc (.cells #[] 136)) := by repeat (first | (with_reducible exact Below.refl _ _) | (with_reducible apply Below.drew) | (with_reducible refine below_drewN ?_ _) | (with_reducible refine below_alloc' ?_ ?_ _; (focus ((try simp) <;> omega))) | (with_reducible refine below_set' ?_ ?_ _; (focus ((try simp) <;> omega))))
    refine hK.out _ _ (fun _ => KW.out _ l1) ?_; clear hK K; (try simp only [Act.put, List.setIfInBounds_toArray, List.set_cons_zero, List.set_cons_succ])
    refine wpAnyF_ready (rs := [13]) (by kernel_rfl) (by simp) ?_
    refine AllF.cons rfl (fun K hK => ?_) AllF.nil
    have hnm := HNM.out
    refine step_append_own rfl _ _ 130 rfl w.heap.size 136 i0 (.agg (rc []).toArray) 24 112 Tryz.underlying130 hi0 hz0 hz1 hz2 zR (by decide) (.slice (some ⟨w.heap.size, 0, none⟩) 0 0) 0 [] rfl (empty_row w.drew _ 24 _ (Nat.le_refl _)) ⟨g, 0, none⟩ m cap (rowV (gs.take m)) rfl ?c0 ?c1 (rowV_one _) ?c3 ?c4 ?c5 ?_
    case c0 => rw [rowV_len, List.length_take, HN.out]; have := HNM.out; omega
    case c1 =>
      intro j u hu
      have hj := (List.getElem?_eq_some_iff.1 hu).1
      rw [rowV_take, List.getElem?_take] at hu
      split at hu
      · have := HS.out.cells (g := g) rfl j u hu
        exact bkeep l1 this
      · cases hu
    case c3 => unfold maxLen; omega
    case c4 => omega
    case c5 => simp
    intro v' w1 hown hgr _
    have hB1 : Below w.heap.size w w1 := l1.grown hgr (by simp) (by simp [Value.ownBlock])
    try simp only [Nat.zero_add, List.nil_append] at hown
    rcases hown.2 with ⟨rfl, hn0⟩ | ⟨g', cap', cur', rfl, hg1, hg2, _⟩
    · omega
    refine hK.out _ _ (fun _ => KW.out _ hB1) ?_; clear hK K; (try simp only [Act.put, List.setIfInBounds_toArray, List.set_cons_zero, List.set_cons_succ])
    refine wpAnyF_ready (rs := [14]) (by kernel_rfl) (by simp) ?_
    refine AllF.cons rfl (fun K hK => ?_) AllF.nil
    go_simp
    refine hK.out _ _ (fun _ => KW.out _ hB1) ?_; clear hK K; (try simp only [Act.put, List.setIfInBounds_toArray, List.set_cons_zero, List.set_cons_succ])
    refine wpAnyF_ready (rs := [15]) (by kernel_rfl) (by simp) ?_
    refine AllF.cons rfl (fun K hK => ?_) AllF.nil
    go_simp
    refine hK.out _ _ (fun _ => KW.out _ hB1) ?_; clear hK K; (try simp only [Act.put, List.setIfInBounds_toArray, List.set_cons_zero, List.set_cons_succ])
    refine wpAnyF_ready (rs := [16]) (by kernel_rfl) (by simp) ?_
    refine AllF.cons rfl (fun K hK => ?_) AllF.nil
    have hcell := KW.out _ hB1
    have hbb := bblk hB1 HB.out
    have hfrz := blk_free hbb
    go_simp
    refine hK.out _ _ (fun h => absurd rfl h) ?_; clear hK K; (try simp only [Act.put, List.setIfInBounds_toArray, List.set_cons_zero, List.set_cons_succ]); refine wpAnyF_done (by kernel_rfl) ?_ _
    have HOWN := Lib.hid hown; have HB1 := Lib.hid hB1; have HBB := Lib.hid hbb
    clear hown hgr hB1 hg2 l1 hbb hcell
    go_wp2
    go_ret
    refine ⟨rfl, (Only.of_below (S := fun k => k = b) HB1.out (fun k hk h => by omega)).setCell (p := ⟨b, 0, none⟩) (.inr rfl) _, g', cap', ?_, ?_, ?_, ?_⟩
    · rw [blk_set HBB.out 0, List.length_dropLast, HN.out, show n - 1 = m by omega]
      rfl
    · rw [List.length_dropLast, HN.out, show n - 1 = m by omega, List.dropLast_eq_take, HN.out, show n - 1 = m by omega]
      refine ownsRow_only (S := fun k => k = b) (ownsRow_base HOWN.out (fun _ _ => Nat.zero_le _)) ((Only.refl (fun k => k = b) _).setCell (p := ⟨b, 0, none⟩) (.inr rfl) _) ?_
      intro k hk e
      injection hk with hk
      have hk2 : g' = b := hk.trans e
      omega
    · rw [List.length_dropLast, HN.out]; omega
    · rw [List.length_dropLast, HN.out]; omega
end Go.Proofs.YtganmdbhmihjpaaGreat.Wri
