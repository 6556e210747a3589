/- Texts of this seat, one behind the other: WriD, WriE, WriN, WriP, WriQ, WriS, WriT, WriU, WriV, WriX, WriY, HisM. -/
import Derived.Test.YtganmdbhmihjpaaMga
import Derived.Deep.MidRow
import Derived.Laws.Rows
import Derived.Laws.Tables
import Derived.Deep.WholeRow
import Derived.Deep.CutBlock
/- New, Push, pop, Drop, Depth, Put of a log. -/
namespace Go.Proofs.Ytganmdbhmihjpaa.Wri
open Go.RowKit
set_option linter.unusedSimpArgs false
set_option linter.unusedVariables false
set_option maxRecDepth 50000

abbrev Frs := List (Value × Frm)
abbrev nilF : Value × Frm := (.slice none 0 0, [])
theorem frAt_nil (w : World) : FrAt w (.slice none 0 0) [] := World.ownsRow_nil _ _ _ _
theorem new_any (w : World) : Calls Try.prog 52 #[] w fun e w' => ∃ b, e = .returned (ptr b) ∧ w.heap.size ≤ b ∧ LogAt w' b [nilF] ∧ Below w.heap.size w w' := by
  go_enter Try.func52, Try.ntmps52
  go_wp2_with fail
  refine (push_any w none none 0 0).mono ?_
  rintro e w1 ⟨rfl, rfl⟩
  go_wp2_with fail
  go_ret
  refine ⟨w.heap.size + 1, by simp [ptr], by omega, ?_, by repeat (first | (with_reducible exact Below.refl _ _) | (with_reducible apply Below.drew) | (with_reducible refine below_drewN ?_ _) | (with_reducible refine below_alloc' ?_ ?_ _; (focus ((try simp) <;> omega))) | (with_reducible refine below_set' ?_ ?_ _; (focus ((try simp) <;> omega))))⟩
  refine ⟨some ⟨w.heap.size, 0, none⟩, by simp [↓heap_alloc_eq, ↓heap_set_eq, ↓heap_drew_eq, ↓heap_drewN_eq, setObj, size_drewN], ⟨w.heap.size, .pointer none, rfl, by simp [↓heap_alloc_eq, ↓heap_set_eq, ↓heap_drew_eq, ↓heap_drewN_eq, setObj, size_drewN], frAt_nil _, by simp, rfl⟩, by simp, by simp⟩
theorem depth_any (w : World) (b : Nat) (xs : Frs) (h : LogAt w b xs) : Calls Try.prog 54 #[ptr b] w fun e w' => e = .returned (.int .i64 ((xs.length : Int) - 1)) ∧ w = w' := by
  obtain ⟨o, hb, hS, hx1, hx5⟩ := h
  have b1 := blk_cell hb 1
  simp only [List.getElem?_toArray, List.getElem?_cons_zero, List.getElem?_cons_succ] at b1
  clear hb hS
  go_enter Try.func54, Try.ntmps54
  go_wp2
  go_ret
  exact ⟨rfl, rfl⟩
theorem depth_nil (w : World) : Calls Try.prog 54 #[.pointer none] w fun e w' => e = .returned (.int .i64 0) ∧ w = w' := by
  go_enter Try.func54, Try.ntmps54
  go_wp2
  go_ret
  exact ⟨rfl, rfl⟩
/-- the log's two cells are turned: another stack, another depth -/
theorem LogAt.turn {w w' : World} {b : Nat} {xs : Frs} {o : Option Addr} (hb : w'.heap[b]? = some (.cells #[.pointer o, .int .i64 ((xs.length : Int) - 1)] 114 (0, 0))) (hS : StackAt w' (.pointer o) xs) (h1 : 1 ≤ xs.length) (h5 : xs.length ≤ 5) : LogAt w' b xs := ⟨o, hb, hS, h1, h5⟩
/-- a stack stands through a turn of a block that is no part of it -/
theorem StackAt.set {w : World} {b i : Nat} {v : Value} {cs : Array Value} (hb : w.heap[b]? = some (.cells cs 114 (0, 0))) : ∀ {p : Value} {xs : Frs}, StackAt w p xs → StackAt (w.setCell ⟨b, i, none⟩ v) p xs
  | _, [], h => h
  | _, x :: r, ⟨b', q, e, hb', hf, hl, hr⟩ => by
    have hne : b ≠ b' := by
      rintro rfl
      rw [hb] at hb'
      injection hb' with h1
      injection h1 with _ h2 _
      exact absurd h2 (by decide)
    refine ⟨b', q, e, (blk_other hb' (p := ⟨b, i, none⟩) hne.symm v), ?_, hl, StackAt.set hb hr⟩
    refine ownsRow_only (S := fun k => k = b) hf ((Only.refl (fun k => k = b) w).setCell (p := ⟨b, i, none⟩) (.inr rfl) v) ?_
    intro k hk e
    subst e
    rcases hf.2 with ⟨h0, _⟩ | ⟨g, cap, cur, h0, _, hg, _⟩
    · rw [h0] at hk; cases hk
    · rw [h0] at hk
      injection hk with hk
      subst hk
      rw [hb] at hg
      injection hg with h1
      injection h1 with _ h2 _
      exact absurd h2 (by decide)
def PushPost (w : World) (b : Nat) (xs : Frs) (e : Ending) (w' : World) : Prop :=
  if 5 ≤ xs.length then e = .returned (.int .i64 4) ∧ w = w' else e = .returned (.int .i64 0) ∧ Only (fun k => k = b) w w' ∧ LogAt w' b (nilF :: xs)
theorem lpush_any (w : World) (b : Nat) (xs : Frs) (h : LogAt w b xs) : Calls Try.prog 70 #[ptr b] w (PushPost w b xs) := by
  obtain ⟨o, hb, hS, hx1, hx5⟩ := h
  have hblt := blk_lt hb
  have b0 := blk_cell hb 0; have b1 := blk_cell hb 1
  have bf := blk_free hb
  simp only [List.getElem?_toArray, List.getElem?_cons_zero, List.getElem?_cons_succ] at b0 b1
  unfold PushPost
  by_cases h5 : 5 ≤ xs.length
  · simp only [if_pos h5]
    have hd : decide ((4 : Int) ≤ (xs.length : Int) - 1) = true := by simp; omega
    clear hb hS h5
    generalize (xs.length : Int) - 1 = d at *
    go_enter Try.func70, Try.ntmps70
    go_wp2
    go_ret
    exact ⟨rfl, rfl⟩
  · simp only [if_neg h5]
    have hd : decide ((4 : Int) ≤ (xs.length : Int) - 1) = false := by simp; omega
    obtain ⟨d, hde⟩ : ∃ d, (xs.length : Int) - 1 = d := ⟨_, rfl⟩
    have hw : IntKind.i64.wrap (d + 1) = d + 1 := by rw [IntKind.wrap_i64]; omega
    have HB := Lib.hid hb; have HS := Lib.hid hS; have HD := Lib.hid hde
    rw [hde] at hd b1
    clear hb hS hde
    go_enter Try.func70, Try.ntmps70
    go_wp2_with fail
    refine (push_any w o none 0 0).mono ?_
    rintro e w1 ⟨rfl, rfl⟩
    have lb : Below w.heap.size w (w.alloc (.cells #[.slice none 0 0, .pointer o] 122)) := by repeat (first | (with_reducible exact Below.refl _ _) | (with_reducible apply Below.drew) | (with_reducible refine below_drewN ?_ _) | (with_reducible refine below_alloc' ?_ ?_ _; (focus ((try simp) <;> omega))) | (with_reducible refine below_set' ?_ ?_ _; (focus ((try simp) <;> omega))))
    have hn := blk_new w (.cells #[.slice none 0 0, .pointer o] 122)
    replace b0 := bkeep lb b0; replace b1 := bkeep lb b1
    have hb1 := bblk lb HB.out
    have bf1 := blk_free hb1
    have HL := Lib.hid lb; have HN := Lib.hid hn; have HB1 := Lib.hid hb1; have HS1 := Lib.hid (HS.out.below lb)
    clear lb hn hb1 bf
    generalize w.alloc (.cells #[.slice none 0 0, .pointer o] 122) = w1 at *
    go_wp2_with fail
    go_ret
    refine ⟨rfl, ?_, ?_⟩
    · repeat (first | (with_reducible exact Only.of_below HL.out (fun k hk h => by omega)) | (with_reducible refine only_set' ?_ ?_ _; (focus ((try simp) <;> omega))))
    · have hA := blk_set (blk_set HB1.out 0 (ptr w.heap.size)) 1 (.int .i64 (d + 1))
      simp only [List.setIfInBounds_toArray, List.set_cons_zero, List.set_cons_succ] at hA
      have hsA := blk_set HB1.out 0 (ptr w.heap.size)
      refine ⟨some ⟨w.heap.size, 0, none⟩, ?_, ?_, by simp, by simp; omega⟩
      · rw [hA]
        simp
        have := HD.out
        omega
      · have hs0 : StackAt w1 (ptr w.heap.size) (nilF :: xs) := ⟨w.heap.size, .pointer o, rfl, HN.out, frAt_nil _, by simp, HS1.out⟩
        exact StackAt.set (by simpa using hsA) (StackAt.set HB1.out hs0)

/-! ### pop, Drop -/
def PopPost (w : World) (b : Nat) (xs : Frs) (e : Ending) (w' : World) : Prop :=
  if xs.length ≤ 1 then e = .returned (.tuple #[.slice none 0 0, .int .i64 8]) ∧ w = w'
  else ∃ x r, xs = x :: r ∧ e = .returned (.tuple #[x.1, .int .i64 0]) ∧ Only (fun k => k = b) w w' ∧ LogAt w' b r ∧ FrAt w' x.1 x.2
theorem pop_any (w : World) (b : Nat) (xs : Frs) (h : LogAt w b xs) : Calls Try.prog 80 #[ptr b] w (PopPost w b xs) := by
  obtain ⟨o, hb, hS, hx1, hx5⟩ := h
  have hblt := blk_lt hb
  have b0 := blk_cell hb 0; have b1 := blk_cell hb 1
  have bf := blk_free hb
  simp only [List.getElem?_toArray, List.getElem?_cons_zero, List.getElem?_cons_succ] at b0 b1
  unfold PopPost
  by_cases h1 : xs.length ≤ 1
  · simp only [if_pos h1]
    have hd : ((xs.length : Int) - 1 == 0) = true := by simp; omega
    clear hb hS h1
    generalize (xs.length : Int) - 1 = d at *
    go_enter Try.func80, Try.ntmps80
    go_wp2
    go_ret2
    exact ⟨rfl, rfl⟩
  · simp only [if_neg h1]
    have hd : ((xs.length : Int) - 1 == 0) = false := by simp; omega
    obtain ⟨d, hde⟩ : ∃ d, (xs.length : Int) - 1 = d := ⟨_, rfl⟩
    have hw : IntKind.i64.wrap (d - 1) = d - 1 := by rw [IntKind.wrap_i64]; omega
    have HB := Lib.hid hb; have HD := Lib.hid hde
    rw [hde] at hd b1
    cases xs with
    | nil => simp at h1
    | cons x r =>
      obtain ⟨nb, q, e0, hn, hf, hl, hr⟩ := hS
      obtain ⟨oq, rfl⟩ := hr.isPtr
      injection e0 with e0
      subst e0
      obtain ⟨xv, xf⟩ := x
      simp only at hn hf hl
      have n0 := blk_cell hn 0; have n1 := blk_cell hn 1
      simp only [List.getElem?_toArray, List.getElem?_cons_zero, List.getElem?_cons_succ] at n0 n1
      have hnb : b ≠ nb := by
        rintro rfl
        have := hb.symm.trans hn
        injection this with h1
        injection h1 with _ h2 _
        exact absurd h2 (by decide)
      have hfin := (StackAt.set (i := 0) (v := .pointer oq) hb (xs := (xv, xf) :: r) (p := ptr nb) ⟨nb, _, rfl, hn, hf, hl, hr⟩)
      have hA1 := blk_set hb 0 (.pointer oq)
      have hfin2 := StackAt.set (i := 1) (v := .int .i64 (d - 1)) (by simpa using hA1) hfin
      obtain ⟨nb2, q2, e2, hn2, hf2, _, hr2⟩ := hfin2
      have hq2 : q2 = .pointer oq := by
        injection e2 with e2
        injection e2 with e2
        injection e2 with e2 _ _
        subst e2
        have hn3 := (blk_other (blk_other hn (p := ⟨b, 0, none⟩) hnb.symm (.pointer oq)) (p := ⟨b, 1, none⟩) hnb.symm (.int .i64 (d - 1)))
        rw [hn3] at hn2
        injection hn2 with h1
        injection h1 with h2 _ _
        have := congrArg (fun a : Array Value => a[1]?) h2
        simpa using this.symm
      subst hq2
      have hA := blk_set hA1 1 (.int .i64 (d - 1))
      simp only [List.setIfInBounds_toArray, List.set_cons_zero, List.set_cons_succ] at hA
      have hd2 : d - 1 = (r.length : Int) - 1 := by rw [← hde]; simp
      have HLOG := Lib.hid (show LogAt ((w.setCell ⟨b, 0, none⟩ (.pointer oq)).setCell ⟨b, 1, none⟩ (.int .i64 (d - 1))) b r from ⟨oq, by rw [hA, hd2], hr2, by rw [List.length_cons] at h1; omega, by rw [List.length_cons] at hx5; omega⟩)
      have HFR := Lib.hid hf2
      clear hb hn hf hr hfin hA1 hf2 hr2 hn2 hA hde h1 hd2 e2
      go_enter Try.func80, Try.ntmps80
      go_wp2_with fail
      go_ret2
      have hO : Only (fun k => k = b) w ((w.setCell ⟨b, 0, none⟩ (.pointer oq)).setCell ⟨b, 1, none⟩ (.int .i64 (d - 1))) := by repeat (first | (with_reducible exact Only.refl _ _) | (with_reducible apply Only.drew) | (with_reducible apply Only.drewN) | (with_reducible apply Only.alloc) | (with_reducible refine only_set' ?_ ?_ _; (focus ((try simp) <;> omega))))
      first
        | exact ⟨(xv, xf), r, rfl, rfl, hO, HLOG.out, HFR.out⟩
        | exact ⟨xv, xf, r, rfl, rfl, hO, HLOG.out, HFR.out⟩
        | exact ⟨xv, xf, r, ⟨⟨rfl, rfl⟩, rfl⟩, rfl, hO, HLOG.out, HFR.out⟩
theorem pop_nil (w : World) : Calls Try.prog 80 #[.pointer none] w fun e w' => e = .returned (.tuple #[.slice none 0 0, .int .i64 1]) ∧ w = w' := by
  go_enter Try.func80, Try.ntmps80
  go_wp2
  go_ret2
  exact ⟨rfl, rfl⟩
def DropPost (w : World) (b : Nat) (xs : Frs) (e : Ending) (w' : World) : Prop :=
  if xs.length ≤ 1 then e = .returned (.int .i64 8) ∧ w = w'
  else e = .returned (.int .i64 0) ∧ Only (fun k => k = b) w w' ∧ LogAt w' b xs.tail
theorem drop_any (w : World) (b : Nat) (xs : Frs) (h : LogAt w b xs) : Calls Try.prog 71 #[ptr b] w (DropPost w b xs) := by
  have hP := pop_any w b xs h
  unfold PopPost at hP
  unfold DropPost
  by_cases h1 : xs.length ≤ 1
  · simp only [if_pos h1] at hP ⊢
    have HP := Lib.hid hP
    clear hP h h1
    go_enter Try.func71, Try.ntmps71
    go_wp2_with fail; refine (HP.out).mono ?_; rintro e w0 ⟨rfl, rfl⟩
    go_wp2_with fail
    go_ret
    exact ⟨rfl, rfl⟩
  · simp only [if_neg h1] at hP ⊢
    have HP := Lib.hid hP
    clear hP h h1
    go_enter Try.func71, Try.ntmps71
    go_wp2_with fail
    refine HP.out.mono ?_
    rintro e w1 ⟨x, r, rfl, rfl, ho, hL, _⟩
    have HO := Lib.hid ho; have HL := Lib.hid hL
    clear ho hL
    go_wp2_with fail
    go_ret
    exact ⟨rfl, HO.out, HL.out⟩
theorem drop_nil (w : World) : Calls Try.prog 71 #[.pointer none] w fun e w' => e = .returned (.int .i64 1) ∧ w = w' := by
  go_enter Try.func71, Try.ntmps71
  go_wp2_with fail; refine (pop_nil w).mono ?_; rintro e w0 ⟨rfl, rfl⟩
  go_wp2_with fail
  go_ret
  exact ⟨rfl, rfl⟩
theorem lpush_nil (w : World) : Calls Try.prog 70 #[.pointer none] w fun e w' => e = .returned (.int .i64 1) ∧ w = w' := by
  go_enter Try.func70, Try.ntmps70
  go_wp2
  go_ret
  exact ⟨rfl, rfl⟩
theorem merge_nil (w : World) : Calls Try.prog 72 #[.pointer none] w fun e w' => e = .returned (.int .i64 1) ∧ w = w' := by
  go_enter Try.func72, Try.ntmps72
  go_wp2_with fail; refine (pop_nil w).mono ?_; rintro e w0 ⟨rfl, rfl⟩
  go_wp2_with fail
  go_ret
  exact ⟨rfl, rfl⟩
theorem put_nil (w : World) (t v : Int) : Calls Try.prog 69 #[.pointer none, .int .i64 t, .int .u64 v] w fun e w' => e = .returned (.int .i64 1) ∧ w = w' := by
  go_enter Try.func69, Try.ntmps69
  go_wp2
  go_ret
  exact ⟨rfl, rfl⟩
theorem len_nil (w : World) : Calls Try.prog 78 #[.pointer none] w fun e w' => e = .returned (.int .i64 0) ∧ w = w' := by
  go_enter Try.func78, Try.ntmps78
  go_wp2
  go_ret
  exact ⟨rfl, rfl⟩
theorem lget_nil (w : World) (t : Int) : Calls Try.prog 73 #[.pointer none, .int .i64 t] w fun e w' => e = .returned (.tuple #[.int .u64 0, .bool false]) ∧ Below w.heap.size w w' := by
  have bV := (Boxed.new (w.alloc (.cells #[.int .i64 t] 3)) 36 (.int .u64 0)).alloc (.cells #[.bool false] 4)
  have bI := Boxed.new ((w.alloc (.cells #[.int .i64 t] 3)).alloc (.cells #[.int .u64 0] 36)) 4 (.bool false)
  simp only [World.size_alloc] at bV bI
  have cV := bV.cell; have cI := bI.cell
  have hB3 : Below w.heap.size w (((w.alloc (.cells #[.int .i64 t] 3)).alloc (.cells #[.int .u64 0] 36)).alloc (.cells #[.bool false] 4)) := by repeat (first | (with_reducible exact Below.refl _ _) | (with_reducible apply Below.drew) | (with_reducible refine below_drewN ?_ _) | (with_reducible refine below_alloc' ?_ ?_ _; (focus ((try simp) <;> omega))) | (with_reducible refine below_set' ?_ ?_ _; (focus ((try simp) <;> omega))))
  go_enter Try.func73, Try.ntmps73
  go_wp2
  generalize (((w.alloc (.cells #[.int .i64 t] 3)).alloc (.cells #[.int .u64 0] 36)).alloc (.cells #[.bool false] 4)) = W at *
  refine bodyPost_ret (v := .tuple #[.int .u64 0, .bool false]) ?_ rfl ?_; (focus (simp [results, Try.results73, go_sem, cV, cI]; done))
  exact ⟨rfl, hB3⟩
end Go.Proofs.Ytganmdbhmihjpaa.Wri
/- Put of a log. -/
namespace Go.Proofs.Ytganmdbhmihjpaa.Wri
open Go.RowKit
set_option linter.unusedSimpArgs false
set_option linter.unusedVariables false
set_option maxRecDepth 50000

def okT (t : Int) : Prop := 0 ≤ t ∧ t < 12
instance (t : Int) : Decidable (okT t) := inferInstanceAs (Decidable (_ ∧ _))
def putE (xs : Frs) (t v : Int) : Int :=
  if ¬ okT t then 2 else if rightVal v = false then 3 else match xs with
    | [] => 0
    | x :: _ => if getF x.2 t = none ∧ 16 ≤ lenAll xs then 4 else 0
def PutPost (w : World) (b : Nat) (xs : Frs) (t v : Int) (e : Ending) (w' : World) : Prop :=
  e = .returned (.int .i64 (putE xs t v)) ∧ Only (fun k => k = b) w w' ∧ (putE xs t v ≠ 0 → LogAt w' b xs) ∧
    (putE xs t v = 0 → ∀ x r, xs = x :: r → ∃ u, LogAt w' b ((u, putF x.2 t v) :: r) ∧ Fr w u)
theorem put_range (w : World) (b : Nat) (t v : Int) (h : ¬ okT t) : Calls Try.prog 69 #[ptr b, .int .i64 t, .int .u64 v] w fun e w' => e = .returned (.int .i64 2) ∧ w = w' := by
  by_cases h0 : t < 0
  · have hd : decide (t < 0) = true := by simpa using h0
    go_enter Try.func69, Try.ntmps69
    go_wp2
    go_ret
    exact ⟨rfl, rfl⟩
  · have hd : decide (t < 0) = false := by simpa using h0
    have hd2 : decide (12 ≤ t) = true := by simp; unfold okT at h; omega
    go_enter Try.func69, Try.ntmps69
    go_wp2
    go_ret
    exact ⟨rfl, rfl⟩
theorem put_form (w : World) (b : Nat) (t v : Int) (h : okT t) (hv : 0 ≤ v ∧ v < 18446744073709551616) (hr : rightVal v = false) : Calls Try.prog 69 #[ptr b, .int .i64 t, .int .u64 v] w fun e w' => e = .returned (.int .i64 3) ∧ w = w' := by
  have hd : decide (t < 0) = false := by simp; exact h.1
  have hd2 : decide (12 ≤ t) = false := by simp; exact h.2
  have hR := vRight_any w v hv
  rw [hr] at hR
  have HR := Lib.hid hR
  clear hR hr
  go_enter Try.func69, Try.ntmps69
  go_wp2_with fail; refine (HR.out).mono ?_; rintro e w0 ⟨rfl, rfl⟩
  go_wp2_with fail
  go_ret
  exact ⟨rfl, rfl⟩
set_option maxHeartbeats 1600000 in
theorem put_space (w : World) (b : Nat) (x : Value × Frm) (r : Frs) (t v : Int) (h : LogAt w b (x :: r)) (ht : okT t) (hv : 0 ≤ v ∧ v < 18446744073709551616) (hr : rightVal v = true) (hn : getF x.2 t = none) (hl : 16 ≤ lenAll (x :: r)) :
    Calls Try.prog 69 #[ptr b, .int .i64 t, .int .u64 v] w fun e w' => e = .returned (.int .i64 4) ∧ Below w.heap.size w w' := by
  have hd : decide (t < 0) = false := by simp; exact ht.1
  have hd2 : decide (12 ≤ t) = false := by simp; exact ht.2
  have hR := vRight_any w v hv
  rw [hr] at hR
  have HR := Lib.hid hR
  have HLOG := Lib.hid h
  obtain ⟨o, hb, hS, hx1, hx5⟩ := h
  obtain ⟨nb, q, e0, hnn, hf, hfl, hrr⟩ := hS
  injection e0 with e0
  subst e0
  have b0 := blk_cell hb 0
  have n0 := blk_cell hnn 0
  simp only [List.getElem?_toArray, List.getElem?_cons_zero] at b0 n0
  have hG := get_any w x.1 x.2 hf hfl t
  rw [hn] at hG
  have HG := Lib.hid hG
  have hle : decide (16 ≤ lenAll (x :: r)) = true := by simpa using hl
  have HLE := Lib.hid (show ∀ W, LogAt W b (x :: r) → Calls Try.prog 78 #[ptr b] W fun e w' => e = .returned (.int .i64 (lenAll (x :: r))) ∧ Below W.heap.size W w' from fun W h => len_any W b _ h)
  obtain ⟨L, hL⟩ : ∃ L, lenAll (x :: r) = L := ⟨_, rfl⟩
  rw [hL] at HLE hle
  clear hR hr hb hnn hf hrr hG hL hl hn
  go_enter Try.func69, Try.ntmps69
  go_wp2_with fail; refine (HR.out).mono ?_; rintro e w0 ⟨rfl, rfl⟩
  go_wp2_with fail
  refine HG.out.mono ?_
  rintro e w1 ⟨rfl, l1⟩
  have HL1 := Lib.hid l1; have HLG1 := Lib.hid (HLOG.out.below l1)
  clear l1 b0 n0
  simp only [Option.getD_none, Option.isSome_none]
  go_wp2_with fail
  refine (HLE.out w1 HLG1.out).mono ?_
  rintro e w2 ⟨rfl, l2⟩
  have HL2 := Lib.hid (btrans HL1.out (Nat.le_refl _) l2)
  clear l2
  go_wp2_with fail
  go_ret
  exact ⟨rfl, HL2.out⟩
/-- the last part of Put: the new frame is laid over the others -/
def PutDone (w : World) (b : Nat) (x : Value × Frm) (r : Frs) (t v : Int) (e : Ending) (w' : World) : Prop :=
  e = .returned (.int .i64 0) ∧ Only (fun k => k = b) w w' ∧ ∃ u, LogAt w' b ((u, putF x.2 t v) :: r) ∧ Fr w u
set_option maxHeartbeats 1600000 in
theorem put_done (w : World) (b : Nat) (x : Value × Frm) (r : Frs) (t v : Int) (h : LogAt w b (x :: r)) (hx9 : x.2.length ≤ 900) (ht : okT t) (hv : 0 ≤ v ∧ v < 18446744073709551616) (hr : rightVal v = true) (hn : ¬ (getF x.2 t = none ∧ 16 ≤ lenAll (x :: r))) :
    Calls Try.prog 69 #[ptr b, .int .i64 t, .int .u64 v] w (PutDone w b x r t v) := by
  have hd : decide (t < 0) = false := by simp; exact ht.1
  have hd2 : decide (12 ≤ t) = false := by simp; exact ht.2
  have hR := vRight_any w v hv
  rw [hr] at hR
  have HR := Lib.hid hR
  have HLOG := Lib.hid h
  obtain ⟨o, hb, hS, hx1, hx5⟩ := h
  obtain ⟨nb, q, e0, hnn, hf, hfl, hrr⟩ := hS
  obtain ⟨oq, rfl⟩ := hrr.isPtr
  injection e0 with e0
  subst e0
  have b0 := blk_cell hb 0
  have n0 := blk_cell hnn 0; have n1 := blk_cell hnn 1
  simp only [List.getElem?_toArray, List.getElem?_cons_zero, List.getElem?_cons_succ] at b0 n0 n1
  have hG := get_any w x.1 x.2 hf hfl t
  have HB := Lib.hid hb; have HN := Lib.hid hnn; have HF := Lib.hid hf; have HRR := Lib.hid hrr
  have HLE := Lib.hid (show ∀ W, LogAt W b (x :: r) → Calls Try.prog 78 #[ptr b] W fun e w' => e = .returned (.int .i64 (lenAll (x :: r))) ∧ Below W.heap.size W w' from fun W h => len_any W b _ h)
  have KW := Lib.hid (show ∀ w', Below w.heap.size w w' → (w'.cell? ⟨b, 0, none⟩ = some (ptr nb) ∧ w'.cell? ⟨nb, 0, none⟩ = some x.1 ∧ w'.cell? ⟨nb, 1, none⟩ = some (.pointer oq)) from fun w' h => ⟨bkeep h b0, bkeep h n0, bkeep h n1⟩)
  have KF := Lib.hid (show ∀ w', Below w.heap.size w w' → ∀ i, w'.frozen? ⟨b, i, none⟩ = false from fun w' h => blk_free (bblk h HB.out))
  have HPUT := Lib.hid (show ∀ W, Below w.heap.size w W → Calls Try.prog 79 #[x.1, .agg #[.int .i64 t, .int .u64 v]] W fun e w' => ∃ a n c, e = .returned (.slice a n c) ∧ FrAt w' (.slice a n c) (putF x.2 t v) ∧ Below W.heap.size W w' ∧ Fr W (.slice a n c) from fun W hl => put_any W x.1 x.2 (frAt_below (w := w) HF.out hl) hx9 t v)
  have hpl := putF_len x.2 t v
  unfold PutDone
  cases hg : getF x.2 t with
  | some g0 =>
    rw [hg] at hG
    have HG := Lib.hid hG
    clear hR hr hb hnn hf hrr hG hn hg HLE
    go_enter Try.func69, Try.ntmps69
    go_wp2_with fail; refine (HR.out).mono ?_; rintro e w0 ⟨rfl, rfl⟩
    go_wp2_with fail
    refine HG.out.mono ?_
    rintro e WW ⟨rfl, l1⟩
    have HLW := Lib.hid l1
    clear l1 b0 n0 n1
    simp only [Option.getD_some, Option.isSome_some]
    go_wp2_with fail
    have QL := btrans HLW.out (Nat.le_refl _) (show Below WW.heap.size WW WW.drew from (Below.refl _ _).drew)
    refine wp_region_F (fun w' => w'.cell? ⟨b, 0, none⟩ = some (ptr nb) ∧ w'.cell? ⟨nb, 0, none⟩ = some x.1 ∧ w'.cell? ⟨nb, 1, none⟩ = some (.pointer oq)) 22 (by kernel_rfl) ?_
    have hS0 := KW.out WW.drew QL
    refine wpAnyF_take (i := 0) (v := ?_) rfl (by kernel_rfl) (by kernel_rfl) (by kernel_rfl) (by kernel_rfl) (fun _ _ _ h => h) (Or.inl ⟨by rfl, ?_⟩) (by assumption) ?_; rotate_left; (focus (intro w hSw; (skip); (first | (go_simp; done) | (go_simp; with_reducible rfl)))); (try simp only [Act.put, List.setIfInBounds_toArray, List.set_cons_zero, List.set_cons_succ])
    refine wpAnyF_take (i := 1) (v := ?_) rfl (by kernel_rfl) (by kernel_rfl) (by kernel_rfl) (by kernel_rfl) (fun _ _ _ h => h) (Or.inl ⟨by rfl, ?_⟩) (by assumption) ?_; rotate_left; (focus (intro w hSw; (skip); (first | (go_simp; done) | (go_simp; with_reducible rfl)))); (try simp only [Act.put, List.setIfInBounds_toArray, List.set_cons_zero, List.set_cons_succ])
    refine wpAnyF_take (i := 2) (v := ?_) rfl (by kernel_rfl) (by kernel_rfl) (by kernel_rfl) (by kernel_rfl) (fun _ _ _ h => h) (Or.inl ⟨by rfl, ?_⟩) (by assumption) ?_; rotate_left; (focus (intro w hSw; (skip); (first | (go_simp; done) | (go_simp; with_reducible rfl)))); (try simp only [Act.put, List.setIfInBounds_toArray, List.set_cons_zero, List.set_cons_succ])
    refine wpAnyF_take (i := 3) (v := ?_) rfl (by kernel_rfl) (by kernel_rfl) (by kernel_rfl) (by kernel_rfl) (fun _ _ _ h => h) (Or.inl ⟨by rfl, ?_⟩) (by assumption) ?_; rotate_left; (focus (intro w hSw; (skip); (first | (go_simp; done) | (go_simp; with_reducible rfl)))); (try simp only [Act.put, List.setIfInBounds_toArray, List.set_cons_zero, List.set_cons_succ])
    refine wpAnyF_take (i := 4) (v := ?_) rfl (by kernel_rfl) (by kernel_rfl) (by kernel_rfl) (by kernel_rfl) (fun _ _ _ h => h) (Or.inl ⟨by rfl, ?_⟩) (by assumption) ?_; rotate_left; (focus (intro w hSw; (obtain ⟨q0, q1, q2⟩ := hSw); (first | (go_simp; done) | (go_simp; with_reducible rfl)))); (try simp only [Act.put, List.setIfInBounds_toArray, List.set_cons_zero, List.set_cons_succ])
    refine wpAnyF_take (i := 5) (v := ?_) rfl (by kernel_rfl) (by kernel_rfl) (by kernel_rfl) (by kernel_rfl) (fun _ _ _ h => h) (Or.inl ⟨by rfl, ?_⟩) (by assumption) ?_; rotate_left; (focus (intro w hSw; (skip); (first | (go_simp; done) | (go_simp; with_reducible rfl)))); (try simp only [Act.put, List.setIfInBounds_toArray, List.set_cons_zero, List.set_cons_succ])
    refine wpAnyF_take (i := 6) (v := ?_) rfl (by kernel_rfl) (by kernel_rfl) (by kernel_rfl) (by kernel_rfl) (fun _ _ _ h => h) (Or.inl ⟨by rfl, ?_⟩) (by assumption) ?_; rotate_left; (focus (intro w hSw; (skip); (first | (go_simp; done) | (go_simp; with_reducible rfl)))); (try simp only [Act.put, List.setIfInBounds_toArray, List.set_cons_zero, List.set_cons_succ])
    refine wpAnyF_take (i := 7) (v := ?_) rfl (by kernel_rfl) (by kernel_rfl) (by kernel_rfl) (by kernel_rfl) (fun _ _ _ h => h) (Or.inl ⟨by rfl, ?_⟩) (by assumption) ?_; rotate_left; (focus (intro w hSw; (obtain ⟨q0, q1, q2⟩ := hSw); (first | (go_simp; done) | (go_simp; with_reducible rfl)))); (try simp only [Act.put, List.setIfInBounds_toArray, List.set_cons_zero, List.set_cons_succ])
    refine wpAnyF_take (i := 8) (v := ?_) rfl (by kernel_rfl) (by kernel_rfl) (by kernel_rfl) (by kernel_rfl) (fun _ _ _ h => h) (Or.inl ⟨by rfl, ?_⟩) (by assumption) ?_; rotate_left; (focus (intro w hSw; (skip); (first | (go_simp; done) | (go_simp; with_reducible rfl)))); (try simp only [Act.put, List.setIfInBounds_toArray, List.set_cons_zero, List.set_cons_succ])
    refine wpAnyF_take (i := 9) (v := ?_) rfl (by kernel_rfl) (by kernel_rfl) (by kernel_rfl) (by kernel_rfl) (fun _ _ _ h => h) (Or.inl ⟨by rfl, ?_⟩) (by assumption) ?_; rotate_left; (focus (intro w hSw; (skip); (first | (go_simp; done) | (go_simp; with_reducible rfl)))); (try simp only [Act.put, List.setIfInBounds_toArray, List.set_cons_zero, List.set_cons_succ])
    refine wpAnyF_take (i := 10) (v := ?_) rfl (by kernel_rfl) (by kernel_rfl) (by kernel_rfl) (by kernel_rfl) (fun _ _ _ h => h) (Or.inl ⟨by rfl, ?_⟩) (by assumption) ?_; rotate_left; (focus (intro w hSw; (skip); (first | (go_simp; done) | (go_simp; with_reducible rfl)))); (try simp only [Act.put, List.setIfInBounds_toArray, List.set_cons_zero, List.set_cons_succ])
    refine wpAnyF_take (i := 11) (v := ?_) rfl (by kernel_rfl) (by kernel_rfl) (by kernel_rfl) (by kernel_rfl) (fun _ _ _ h => h) (Or.inl ⟨by rfl, ?_⟩) (by assumption) ?_; rotate_left; (focus (intro w hSw; (obtain ⟨q0, q1, q2⟩ := hSw); (first | (go_simp; done) | (go_simp; with_reducible rfl)))); (try simp only [Act.put, List.setIfInBounds_toArray, List.set_cons_zero, List.set_cons_succ])
    refine wpAnyF_take (i := 12) (v := ?_) rfl (by kernel_rfl) (by kernel_rfl) (by kernel_rfl) (by kernel_rfl) (fun _ _ _ h => h) (Or.inl ⟨by rfl, ?_⟩) (by assumption) ?_; rotate_left; (focus (intro w hSw; (skip); (first | (go_simp; done) | (go_simp; with_reducible rfl)))); (try simp only [Act.put, List.setIfInBounds_toArray, List.set_cons_zero, List.set_cons_succ])
    refine wpAnyF_take (i := 13) (v := ?_) rfl (by kernel_rfl) (by kernel_rfl) (by kernel_rfl) (by kernel_rfl) (fun _ _ _ h => h) (Or.inl ⟨by rfl, ?_⟩) (by assumption) ?_; rotate_left; (focus (intro w hSw; (skip); (first | (go_simp; done) | (go_simp; with_reducible rfl)))); (try simp only [Act.put, List.setIfInBounds_toArray, List.set_cons_zero, List.set_cons_succ])
    refine wpAnyF_take (i := 14) (v := ?_) rfl (by kernel_rfl) (by kernel_rfl) (by kernel_rfl) (by kernel_rfl) (fun _ _ _ h => h) (Or.inl ⟨by rfl, ?_⟩) (by assumption) ?_; rotate_left; (focus (intro w hSw; (obtain ⟨q0, q1, q2⟩ := hSw); (first | (go_simp; done) | (go_simp; with_reducible rfl)))); (try simp only [Act.put, List.setIfInBounds_toArray, List.set_cons_zero, List.set_cons_succ])
    refine wpAnyF_take (i := 15) (v := ?_) rfl (by kernel_rfl) (by kernel_rfl) (by kernel_rfl) (by kernel_rfl) (fun _ _ _ h => h) (Or.inl ⟨by rfl, ?_⟩) (by assumption) ?_; rotate_left; (focus (intro w hSw; (skip); (first | (go_simp; done) | (go_simp; with_reducible rfl)))); (try simp only [Act.put, List.setIfInBounds_toArray, List.set_cons_zero, List.set_cons_succ])
    refine wpAnyF_take (i := 16) (v := ?_) rfl (by kernel_rfl) (by kernel_rfl) (by kernel_rfl) (by kernel_rfl) (fun _ _ _ h => h) (Or.inl ⟨by rfl, ?_⟩) (by assumption) ?_; rotate_left; (focus (intro w hSw; (skip); (first | (go_simp; done) | (go_simp; with_reducible rfl)))); (try simp only [Act.put, List.setIfInBounds_toArray, List.set_cons_zero, List.set_cons_succ])
    refine wpAnyF_take (i := 17) (v := ?_) rfl (by kernel_rfl) (by kernel_rfl) (by kernel_rfl) (by kernel_rfl) (fun _ _ _ h => h) (Or.inl ⟨by rfl, ?_⟩) (by assumption) ?_; rotate_left; (focus (intro w hSw; (skip); (first | (go_simp; done) | (go_simp; with_reducible rfl)))); (try simp only [Act.put, List.setIfInBounds_toArray, List.set_cons_zero, List.set_cons_succ])
    refine wpAnyF_ready (rs := [18]) (by kernel_rfl) (by simp) ?_
    refine AllF.cons rfl (fun K hK => ?_) AllF.nil
    go_simp
    refine (HPUT.out _ QL).mono ?_
    rintro e w3 ⟨fa, fn, fc, rfl, hfr, l3, hfs⟩
    have HFS := Lib.hid (show Fr w (.slice fa fn fc) from fun k hk => Nat.le_trans QL.size (hfs k hk))
    clear hfs
    have LB3 := btrans QL (Nat.le_refl _) l3
    dsimp only
    refine hK.out _ _ (fun _ => KW.out _ LB3) ?_; clear hK K; (try simp only [Act.put, List.setIfInBounds_toArray, List.set_cons_zero, List.set_cons_succ])
    refine wpAnyF_ready (rs := [19]) (by kernel_rfl) (by simp) ?_
    refine AllF.cons rfl (fun K hK => ?_) AllF.nil
    go_simp
    refine (push_any w3 oq fa fn fc).mono ?_
    rintro e w4 ⟨rfl, hw4⟩
    have LB4 : Below w.heap.size w w4 := by rw [hw4]; exact btrans LB3 (Nat.le_refl _) ((Below.refl w3.heap.size w3).alloc (Nat.le_refl _) _)
    have hnw : w4.heap[w3.heap.size]? = some (.cells #[.slice fa fn fc, .pointer oq] 122 (0, 0)) := by rw [hw4]; exact blk_new _ _
    have hf4 : FrAt w4 (.slice fa fn fc) (putF x.2 t v) := by rw [hw4]; exact frAt_below hfr ((Below.refl w3.heap.size w3).alloc (Nat.le_refl _) _)
    clear hw4
    dsimp only
    refine hK.out _ _ (fun _ => KW.out _ LB4) ?_; clear hK K; (try simp only [Act.put, List.setIfInBounds_toArray, List.set_cons_zero, List.set_cons_succ])
    refine wpAnyF_ready (rs := [20]) (by kernel_rfl) (by simp) ?_
    refine AllF.cons rfl (fun K hK => ?_) AllF.nil
    go_simp
    refine hK.out _ _ (fun _ => KW.out _ LB4) ?_; clear hK K; (try simp only [Act.put, List.setIfInBounds_toArray, List.set_cons_zero, List.set_cons_succ])
    refine wpAnyF_ready (rs := [21]) (by kernel_rfl) (by simp) ?_
    refine AllF.cons rfl (fun K hK => ?_) AllF.nil
    go_simp
    refine hK.out _ _ (fun _ => KW.out _ LB4) ?_; clear hK K; (try simp only [Act.put, List.setIfInBounds_toArray, List.set_cons_zero, List.set_cons_succ])
    refine wpAnyF_ready (rs := [22]) (by kernel_rfl) (by simp) ?_
    refine AllF.cons rfl (fun K hK => ?_) AllF.nil
    have hcell := (KW.out _ LB4).1
    have hfrz := KF.out _ LB4
    go_simp
    refine hK.out _ _ (fun h => absurd rfl h) ?_; clear hK K; (try simp only [Act.put, List.setIfInBounds_toArray, List.set_cons_zero, List.set_cons_succ]); refine wpAnyF_done (by kernel_rfl) ?_ _
    have hb4 := bblk LB4 HB.out
    have hA := blk_set hb4 0 (ptr w3.heap.size)
    have hS4 : StackAt w4 (ptr w3.heap.size) ((.slice fa fn fc, putF x.2 t v) :: r) := ⟨w3.heap.size, .pointer oq, rfl, hnw, hf4, by show (putF x.2 t v).length ≤ 1000; omega, HRR.out.below LB4⟩
    have hS5 := StackAt.set (i := 0) (v := ptr w3.heap.size) hb4 hS4
    have hlt : b < w.heap.size := blk_lt HB.out
    have HFIN := Lib.hid (show LogAt (w4.setCell ⟨b, 0, none⟩ (ptr w3.heap.size)) b ((.slice fa fn fc, putF x.2 t v) :: r) from ⟨some ⟨w3.heap.size, 0, none⟩, by rw [hA]; simp, hS5, by simp, by rw [List.length_cons] at hx5 ⊢; omega⟩)
    have HO := Lib.hid (show Only (fun k => k = b) w (w4.setCell ⟨b, 0, none⟩ (ptr w3.heap.size)) from (Only.of_below (S := fun k => k = b) LB4 (fun k hk h => by omega)).setCell (p := ⟨b, 0, none⟩) (.inr rfl) _)
    clear hA hS4 hS5 hb4 hcell hfrz hf4 hnw hfr
    go_wp2_with fail
    go_ret
    exact ⟨rfl, HO.out, _, HFIN.out, HFS.out⟩
  | none =>
    rw [hg] at hG
    have HG := Lib.hid hG
    have hlf : ¬ 16 ≤ lenAll (x :: r) := fun h => hn ⟨hg, h⟩
    obtain ⟨L, hL⟩ : ∃ L, lenAll (x :: r) = L := ⟨_, rfl⟩
    rw [hL] at HLE hlf
    have hle : decide (16 ≤ L) = false := by simpa using hlf
    clear hR hr hb hnn hf hrr hG hn hg hL hlf
    go_enter Try.func69, Try.ntmps69
    go_wp2_with fail; refine (HR.out).mono ?_; rintro e w0 ⟨rfl, rfl⟩
    go_wp2_with fail
    refine HG.out.mono ?_
    rintro e w1 ⟨rfl, l1⟩
    have HL1 := Lib.hid l1; have HLG1 := Lib.hid (HLOG.out.below l1)
    clear l1 b0 n0 n1
    simp only [Option.getD_none, Option.isSome_none]
    go_wp2_with fail
    refine (HLE.out w1 HLG1.out).mono ?_
    rintro e WW ⟨rfl, l2⟩
    have HLW := Lib.hid (btrans HL1.out (Nat.le_refl _) l2)
    clear l2
    go_wp2_with fail
    have QL := btrans HLW.out (Nat.le_refl _) (show Below WW.heap.size WW WW.drew from (Below.refl _ _).drew)
    refine wp_region_F (fun w' => w'.cell? ⟨b, 0, none⟩ = some (ptr nb) ∧ w'.cell? ⟨nb, 0, none⟩ = some x.1 ∧ w'.cell? ⟨nb, 1, none⟩ = some (.pointer oq)) 22 (by kernel_rfl) ?_
    have hS0 := KW.out WW.drew QL
    refine wpAnyF_take (i := 0) (v := ?_) rfl (by kernel_rfl) (by kernel_rfl) (by kernel_rfl) (by kernel_rfl) (fun _ _ _ h => h) (Or.inl ⟨by rfl, ?_⟩) (by assumption) ?_; rotate_left; (focus (intro w hSw; (skip); (first | (go_simp; done) | (go_simp; with_reducible rfl)))); (try simp only [Act.put, List.setIfInBounds_toArray, List.set_cons_zero, List.set_cons_succ])
    refine wpAnyF_take (i := 1) (v := ?_) rfl (by kernel_rfl) (by kernel_rfl) (by kernel_rfl) (by kernel_rfl) (fun _ _ _ h => h) (Or.inl ⟨by rfl, ?_⟩) (by assumption) ?_; rotate_left; (focus (intro w hSw; (skip); (first | (go_simp; done) | (go_simp; with_reducible rfl)))); (try simp only [Act.put, List.setIfInBounds_toArray, List.set_cons_zero, List.set_cons_succ])
    refine wpAnyF_take (i := 2) (v := ?_) rfl (by kernel_rfl) (by kernel_rfl) (by kernel_rfl) (by kernel_rfl) (fun _ _ _ h => h) (Or.inl ⟨by rfl, ?_⟩) (by assumption) ?_; rotate_left; (focus (intro w hSw; (skip); (first | (go_simp; done) | (go_simp; with_reducible rfl)))); (try simp only [Act.put, List.setIfInBounds_toArray, List.set_cons_zero, List.set_cons_succ])
    refine wpAnyF_take (i := 3) (v := ?_) rfl (by kernel_rfl) (by kernel_rfl) (by kernel_rfl) (by kernel_rfl) (fun _ _ _ h => h) (Or.inl ⟨by rfl, ?_⟩) (by assumption) ?_; rotate_left; (focus (intro w hSw; (skip); (first | (go_simp; done) | (go_simp; with_reducible rfl)))); (try simp only [Act.put, List.setIfInBounds_toArray, List.set_cons_zero, List.set_cons_succ])
    refine wpAnyF_take (i := 4) (v := ?_) rfl (by kernel_rfl) (by kernel_rfl) (by kernel_rfl) (by kernel_rfl) (fun _ _ _ h => h) (Or.inl ⟨by rfl, ?_⟩) (by assumption) ?_; rotate_left; (focus (intro w hSw; (obtain ⟨q0, q1, q2⟩ := hSw); (first | (go_simp; done) | (go_simp; with_reducible rfl)))); (try simp only [Act.put, List.setIfInBounds_toArray, List.set_cons_zero, List.set_cons_succ])
    refine wpAnyF_take (i := 5) (v := ?_) rfl (by kernel_rfl) (by kernel_rfl) (by kernel_rfl) (by kernel_rfl) (fun _ _ _ h => h) (Or.inl ⟨by rfl, ?_⟩) (by assumption) ?_; rotate_left; (focus (intro w hSw; (skip); (first | (go_simp; done) | (go_simp; with_reducible rfl)))); (try simp only [Act.put, List.setIfInBounds_toArray, List.set_cons_zero, List.set_cons_succ])
    refine wpAnyF_take (i := 6) (v := ?_) rfl (by kernel_rfl) (by kernel_rfl) (by kernel_rfl) (by kernel_rfl) (fun _ _ _ h => h) (Or.inl ⟨by rfl, ?_⟩) (by assumption) ?_; rotate_left; (focus (intro w hSw; (skip); (first | (go_simp; done) | (go_simp; with_reducible rfl)))); (try simp only [Act.put, List.setIfInBounds_toArray, List.set_cons_zero, List.set_cons_succ])
    refine wpAnyF_take (i := 7) (v := ?_) rfl (by kernel_rfl) (by kernel_rfl) (by kernel_rfl) (by kernel_rfl) (fun _ _ _ h => h) (Or.inl ⟨by rfl, ?_⟩) (by assumption) ?_; rotate_left; (focus (intro w hSw; (obtain ⟨q0, q1, q2⟩ := hSw); (first | (go_simp; done) | (go_simp; with_reducible rfl)))); (try simp only [Act.put, List.setIfInBounds_toArray, List.set_cons_zero, List.set_cons_succ])
    refine wpAnyF_take (i := 8) (v := ?_) rfl (by kernel_rfl) (by kernel_rfl) (by kernel_rfl) (by kernel_rfl) (fun _ _ _ h => h) (Or.inl ⟨by rfl, ?_⟩) (by assumption) ?_; rotate_left; (focus (intro w hSw; (skip); (first | (go_simp; done) | (go_simp; with_reducible rfl)))); (try simp only [Act.put, List.setIfInBounds_toArray, List.set_cons_zero, List.set_cons_succ])
    refine wpAnyF_take (i := 9) (v := ?_) rfl (by kernel_rfl) (by kernel_rfl) (by kernel_rfl) (by kernel_rfl) (fun _ _ _ h => h) (Or.inl ⟨by rfl, ?_⟩) (by assumption) ?_; rotate_left; (focus (intro w hSw; (skip); (first | (go_simp; done) | (go_simp; with_reducible rfl)))); (try simp only [Act.put, List.setIfInBounds_toArray, List.set_cons_zero, List.set_cons_succ])
    refine wpAnyF_take (i := 10) (v := ?_) rfl (by kernel_rfl) (by kernel_rfl) (by kernel_rfl) (by kernel_rfl) (fun _ _ _ h => h) (Or.inl ⟨by rfl, ?_⟩) (by assumption) ?_; rotate_left; (focus (intro w hSw; (skip); (first | (go_simp; done) | (go_simp; with_reducible rfl)))); (try simp only [Act.put, List.setIfInBounds_toArray, List.set_cons_zero, List.set_cons_succ])
    refine wpAnyF_take (i := 11) (v := ?_) rfl (by kernel_rfl) (by kernel_rfl) (by kernel_rfl) (by kernel_rfl) (fun _ _ _ h => h) (Or.inl ⟨by rfl, ?_⟩) (by assumption) ?_; rotate_left; (focus (intro w hSw; (obtain ⟨q0, q1, q2⟩ := hSw); (first | (go_simp; done) | (go_simp; with_reducible rfl)))); (try simp only [Act.put, List.setIfInBounds_toArray, List.set_cons_zero, List.set_cons_succ])
    refine wpAnyF_take (i := 12) (v := ?_) rfl (by kernel_rfl) (by kernel_rfl) (by kernel_rfl) (by kernel_rfl) (fun _ _ _ h => h) (Or.inl ⟨by rfl, ?_⟩) (by assumption) ?_; rotate_left; (focus (intro w hSw; (skip); (first | (go_simp; done) | (go_simp; with_reducible rfl)))); (try simp only [Act.put, List.setIfInBounds_toArray, List.set_cons_zero, List.set_cons_succ])
    refine wpAnyF_take (i := 13) (v := ?_) rfl (by kernel_rfl) (by kernel_rfl) (by kernel_rfl) (by kernel_rfl) (fun _ _ _ h => h) (Or.inl ⟨by rfl, ?_⟩) (by assumption) ?_; rotate_left; (focus (intro w hSw; (skip); (first | (go_simp; done) | (go_simp; with_reducible rfl)))); (try simp only [Act.put, List.setIfInBounds_toArray, List.set_cons_zero, List.set_cons_succ])
    refine wpAnyF_take (i := 14) (v := ?_) rfl (by kernel_rfl) (by kernel_rfl) (by kernel_rfl) (by kernel_rfl) (fun _ _ _ h => h) (Or.inl ⟨by rfl, ?_⟩) (by assumption) ?_; rotate_left; (focus (intro w hSw; (obtain ⟨q0, q1, q2⟩ := hSw); (first | (go_simp; done) | (go_simp; with_reducible rfl)))); (try simp only [Act.put, List.setIfInBounds_toArray, List.set_cons_zero, List.set_cons_succ])
    refine wpAnyF_take (i := 15) (v := ?_) rfl (by kernel_rfl) (by kernel_rfl) (by kernel_rfl) (by kernel_rfl) (fun _ _ _ h => h) (Or.inl ⟨by rfl, ?_⟩) (by assumption) ?_; rotate_left; (focus (intro w hSw; (skip); (first | (go_simp; done) | (go_simp; with_reducible rfl)))); (try simp only [Act.put, List.setIfInBounds_toArray, List.set_cons_zero, List.set_cons_succ])
    refine wpAnyF_take (i := 16) (v := ?_) rfl (by kernel_rfl) (by kernel_rfl) (by kernel_rfl) (by kernel_rfl) (fun _ _ _ h => h) (Or.inl ⟨by rfl, ?_⟩) (by assumption) ?_; rotate_left; (focus (intro w hSw; (skip); (first | (go_simp; done) | (go_simp; with_reducible rfl)))); (try simp only [Act.put, List.setIfInBounds_toArray, List.set_cons_zero, List.set_cons_succ])
    refine wpAnyF_take (i := 17) (v := ?_) rfl (by kernel_rfl) (by kernel_rfl) (by kernel_rfl) (by kernel_rfl) (fun _ _ _ h => h) (Or.inl ⟨by rfl, ?_⟩) (by assumption) ?_; rotate_left; (focus (intro w hSw; (skip); (first | (go_simp; done) | (go_simp; with_reducible rfl)))); (try simp only [Act.put, List.setIfInBounds_toArray, List.set_cons_zero, List.set_cons_succ])
    refine wpAnyF_ready (rs := [18]) (by kernel_rfl) (by simp) ?_
    refine AllF.cons rfl (fun K hK => ?_) AllF.nil
    go_simp
    refine (HPUT.out _ QL).mono ?_
    rintro e w3 ⟨fa, fn, fc, rfl, hfr, l3, hfs⟩
    have HFS := Lib.hid (show Fr w (.slice fa fn fc) from fun k hk => Nat.le_trans QL.size (hfs k hk))
    clear hfs
    have LB3 := btrans QL (Nat.le_refl _) l3
    dsimp only
    refine hK.out _ _ (fun _ => KW.out _ LB3) ?_; clear hK K; (try simp only [Act.put, List.setIfInBounds_toArray, List.set_cons_zero, List.set_cons_succ])
    refine wpAnyF_ready (rs := [19]) (by kernel_rfl) (by simp) ?_
    refine AllF.cons rfl (fun K hK => ?_) AllF.nil
    go_simp
    refine (push_any w3 oq fa fn fc).mono ?_
    rintro e w4 ⟨rfl, hw4⟩
    have LB4 : Below w.heap.size w w4 := by rw [hw4]; exact btrans LB3 (Nat.le_refl _) ((Below.refl w3.heap.size w3).alloc (Nat.le_refl _) _)
    have hnw : w4.heap[w3.heap.size]? = some (.cells #[.slice fa fn fc, .pointer oq] 122 (0, 0)) := by rw [hw4]; exact blk_new _ _
    have hf4 : FrAt w4 (.slice fa fn fc) (putF x.2 t v) := by rw [hw4]; exact frAt_below hfr ((Below.refl w3.heap.size w3).alloc (Nat.le_refl _) _)
    clear hw4
    dsimp only
    refine hK.out _ _ (fun _ => KW.out _ LB4) ?_; clear hK K; (try simp only [Act.put, List.setIfInBounds_toArray, List.set_cons_zero, List.set_cons_succ])
    refine wpAnyF_ready (rs := [20]) (by kernel_rfl) (by simp) ?_
    refine AllF.cons rfl (fun K hK => ?_) AllF.nil
    go_simp
    refine hK.out _ _ (fun _ => KW.out _ LB4) ?_; clear hK K; (try simp only [Act.put, List.setIfInBounds_toArray, List.set_cons_zero, List.set_cons_succ])
    refine wpAnyF_ready (rs := [21]) (by kernel_rfl) (by simp) ?_
    refine AllF.cons rfl (fun K hK => ?_) AllF.nil
    go_simp
    refine hK.out _ _ (fun _ => KW.out _ LB4) ?_; clear hK K; (try simp only [Act.put, List.setIfInBounds_toArray, List.set_cons_zero, List.set_cons_succ])
    refine wpAnyF_ready (rs := [22]) (by kernel_rfl) (by simp) ?_
    refine AllF.cons rfl (fun K hK => ?_) AllF.nil
    have hcell := (KW.out _ LB4).1
    have hfrz := KF.out _ LB4
    go_simp
    refine hK.out _ _ (fun h => absurd rfl h) ?_; clear hK K; (try simp only [Act.put, List.setIfInBounds_toArray, List.set_cons_zero, List.set_cons_succ]); refine wpAnyF_done (by kernel_rfl) ?_ _
    have hb4 := bblk LB4 HB.out
    have hA := blk_set hb4 0 (ptr w3.heap.size)
    have hS4 : StackAt w4 (ptr w3.heap.size) ((.slice fa fn fc, putF x.2 t v) :: r) := ⟨w3.heap.size, .pointer oq, rfl, hnw, hf4, by show (putF x.2 t v).length ≤ 1000; omega, HRR.out.below LB4⟩
    have hS5 := StackAt.set (i := 0) (v := ptr w3.heap.size) hb4 hS4
    have hlt : b < w.heap.size := blk_lt HB.out
    have HFIN := Lib.hid (show LogAt (w4.setCell ⟨b, 0, none⟩ (ptr w3.heap.size)) b ((.slice fa fn fc, putF x.2 t v) :: r) from ⟨some ⟨w3.heap.size, 0, none⟩, by rw [hA]; simp, hS5, by simp, by rw [List.length_cons] at hx5 ⊢; omega⟩)
    have HO := Lib.hid (show Only (fun k => k = b) w (w4.setCell ⟨b, 0, none⟩ (ptr w3.heap.size)) from (Only.of_below (S := fun k => k = b) LB4 (fun k hk h => by omega)).setCell (p := ⟨b, 0, none⟩) (.inr rfl) _)
    clear hA hS4 hS5 hb4 hcell hfrz hf4 hnw hfr
    go_wp2_with fail
    go_ret
    exact ⟨rfl, HO.out, _, HFIN.out, HFS.out⟩
end Go.Proofs.Ytganmdbhmihjpaa.Wri
/- live; a nil log. -/
namespace Go.Proofs.Ytganmdbhmihjpaa.Wri
open Go.RowKit
set_option linter.unusedSimpArgs false
set_option linter.unusedVariables false
set_option maxRecDepth 50000

theorem lput_any (w : World) (b : Nat) (xs : Frs) (h : LogAt w b xs) (hx9 : ∀ x ∈ xs, x.2.length ≤ 900) (t v : Int) (hv : 0 ≤ v ∧ v < 18446744073709551616) : Calls Try.prog 69 #[ptr b, .int .i64 t, .int .u64 v] w (PutPost w b xs t v) := by
  have hblt : b < w.heap.size := by obtain ⟨o, hb, _⟩ := h; exact blk_lt hb
  by_cases ht : okT t
  · cases hr : rightVal v
    · have hE : putE xs t v = 3 := by unfold putE; rw [if_neg (by simpa using ht), if_pos hr]
      refine (put_form w b t v ht hv hr).mono ?_
      rintro e w' ⟨rfl, rfl⟩
      exact ⟨by rw [hE], Only.refl _ _, fun _ => h, fun h0 => by rw [hE] at h0; cases h0⟩
    · cases xs with
      | nil => obtain ⟨_, _, _, h1, _⟩ := h; simp at h1
      | cons x r =>
        have hE : putE (x :: r) t v = if getF x.2 t = none ∧ 16 ≤ lenAll (x :: r) then 4 else 0 := by unfold putE; rw [if_neg (by simpa using ht), if_neg (by rw [hr]; decide)]
        by_cases hs : getF x.2 t = none ∧ 16 ≤ lenAll (x :: r)
        · rw [if_pos hs] at hE
          refine (put_space w b x r t v h ht hv hr hs.1 hs.2).mono ?_
          rintro e w' ⟨rfl, hl⟩
          exact ⟨by rw [hE], Only.of_below hl (fun k hk h => by omega), fun _ => h.below hl, fun h0 => by rw [hE] at h0; cases h0⟩
        · rw [if_neg hs] at hE
          refine (put_done w b x r t v h (hx9 x (by simp)) ht hv hr hs).mono ?_
          rintro e w' ⟨rfl, ho, u, hL⟩
          refine ⟨by rw [hE], ho, fun h0 => absurd hE h0, fun _ y s hy => ?_⟩
          injection hy with h1 h2
          subst h1 h2
          exact ⟨u, hL⟩
  · have hE : putE xs t v = 2 := by unfold putE; rw [if_pos ht]
    refine (put_range w b t v ht).mono ?_
    rintro e w' ⟨rfl, rfl⟩
    exact ⟨by rw [hE], Only.refl _ _, fun _ => h, fun h0 => by rw [hE] at h0; cases h0⟩
theorem lput_to (w : World) (b : Nat) (x : Value × Frm) (r : Frs) (h : LogAt w b (x :: r)) (hx9 : ∀ y ∈ x :: r, y.2.length ≤ 900) (t v : Int) (hv : 0 ≤ v ∧ v < 18446744073709551616) (f : Frm) (hE : putE (x :: r) t v = 0) (hf : putF x.2 t v = f) :
    Calls Try.prog 69 #[ptr b, .int .i64 t, .int .u64 v] w fun e w' => ∃ u, e = .returned (.int .i64 0) ∧ Only (fun k => k = b) w w' ∧ LogAt w' b ((u, f) :: r) := by
  refine (lput_any w b _ h hx9 t v hv).mono ?_
  rintro e w' ⟨rfl, ho, _, hL⟩
  obtain ⟨u, hL, _⟩ := hL hE x r rfl
  exact ⟨u, by rw [hE], ho, hf ▸ hL⟩
theorem lo_only {B b : Nat} {w w1 w2 : World} (l : Below B w w1) (o : Only (fun k => k = b) w1 w2) (hb : B ≤ b) (hB : B ≤ w.heap.size) : Below B w w2 :=
  l.trans (o.below (Nat.le_trans hB l.size) fun k hk e => by omega)
theorem all_nil (w : World) : Calls Try.prog 59 #[.pointer none] w fun e w' => e = .returned (.slice none 0 0) ∧ Below w.heap.size w w' := by
  go_enter Try.func59, Try.ntmps59
  go_wp2_with fail
  go_loopw [3, 7] (fun s i wr => ∃ k : Nat, i = .int .i64 k ∧ s = .slice none 0 0 ∧ k ≤ 12 ∧ Below w.heap.size w wr) (fun _ i _ => 12 - (intOf i).toNat)
  case atStart => exact ⟨0, rfl, rfl, by decide, Below.refl _ _⟩
  case round =>
    obtain ⟨k, rfl, rfl, hk, hB⟩ := hrel
    have HB := Lib.hid hB; clear hB
    by_cases hlt : k < 12
    · go_wp2_with fail
      refine (lget_nil wr k).mono ?_
      rintro e w1 ⟨rfl, l1⟩
      have HL := Lib.hid (btrans HB.out (Nat.le_refl _) l1); clear l1
      go_wp2_with fail
      exact ⟨⟨k + 1, by go_num, rfl, by omega, HL.out⟩, by simp [intOf]; omega⟩
    · go_wp2_with fail
      go_ret
      exact ⟨rfl, HB.out⟩
end Go.Proofs.Ytganmdbhmihjpaa.Wri
/- Merge, All, Fork of a log. -/
namespace Go.Proofs.Ytganmdbhmihjpaa.Wri
open Go.RowKit
set_option linter.unusedSimpArgs false
set_option linter.unusedVariables false
set_option maxRecDepth 50000

/-- a frame over another one -/
def mergeF (y x : Frm) : Frm := x.foldl (fun a p => putF a p.1 p.2) y
theorem mergeF_take (y x : Frm) (k : Nat) (p : Int × Int) (h : x[k]? = some p) : mergeF y (x.take (k + 1)) = putF (mergeF y (x.take k)) p.1 p.2 := by
  unfold mergeF
  rw [List.take_add_one, h]
  simp [List.foldl_append]
theorem mergeF_len (x : Frm) : ∀ y, (mergeF y x).length ≤ y.length + x.length := by
  induction x with
  | nil => intro y; simp [mergeF]
  | cons p x ih =>
    intro y
    have h1 := ih (putF y p.1 p.2)
    have h2 := putF_len y p.1 p.2
    show (mergeF (putF y p.1 p.2) x).length ≤ _
    rw [List.length_cons]
    omega
theorem frAt_any {w : World} {v : Value} {f : Frm} (h : FrAt w v f) : ∃ a c, v = .slice a f.length c ∧ (f ≠ [] → ∃ g, a = some ⟨g, 0, none⟩) := by
  rcases frAt_slice h with ⟨rfl, rfl⟩ | ⟨g, cap, rfl⟩
  · exact ⟨none, 0, rfl, fun h => absurd rfl h⟩
  · exact ⟨_, _, rfl, fun _ => ⟨g, rfl⟩⟩
def MergePost (w : World) (b : Nat) (xs : Frs) (e : Ending) (w' : World) : Prop :=
  if xs.length ≤ 1 then e = .returned (.int .i64 8) ∧ w = w'
  else ∃ x y r u, xs = x :: y :: r ∧ e = .returned (.int .i64 0) ∧ Only (fun k => k = b) w w' ∧ LogAt w' b ((u, mergeF y.2 x.2) :: r) ∧ (Fr w u ∨ u = y.1)
set_option maxHeartbeats 1600000 in
theorem merge_any (w : World) (b : Nat) (xs : Frs) (h : LogAt w b xs) (hx4 : ∀ x ∈ xs, x.2.length ≤ 400) : Calls Try.prog 72 #[ptr b] w (MergePost w b xs) := by
  have hP := pop_any w b xs h
  have hblt : b < w.heap.size := by obtain ⟨o, hb, _⟩ := h; exact blk_lt hb
  unfold PopPost at hP
  unfold MergePost
  by_cases h1 : xs.length ≤ 1
  · simp only [if_pos h1] at hP ⊢
    have HP := Lib.hid hP
    clear hP h h1
    go_enter Try.func72, Try.ntmps72
    go_wp2_with fail; refine (HP.out).mono ?_; rintro e w0 ⟨rfl, rfl⟩
    go_wp2_with fail
    go_ret
    exact ⟨rfl, rfl⟩
  · simp only [if_neg h1] at hP ⊢
    have HP := Lib.hid hP
    clear hP h
    go_enter Try.func72, Try.ntmps72
    go_wp2_with fail
    refine HP.out.mono ?_
    rintro e w1 ⟨x, r0, rfl, rfl, ho, hL, hfx⟩
    cases r0 with
    | nil => simp at h1
    | cons y r =>
    have hxl := hx4 x (by simp)
    have hyl := hx4 y (by simp)
    obtain ⟨xv, xf⟩ := x
    obtain ⟨yv, yf⟩ := y
    simp only at hfx hxl hyl
    obtain ⟨xa, xc, rfl, hxg⟩ := frAt_any hfx
    obtain ⟨o, hb, ⟨nb, q, e0, hnn, hfy, hfl, hrr⟩, hl1, hl5⟩ := hL
    obtain ⟨oq, rfl⟩ := hrr.isPtr
    injection e0 with e0
    subst e0
    simp only at hnn hfy
    have b0 := blk_cell hb 0
    have n0 := blk_cell hnn 0; have n1 := blk_cell hnn 1
    simp only [List.getElem?_toArray, List.getElem?_cons_zero, List.getElem?_cons_succ] at b0 n0 n1
    obtain ⟨n, hn⟩ : ∃ n, xf.length = n := ⟨_, rfl⟩
    have HN := Lib.hid hn
    rw [hn] at hxl
    have HFX := Lib.hid hfx; have HFY := Lib.hid hfy; have HB := Lib.hid hb; have HNN := Lib.hid hnn; have HRR := Lib.hid hrr; have HO := Lib.hid ho; have HXG := Lib.hid hxg
    have hb1 := blk_lt hb
    have hwr := ho.size
    rw [hn]
    clear hfx hfy hb hnn hrr ho hxg HP hn h1 hx4
    go_wp2_with fail
    go_loopw [5, 25] (fun s i wr => ∃ k : Nat, i = .int .i64 k ∧ k ≤ n ∧ FrAt wr s (mergeF yf (xf.take k)) ∧ Below w1.heap.size w1 wr ∧ (Fr w s ∨ s = yv)) (fun _ i _ => n - (intOf i).toNat)
    case atStart => exact ⟨0, rfl, Nat.zero_le _, by simpa [mergeF] using HFY.out, Below.refl _ _, .inr rfl⟩
    case round =>
      obtain ⟨k, rfl, hk, hS, hB, hFr⟩ := hrel
      have HFR := Lib.hid hFr
      clear hFr
      have HB1 := Lib.hid hB; have HS := Lib.hid hS
      by_cases hlt : k < n
      · obtain ⟨p, hp⟩ : ∃ p, xf[k]? = some p := ⟨xf[k]'(by rw [HN.out]; exact hlt), List.getElem?_eq_getElem _⟩
        obtain ⟨g, rfl⟩ := HXG.out (by rintro rfl; have := HN.out; simp at this; omega)
        obtain ⟨c0, c1⟩ := frAt_cell HFX.out hp
        replace c0 := bkeep hB c0; replace c1 := bkeep hB c1
        obtain ⟨pt, pv⟩ := p
        simp only at c0 c1
        have hmt := mergeF_take yf xf k _ hp
        have hml := mergeF_len (xf.take k) yf
        rw [List.length_take] at hml
        have lb : Below wr.heap.size wr (wr.alloc (.cells #[.int .i64 pt, .int .u64 pv] 102)) := by repeat (first | (with_reducible exact Below.refl _ _) | (with_reducible apply Below.drew) | (with_reducible refine below_drewN ?_ _) | (with_reducible refine below_alloc' ?_ ?_ _; (focus ((try simp) <;> omega))) | (with_reducible refine below_set' ?_ ?_ _; (focus ((try simp) <;> omega))))
        have hput := put_any _ _ _ (frAt_below hS lb) (by omega) pt pv
        rw [← hmt] at hput
        have HPUT := Lib.hid hput
        have HL := Lib.hid (btrans hB (Nat.le_refl _) lb)
        clear hp lb hput hmt hB hS HS HB1
        go_wp2_with fail
        refine HPUT.out.mono ?_
        rintro e w2 ⟨fa, fn, fc, rfl, hF2, l2, hfs⟩
        have HFS := Lib.hid (show Fr w (.slice fa fn fc) from fun k hk => Nat.le_trans (Nat.le_trans hwr HL.out.size) (hfs k hk))
        clear hfs
        have HF2 := Lib.hid hF2
        have HL2 := Lib.hid (btrans HL.out (Nat.le_refl _) l2)
        clear hF2 l2 HPUT HL
        go_wp2_with fail
        exact ⟨⟨k + 1, by go_num, by omega, HF2.out, HL2.out, .inl HFS.out⟩, by simp [intOf]; omega⟩
      · obtain rfl : k = n := by omega
        have hb2 := bblk hB HB.out
        have hnn2 := bblk hB HNN.out
        have hfr := blk_free hb2
        have b0 := blk_cell hb2 0
        have n1 := blk_cell hnn2 1
        simp only [List.getElem?_toArray, List.getElem?_cons_zero, List.getElem?_cons_succ] at b0 n1
        rw [List.take_of_length_le (by rw [HN.out]; exact Nat.le_refl _)] at hS
        obtain ⟨sa, sc, rfl, _⟩ := frAt_any hS
        have hml := mergeF_len xf yf
        rw [HN.out] at hml
        have HS := Lib.hid hS; have HB2 := Lib.hid hb2
        obtain ⟨z, hz⟩ : ∃ z, (mergeF yf xf).length = z := ⟨_, rfl⟩
        rw [hz] at hml ⊢
        have HZ := Lib.hid hz
        clear hS hb2 hnn2 hz
        go_wp2_with fail
        refine (push_any wr oq sa z sc).mono ?_
        rintro e w2 ⟨rfl, rfl⟩
        have lb : Below wr.heap.size wr (wr.alloc (.cells #[.slice sa z sc, .pointer oq] 122)) := by repeat (first | (with_reducible exact Below.refl _ _) | (with_reducible apply Below.drew) | (with_reducible refine below_drewN ?_ _) | (with_reducible refine below_alloc' ?_ ?_ _; (focus ((try simp) <;> omega))) | (with_reducible refine below_set' ?_ ?_ _; (focus ((try simp) <;> omega))))
        have hnew := blk_new wr (.cells #[.slice sa z sc, .pointer oq] 122)
        replace b0 := bkeep lb b0
        have hb3 := bblk lb HB2.out
        have hfr3 := blk_free hb3
        have LB := Lib.hid (btrans hB (Nat.le_refl _) lb)
        have HS3 := Lib.hid (frAt_below HS.out lb)
        have HB3 := Lib.hid hb3; have HNEW := Lib.hid hnew
        clear lb hnew hb3 hB HB1 HS
        generalize wr.alloc (.cells #[.slice sa z sc, .pointer oq] 122) = w3 at *
        go_wp2_with fail
        go_ret
        have hA := blk_set HB3.out 0 (ptr wr.heap.size)
        have hS4 : StackAt w3 (ptr wr.heap.size) ((.slice sa z sc, mergeF yf xf) :: r) := ⟨wr.heap.size, .pointer oq, rfl, HNEW.out, (show Value.slice sa (mergeF yf xf).length sc = .slice sa z sc by rw [HZ.out]) ▸ HS3.out, by show (mergeF yf xf).length ≤ 1000; have := HZ.out; omega, HRR.out.below LB.out⟩
        have hS5 := StackAt.set (i := 0) (v := ptr wr.heap.size) HB3.out hS4
        refine ⟨_, _, r, _, rfl, rfl, ?_, ⟨some ⟨wr.heap.size, 0, none⟩, ?_, hS5, by simp, by rw [List.length_cons] at hl5 ⊢; exact hl5⟩, (show Value.slice sa (mergeF yf xf).length sc = .slice sa z sc by rw [HZ.out]) ▸ HFR.out⟩
        · exact HO.out.after ((Only.of_below (S := fun k => k = b) LB.out (fun k hk h => by omega)).setCell (p := ⟨b, 0, none⟩) (.inr rfl) _) (fun i _ h => h)
        · rw [hA]; simp
/-! ### All -/
/-- what is written, of the first k variables -/
def allK (g : Int → Option Int) : Nat → Frm
  | 0 => []
  | k + 1 => allK g k ++ (match g k with | some v => [((k : Int), v)] | none => [])
theorem allK_len (g : Int → Option Int) (k : Nat) : (allK g k).length ≤ k := by
  induction k with
  | zero => simp [allK]
  | succ k ih => simp only [allK, List.length_append]; split <;> simp <;> omega
/-- a row of pairs in memory that was made since -/
abbrev PairsAt (B : Nat) (w : World) (v : Value) (f : Frm) : Prop := w.ownsRow B 102 2 v f.length (pairVals f)
def AllPost (w : World) (g : Int → Option Int) (e : Ending) (w' : World) : Prop :=
  ∃ v, e = .returned v ∧ PairsAt w.heap.size w' v (allK g 12) ∧ Below w.heap.size w w'
theorem pairs_grow {B : Nat} {w w' : World} {v : Value} {f : Frm} (h : PairsAt B w v f) (l : Below w.heap.size w w') : PairsAt B w' v f := ownsRow_only h (Only.empty l (Nat.le_refl _)) (fun _ _ h => h)
set_option maxHeartbeats 1600000 in
theorem all_any (w : World) (b : Nat) (xs : Frs) (h : LogAt w b xs) : Calls Try.prog 59 #[ptr b] w (AllPost w (getS xs)) := by
  obtain ⟨i0, hi, hz0, hz1, hz2⟩ := info_parts infoP
  have HL := Lib.hid h
  clear h
  unfold AllPost
  go_enter Try.func59, Try.ntmps59
  go_wp2_with fail
  go_loopw [3, 7] (fun s i wr => ∃ k : Nat, i = .int .i64 k ∧ PairsAt w.heap.size wr s (allK (getS xs) k) ∧ k ≤ 12 ∧ Below w.heap.size w wr) (fun _ i _ => 12 - (intOf i).toNat)
  case atStart => exact ⟨0, rfl, World.ownsRow_nil _ _ _ _, by decide, Below.refl _ _⟩
  case round =>
    obtain ⟨k, rfl, hR, hk, hB⟩ := hrel
    have HB := Lib.hid hB; have HR := Lib.hid hR
    clear hB hR
    by_cases hlt : k < 12
    · go_wp2_with fail
      refine (lget_any wr b xs (HL.out.below HB.out) k).mono ?_
      rintro e w1 ⟨rfl, l1⟩
      have HB1 := Lib.hid (btrans HB.out (Nat.le_refl _) l1)
      have HR1 := Lib.hid (pairs_grow HR.out l1)
      clear l1 HB HR
      cases hg : getS xs k with
      | none =>
        have hA : allK (getS xs) (k + 1) = allK (getS xs) k := by simp [allK, hg]
        have HA := Lib.hid hA
        clear hA hg
        simp only [Option.getD_none, Option.isSome_none]
        go_wp2_with fail
        exact ⟨⟨k + 1, by go_num, by rw [HA.out]; exact HR1.out, by omega, HB1.out⟩, by simp [intOf]; omega⟩
      | some v =>
        have hA : allK (getS xs) (k + 1) = allK (getS xs) k ++ [((k : Int), v)] := by simp [allK, hg]
        have HA := Lib.hid hA
        have hlen := allK_len (getS xs) k
        have hsz := HB1.out.size
        clear hA hg
        simp only [Option.getD_some, Option.isSome_some]
        go_wp2_with (at_builtin; refine wpList_append_own _ rfl _ _ 77 rfl w.heap.size 102 i0 (.agg #[.int .i64 0, .int .u64 0]) 2 16 Try.underlying77 hi hz0 hz1 hz2 rfl (by decide) _ _ (pairVals (allK (getS xs) k)) rfl (pairs_grow HR1.out ((Below.refl w1.heap.size w1).alloc (Nat.le_refl _) _)) ⟨w1.heap.size, 0, none⟩ 1 1 [.int .i64 k, .int .u64 v] rfl rfl ?c1 ?c2 ?c3 ?c4 ?c5 ?_)
        case c1 =>
          intro j v' hv
          rw [Addr.add_lit]
          have := blk_cell (blk_new w1 (.cells #[.int .i64 k, .int .u64 v] 102)) j
          rw [Nat.zero_add, this]
          simpa using hv
        case c2 => simp [Value.oneCell']
        case c3 => unfold maxLen; omega
        case c4 => omega
        case c5 => simp; omega
        intro v' w2 hown hgr _
        have hB2 : Below w.heap.size w w2 := (HB1.out.alloc hsz _).grown hgr (by simp; omega) (fun k hk => (HR1.out.lt k hk).1)
        have hP2 : PairsAt w.heap.size w2 v' (allK (getS xs) (k + 1)) := by
          unfold PairsAt
          rw [HA.out, pairVals_append, List.length_append]
          exact hown
        have HB2 := Lib.hid hB2; have HP2 := Lib.hid hP2
        clear hown hgr hB2 hP2
        go_wp2_with fail
        exact ⟨⟨k + 1, by go_num, HP2.out, by omega, HB2.out⟩, by simp [intOf]; omega⟩
    · obtain rfl : k = 12 := by omega
      go_wp2_with fail
      go_ret
      exact ⟨_, rfl, HR.out, HB.out⟩
/-! ### Fork -/
end Go.Proofs.Ytganmdbhmihjpaa.Wri
/- The other side: its frames in memory; New, Depth, set. -/
namespace Go.Proofs.Ytganmdbhmihjpaa.Wri
open Go.RowKit
set_option linter.unusedSimpArgs false
set_option linter.unusedVariables false
set_option maxRecDepth 50000

/-- a frame's cells on the other side: twelve times whether it has one, and twelve values -/
def rc (f : Frm) : List Value := (List.range 12).map (fun t : Nat => .bool (getF f t).isSome) ++ (List.range 12).map (fun t : Nat => .int .u64 ((getF f t).getD 0))
theorem rc_len (f : Frm) : (rc f).length = 24 := by simp [rc]
theorem rc_one (f : Frm) : ∀ u ∈ rc f, u.oneCell' = true := by
  intro u hu
  simp only [rc, List.mem_append, List.mem_map] at hu
  rcases hu with ⟨t, _, rfl⟩ | ⟨t, _, rfl⟩ <;> rfl
theorem rc_has (f : Frm) (t : Nat) (h : t < 12) : (rc f)[t]? = some (.bool (getF f t).isSome) := by
  unfold rc
  rw [List.getElem?_append_left (by simpa using h)]
  simp [h]
theorem rc_val (f : Frm) (t : Nat) (h : t < 12) : (rc f)[12 + t]? = some (.int .u64 ((getF f t).getD 0)) := by
  unfold rc
  rw [List.getElem?_append_right (by simp)]
  simp [h]
theorem rc_put (f : Frm) (t : Nat) (v : Int) (h : t < 12) : ((rc f).set t (.bool true)).set (12 + t) (.int .u64 v) = rc (putF f t v) := by
  apply List.ext_getElem?
  intro j
  by_cases hj : j < 12
  · rw [List.getElem?_set_ne (by omega), rc_has _ _ hj]
    by_cases hjt : j = t
    · subst hjt
      rw [List.getElem?_set_self (by rw [rc_len]; omega), getF_put]
      simp
    · rw [List.getElem?_set_ne (by omega), rc_has _ _ hj, getF_put]
      have : ¬ ((j : Int) = t) := by omega
      simp [this]
  · by_cases hj2 : j < 24
    · obtain ⟨s, rfl⟩ : ∃ s, j = 12 + s := ⟨j - 12, by omega⟩
      have hs : s < 12 := by omega
      rw [rc_val _ _ hs]
      by_cases hjt : s = t
      · subst hjt
        rw [List.getElem?_set_self (by rw [List.length_set, rc_len]; omega), getF_put]
        simp
      · rw [List.getElem?_set_ne (by omega), List.getElem?_set_ne (by omega), rc_val _ _ hs, getF_put]
        have : ¬ ((s : Int) = t) := by omega
        simp [this]
    · rw [List.getElem?_eq_none (by rw [List.length_set, List.length_set, rc_len]; omega), List.getElem?_eq_none (by rw [rc_len]; omega)]
/-- the frames' cells, the first frame first -/
def rowV (gs : List Frm) : List Value := gs.flatMap rc
theorem rowV_len (gs : List Frm) : (rowV gs).length = gs.length * 24 := by
  induction gs with
  | nil => rfl
  | cons f gs ih => rw [rowV, List.flatMap_cons, List.length_append, rc_len, ← rowV, ih, List.length_cons]; omega
theorem rowV_one (gs : List Frm) : ∀ u ∈ rowV gs, u.oneCell' = true := by
  intro u hu
  simp only [rowV, List.mem_flatMap] at hu
  obtain ⟨f, _, hu⟩ := hu
  exact rc_one f u hu
theorem rowV_get (gs : List Frm) : ∀ (i r : Nat), r < 24 → (rowV gs)[i * 24 + r]? = (gs[i]?).bind fun f => (rc f)[r]? := by
  induction gs with
  | nil => intro i r _; simp [rowV]
  | cons f gs ih =>
    intro i r hr
    rw [rowV, List.flatMap_cons, ← rowV]
    cases i with
    | zero => rw [Nat.zero_mul, Nat.zero_add, List.getElem?_append_left (by rw [rc_len]; exact hr)]; rfl
    | succ i =>
      rw [List.getElem?_append_right (by rw [rc_len]; omega), rc_len, show (i + 1) * 24 + r - 24 = i * 24 + r by omega, ih i r hr]
      rfl
theorem rowV_append (gs hs : List Frm) : rowV (gs ++ hs) = rowV gs ++ rowV hs := by simp [rowV]
/-- cells set one by one -/
def setL : List Value → Nat → List Value → List Value
  | xs, _, [] => xs
  | xs, o, v :: r => setL (xs.set o v) (o + 1) r
theorem setL_get : ∀ (vs xs : List Value) (o : Nat), o + vs.length ≤ xs.length → ∀ j, (setL xs o vs)[j]? = if o ≤ j ∧ j < o + vs.length then vs[j - o]? else xs[j]?
  | [], xs, o, _, j => by simp [setL]; omega
  | v :: r, xs, o, h, j => by
    rw [List.length_cons] at h
    rw [setL, setL_get r (xs.set o v) (o + 1) (by rw [List.length_set]; omega) j]
    by_cases h1 : o + 1 ≤ j ∧ j < o + 1 + r.length
    · rw [if_pos h1, if_pos (by rw [List.length_cons]; omega), show j - o = (j - (o + 1)) + 1 by omega, List.getElem?_cons_succ]
    · rw [if_neg h1]
      by_cases h2 : j = o
      · subst h2
        rw [if_pos (by rw [List.length_cons]; omega), List.getElem?_set_self (by omega), Nat.sub_self]; rfl
      · rw [if_neg (by rw [List.length_cons]; omega), List.getElem?_set_ne (by omega)]
theorem setL_row (gs : List Frm) (i : Nat) (f : Frm) (h : i < gs.length) : setL (rowV gs) (i * 24) (rc f) = rowV (gs.set i f) := by
  apply List.ext_getElem?
  intro j
  rw [setL_get _ _ _ (by rw [rc_len, rowV_len]; omega), rc_len]
  obtain ⟨k, r, hr, rfl⟩ : ∃ k r, r < 24 ∧ j = k * 24 + r := ⟨j / 24, j % 24, by omega, by omega⟩
  rw [rowV_get _ _ _ hr, rowV_get _ _ _ hr]
  by_cases hk : k = i
  · subst hk
    rw [if_pos (by omega), show k * 24 + r - k * 24 = r by omega, List.getElem?_set_self h]
    rfl
  · rw [if_neg (by omega), List.getElem?_set_ne (by omega)]
theorem row_setCells {base : Nat} {e : TypeId} {size g cap n : Nat} : ∀ (vs : List Value) (o : Nat) (w : World) (xs : List Value), w.ownsRow base e size (.slice (some ⟨g, 0, none⟩) n cap) n xs → o + vs.length ≤ n * size →
    (w.setCells g o vs).ownsRow base e size (.slice (some ⟨g, 0, none⟩) n cap) n (setL xs o vs)
  | [], o, w, xs, h, _ => h
  | v :: r, o, w, xs, h, hl => by
    rw [List.length_cons] at hl
    exact row_setCells r (o + 1) _ _ (row_set h (by omega)) (by omega)
theorem only_setCells {S : Nat → Prop} {g : Nat} {w : World} (hS : w.heap.size ≤ g ∨ S g) : ∀ (vs : List Value) (o : Nat) (w1 : World), Only S w w1 → Only S w (w1.setCells g o vs)
  | [], o, w1, h => h
  | v :: r, o, w1, h => only_setCells hS r (o + 1) _ (h.setCell (p := ⟨g, o, none⟩) hS v)
theorem zR : (Value.agg (rc []).toArray).cells.size = 24 := by kernel_rfl
theorem empty_row (w : World) (e : TypeId) (size base : Nat) (hb : base ≤ w.heap.size) : (w.alloc (.cells #[] e)).ownsRow base e size (.slice (some ⟨w.heap.size, 0, none⟩) 0 0) 0 [] :=
  ⟨by simp, .inr ⟨w.heap.size, 0, #[], rfl, hb, blk_new _ _, Nat.le_refl _, by decide, by simp, by simp⟩⟩
end Go.Proofs.Ytganmdbhmihjpaa.Wri
/- The other side: Push, Fork, Get, All, Len. -/
namespace Go.Proofs.Ytganmdbhmihjpaa.Wri
open Go.RowKit
set_option linter.unusedSimpArgs false
set_option linter.unusedVariables false
set_option maxRecDepth 50000

/-! ### Get -/
/-- what was written last -/
def getL (fs : List Frm) (t : Int) : Option Int := fs.findSome? fun f => getF f t
theorem getL_hit {gs : List Frm} {j : Nat} {f : Frm} {t v : Int} (hj : gs[j]? = some f) (hv : getF f t = some v) (h : ∀ i f', j < i → gs[i]? = some f' → getF f' t = none) : getL gs.reverse t = some v := by
  induction gs generalizing j with
  | nil => simp at hj
  | cons x gs ih =>
    unfold getL
    rw [List.reverse_cons, List.findSome?_append]
    cases j with
    | zero =>
      have hn : gs.reverse.findSome? (fun f => getF f t) = none := by
        rw [List.findSome?_eq_none_iff]
        intro y hy
        obtain ⟨i, hi⟩ := List.mem_iff_getElem?.1 (List.mem_reverse.1 hy)
        exact h (i + 1) y (by omega) (by simpa using hi)
      rw [hn]
      simp at hj
      subst hj
      simp [hv]
    | succ j =>
      have := ih (j := j) (by simpa using hj) (fun i f' hi hf => h (i + 1) f' (by omega) (by simpa using hf))
      unfold getL at this
      rw [this]; rfl
theorem getL_none {gs : List Frm} {t : Int} (h : ∀ (i : Nat) f', gs[i]? = some f' → getF f' t = none) : getL gs.reverse t = none := by
  unfold getL
  rw [List.findSome?_eq_none_iff]
  intro y hy
  obtain ⟨i, hi⟩ := List.mem_iff_getElem?.1 (List.mem_reverse.1 hy)
  exact h i y hi
/-! ### All, Len -/
theorem allK_congr {g g' : Int → Option Int} {n : Nat} (h : ∀ k : Nat, k < n → g k = g' k) : allK g n = allK g' n := by
  induction n with
  | zero => rfl
  | succ n ih => rw [allK, allK, ih (fun k hk => h k (by omega)), h n (by omega)]
/-- how many of the first k variables a frame has -/
def cntK (f : Frm) : Nat → Nat
  | 0 => 0
  | k + 1 => cntK f k + if (getF f k).isSome then 1 else 0
theorem cntK_le (f : Frm) (k : Nat) : cntK f k ≤ k := by
  induction k with
  | zero => exact Nat.le_refl _
  | succ k ih => unfold cntK; split <;> omega
def cntG (gs : List Frm) : Nat := (gs.map fun f => cntK f 12).sum
theorem cntG_le (gs : List Frm) : cntG gs ≤ 12 * gs.length := by
  induction gs with
  | nil => exact Nat.le_refl _
  | cons f gs ih =>
    have := cntK_le f 12
    show cntK f 12 + cntG gs ≤ _
    rw [List.length_cons]; omega
theorem cntG_take (gs : List Frm) (k : Nat) (f : Frm) (h : gs[k]? = some f) : cntG (gs.take (k + 1)) = cntG (gs.take k) + cntK f 12 := by
  unfold cntG
  rw [List.take_add_one, h]
  simp
end Go.Proofs.Ytganmdbhmihjpaa.Wri
/- The other side: Drop. -/
namespace Go.Proofs.Ytganmdbhmihjpaa.Wri
open Go.RowKit
set_option linter.unusedSimpArgs false
set_option linter.unusedVariables false
set_option maxRecDepth 50000

theorem rowV_take (gs : List Frm) (m : Nat) : rowV (gs.take m) = (rowV gs).take (m * 24) := by
  induction gs generalizing m with
  | nil => simp [rowV]
  | cons f gs ih =>
    cases m with
    | zero => simp [rowV]
    | succ m =>
      have e : rowV (f :: gs) = rc f ++ rowV gs := rfl
      have e2 : rowV (f :: gs.take m) = rc f ++ rowV (gs.take m) := rfl
      rw [List.take_succ_cons, e, e2, ih, List.take_append, rc_len, List.take_of_length_le (l := rc f) (by rw [rc_len]; omega), show (m + 1) * 24 - 24 = m * 24 by omega]
end Go.Proofs.Ytganmdbhmihjpaa.Wri
/- The other side: Put. -/
namespace Go.Proofs.Ytganmdbhmihjpaa.Wri
open Go.RowKit
set_option linter.unusedSimpArgs false
set_option linter.unusedVariables false
set_option maxRecDepth 50000

theorem still_load_mid {P : Program} {ops : Array Oper} {op : Oper} {rest : List Oper} {a : Act} {w : World} {Q : Act → Prop} (hg : op.guard = none) (ty : TypeId) (x : Operand) (ho : op.op = .load ty x)
    (b o : Nat) (hx : a.eval x = .pointer (some ⟨b, o, none⟩)) (cs : List Value) (d : TypeDesc) (hc : w.rangeAt b o cs)
    (hu : P.underlying ty = some d) (hd : d.isRow = true) (hi : (P.info? ty).map (·.size) = some cs.length) (h : wpStill P ops w Q rest (a.put op.dst (.agg cs.toArray))) : wpStill P ops w Q (op :: rest) a :=
  wpStill_step fun K hK => by
    rw [if_pos (show Region.wanted op _ = true by simp [Region.wanted, hg])]
    unfold Oper.still execOp
    simp only [ho, hx, Instr.loadAt, Instr.sureAddr, Sem.run_bind, Sem.run_pure, Result.andThen_ok, run_loadVar_mid w b o ty cs d hc hu hd hi]
    rw [Oper.stillUpon_value]
    exact hK _ h
theorem range_blk {w : World} {b : Nat} {cs : List Value} {A : Array Value} {t : TypeId} {fr : Nat × Nat} (h : w.heap[b]? = some (.cells A t fr)) (hA : A.toList = cs) : w.rangeAt b 0 cs := by
  intro j v hv
  rw [Nat.zero_add, blk_cell h j, ← hv, ← hA]
  simp
def putG (gs : List Frm) (f : Frm) (t v : Int) : Int := if ¬ okT t then 2 else if rightVal v = false then 3 else if getF f t = none ∧ 16 ≤ cntG gs then 4 else 0
end Go.Proofs.Ytganmdbhmihjpaa.Wri
/- The other side: Merge. -/
namespace Go.Proofs.Ytganmdbhmihjpaa.Wri
open Go.RowKit
set_option linter.unusedSimpArgs false
set_option linter.unusedVariables false
set_option maxRecDepth 50000

/-- the values of f over those of e, of the first k variables -/
def mrgK (e f : Frm) : Nat → Frm
  | 0 => e
  | k + 1 => match getF f k with | some v => putF (mrgK e f k) k v | none => mrgK e f k
theorem rc_congr {f g : Frm} (h : ∀ k : Nat, k < 12 → getF f k = getF g k) : rc f = rc g := by
  unfold rc
  congr 1 <;> refine List.map_congr_left fun t ht => ?_ <;> rw [h t (List.mem_range.1 ht)]
theorem getF_mrgK (e f : Frm) (k : Nat) (t : Nat) : getF (mrgK e f k) t = if t < k then (getF f t).or (getF e t) else getF e t := by
  induction k with
  | zero => simp [mrgK]
  | succ k ih =>
    unfold mrgK
    by_cases htk : t = k
    · subst htk
      rw [if_pos (Nat.lt_succ_self _)]
      cases hg : getF f t with
      | none => simp only [hg]; rw [ih, if_neg (Nat.lt_irrefl _)]; rfl
      | some v => simp only [hg]; rw [getF_put, if_pos rfl]; rfl
    · have hlt : (t < k + 1) = (t < k) := by simp; omega
      simp only [hlt]
      rw [← ih]
      cases hg : getF f k with
      | none => rfl
      | some v => simp only; rw [getF_put, if_neg (by omega)]
theorem below_setRow {B g : Nat} {w w1 : World} {A : Array Value} (h : Below B w w1) (hg : B ≤ g) : Below B w (w1.setRow g A) :=
  ⟨h.os, h.tape, h.output, by simpa using h.size, fun k hk => (setRow_other w1 g k A (by omega)).trans (h.block k hk)⟩
theorem two_last (gs : List Frm) (h : ¬ gs.length ≤ 1) : ∃ ys g f, gs = ys ++ [g, f] := by
  obtain ⟨f, hf⟩ : ∃ f, gs.getLast? = some f := by
    cases hg : gs.getLast? with
    | none => rw [List.getLast?_eq_none_iff] at hg; subst hg; simp at h
    | some f => exact ⟨f, rfl⟩
  obtain ⟨zs, rfl⟩ := List.getLast?_eq_some_iff.1 hf
  obtain ⟨g, hg⟩ : ∃ g, zs.getLast? = some g := by
    cases hg : zs.getLast? with
    | none => rw [List.getLast?_eq_none_iff] at hg; subst hg; simp at h
    | some f => exact ⟨f, rfl⟩
  obtain ⟨ys, rfl⟩ := List.getLast?_eq_some_iff.1 hg
  exact ⟨ys, g, f, by simp⟩
end Go.Proofs.Ytganmdbhmihjpaa.Wri
/- Plain laws on frames; both logs at once. -/
namespace Go.Proofs.Ytganmdbhmihjpaa.Wri
open Go.RowKit
set_option linter.unusedSimpArgs false
set_option linter.unusedVariables false
set_option maxRecDepth 50000

/-- each variable once, and each one that may be -/
def GoodF (f : Frm) : Prop := (f.map (·.1)).Nodup ∧ ∀ p ∈ f, 0 ≤ p.1 ∧ p.1 < 12
def lenF (fs : List Frm) : Nat := (fs.map List.length).sum
structure WellS (fs : List Frm) : Prop where
  good : ∀ f ∈ fs, GoodF f
  len : lenF fs ≤ 16
theorem GoodF.nil : GoodF [] := ⟨List.nodup_nil, fun p h => by cases h⟩
theorem GoodF.tail {p : Int × Int} {f : Frm} (h : GoodF (p :: f)) : GoodF f := by
  have h1 := h.1
  rw [List.map_cons, List.nodup_cons] at h1
  exact ⟨h1.2, fun q hq => h.2 q (List.mem_cons_of_mem _ hq)⟩
theorem getF_cons (p : Int × Int) (f : Frm) (t : Int) : getF (p :: f) t = if p.1 = t then some p.2 else getF f t := by
  by_cases h : p.1 = t <;> simp [getF, h]
theorem getF_isNone (f : Frm) (t : Int) : getF f t = none ↔ t ∉ f.map (·.1) := by
  induction f with
  | nil => simp [getF]
  | cons p f ih =>
    rw [getF_cons, List.map_cons, List.mem_cons]
    by_cases h : p.1 = t
    · simp [h]
    · have h2 : ¬ t = p.1 := fun e => h e.symm
      rw [if_neg h, ih]
      simp [h2]
theorem keys_putF (f : Frm) (t v : Int) : (putF f t v).map (·.1) = if t ∈ f.map (·.1) then f.map (·.1) else f.map (·.1) ++ [t] := by
  induction f with
  | nil => simp [putF]
  | cons p f ih =>
    unfold putF
    by_cases h : p.1 = t
    · simp [h]
    · have h2 : ¬ t = p.1 := fun e => h e.symm
      rw [if_neg h, List.map_cons, ih, List.map_cons]
      by_cases hm : t ∈ f.map (·.1)
      · rw [if_pos hm, if_pos (List.mem_cons_of_mem _ hm)]
      · rw [if_neg hm, if_neg (by rw [List.mem_cons]; rintro (e | e); exact h2 e; exact hm e)]; rfl
theorem GoodF.put {f : Frm} (h : GoodF f) {t : Int} (ht : okT t) (v : Int) : GoodF (putF f t v) := by
  refine ⟨?_, ?_⟩
  · rw [keys_putF]
    split
    · exact h.1
    · rename_i hn
      rw [List.nodup_append]
      refine ⟨h.1, by simp, ?_⟩
      intro a ha b hb
      rw [List.mem_singleton] at hb
      subst hb
      rintro rfl
      exact hn ha
  · intro p hp
    have hm : p.1 ∈ (putF f t v).map (·.1) := List.mem_map_of_mem hp
    rw [keys_putF] at hm
    have hk : ∀ k ∈ f.map (·.1), 0 ≤ k ∧ k < 12 := by
      intro k hk
      obtain ⟨q, hq, rfl⟩ := List.mem_map.1 hk
      exact h.2 q hq
    split at hm
    · exact hk _ hm
    · rcases List.mem_append.1 hm with hm | hm
      · exact hk _ hm
      · rw [List.mem_singleton] at hm
        rw [hm]; exact ht
theorem putF_len_eq (f : Frm) (t v : Int) : (putF f t v).length = f.length + if getF f t = none then 1 else 0 := by
  have h := congrArg List.length (keys_putF f t v)
  rw [List.length_map] at h
  rw [h]
  by_cases hm : t ∈ f.map (·.1)
  · rw [if_pos hm, if_neg (by rw [getF_isNone]; exact fun h => h hm), List.length_map]; rfl
  · rw [if_neg hm, if_pos ((getF_isNone f t).2 hm)]; simp
theorem GoodF.merge {x : Frm} : ∀ {y : Frm}, GoodF y → GoodF x → GoodF (mergeF y x) := by
  induction x with
  | nil => intro y hy _; exact hy
  | cons p x ih =>
    intro y hy hx
    exact ih (hy.put (hx.2 p (by simp)) p.2) hx.tail
theorem getF_mergeF {x : Frm} : ∀ {y : Frm}, GoodF x → ∀ t, getF (mergeF y x) t = (getF x t).or (getF y t) := by
  induction x with
  | nil => intro y _ t; rfl
  | cons p x ih =>
    intro y hx t
    have e : mergeF y (p :: x) = mergeF (putF y p.1 p.2) x := rfl
    rw [e, ih hx.tail, getF_put, getF_cons]
    have h1 := hx.1
    rw [List.map_cons, List.nodup_cons] at h1
    by_cases h : p.1 = t
    · subst h
      rw [(getF_isNone x p.1).2 h1.1, if_pos rfl, if_pos rfl]; rfl
    · rw [if_neg h, if_neg (fun e => h e.symm)]
theorem cntK_cons (p : Int × Int) (f : Frm) (k : Nat) : cntK (p :: f) k = cntK f k + if 0 ≤ p.1 ∧ p.1 < k ∧ getF f p.1 = none then 1 else 0 := by
  induction k with
  | zero =>
    rw [if_neg (by rintro ⟨h1, h2, _⟩; simp at h2; omega)]; rfl
  | succ k ih =>
    simp only [cntK]
    rw [ih, getF_cons]
    by_cases h : p.1 = (k : Int)
    · rw [if_neg (show ¬ (0 ≤ p.1 ∧ p.1 < (k : Int) ∧ getF f p.1 = none) by rw [h]; omega), if_pos h, ← h]
      cases hg : getF f p.1 with
      | none => simp; omega
      | some v => simp
    · rw [if_neg h]
      have e : (0 ≤ p.1 ∧ p.1 < (k : Int) ∧ getF f p.1 = none) = (0 ≤ p.1 ∧ p.1 < ((k + 1 : Nat) : Int) ∧ getF f p.1 = none) := by
        apply propext; constructor
        · rintro ⟨a, b, c⟩; exact ⟨a, by omega, c⟩
        · rintro ⟨a, b, c⟩; exact ⟨a, by omega, c⟩
      simp only [e]
      omega
theorem cntK_good {f : Frm} (h : GoodF f) : cntK f 12 = f.length := by
  induction f with
  | nil => rfl
  | cons p f ih =>
    have h1 := h.1
    rw [List.map_cons, List.nodup_cons] at h1
    have h2 := h.2 p (by simp)
    rw [cntK_cons, ih h.tail, if_pos ⟨h2.1, h2.2, (getF_isNone f p.1).2 h1.1⟩]; rfl
theorem lenF_cons (f : Frm) (fs : List Frm) : lenF (f :: fs) = f.length + lenF fs := rfl
theorem cntG_rev (fs : List Frm) (h : ∀ f ∈ fs, GoodF f) : cntG fs.reverse = lenF fs := by
  induction fs with
  | nil => rfl
  | cons f fs ih =>
    have := ih (fun g hg => h g (List.mem_cons_of_mem _ hg))
    have hf := cntK_good (h f (by simp))
    unfold cntG at this ⊢
    rw [List.reverse_cons, List.map_append, List.sum_append, this, lenF_cons]
    simp [hf]; omega
theorem lenAll_eq (xs : Frs) : lenAll xs = (lenF (xs.map (·.2)) : Nat) := by
  induction xs with
  | nil => rfl
  | cons x xs ih =>
    have e : lenAll (x :: xs) = x.2.length + lenAll xs := rfl
    rw [e, ih, List.map_cons, lenF_cons]; omega
theorem getS_eq (xs : Frs) (t : Int) : getS xs t = getL (xs.map (·.2)) t := by
  induction xs with
  | nil => rfl
  | cons x xs ih =>
    rw [getS, List.map_cons, getL, List.findSome?_cons]
    cases getF x.2 t with
    | none => exact ih
    | some v => rfl
theorem getL_cons (f : Frm) (fs : List Frm) (t : Int) : getL (f :: fs) t = (getF f t).or (getL fs t) := by
  rw [getL, List.findSome?_cons]
  cases getF f t <;> rfl
theorem getL_out {fs : List Frm} (h : ∀ f ∈ fs, GoodF f) {t : Int} (ht : ¬ okT t) : getL fs t = none := by
  unfold getL
  rw [List.findSome?_eq_none_iff]
  intro f hf
  rw [getF_isNone]
  intro hm
  obtain ⟨p, hp, rfl⟩ := List.mem_map.1 hm
  exact ht ((h f hf).2 p hp)
theorem rowV_last {ys : List Frm} {f g : Frm} (h : rc f = rc g) : rowV (ys ++ [f]) = rowV (ys ++ [g]) := by
  rw [rowV_append, rowV_append]
  simp [rowV, h]
theorem mrg_eq {y x : Frm} (hx : GoodF x) : rc (mrgK y x 12) = rc (mergeF y x) := rc_congr fun k hk => by
  rw [getF_mrgK, if_pos hk, getF_mergeF hx]
/-! ### what another object's change leaves -/
/-- none of these blocks is a part of a frame -/
def Strange (w : World) (S : Nat → Prop) : Prop := ∀ k, S k → w.heap.size ≤ k ∨ ∃ cs t fr, w.heap[k]? = some (.cells cs t fr) ∧ t ≠ 122 ∧ t ≠ 102 ∧ t ≠ 999999
theorem Strange.not {w : World} {S : Nat → Prop} (h : Strange w S) {k : Nat} {cs : Array Value} {t : TypeId} {fr : Nat × Nat} (hk : w.heap[k]? = some (.cells cs t fr)) (ht : t = 122 ∨ t = 102 ∨ t = 999999) : ¬ S k := by
  intro hS
  have hlt := blk_lt hk
  rcases h k hS with h1 | ⟨cs', t', fr', h1, h2, h3, h4⟩
  · omega
  · rw [hk] at h1
    injection h1 with h1
    injection h1 with _ h1 _
    subst h1
    rcases ht with rfl | rfl | rfl
    · exact h2 rfl
    · exact h3 rfl
    · exact h4 rfl
theorem row_strange {w w' : World} {S : Nat → Prop} {base : Nat} {e : TypeId} {size n : Nat} {v : Value} {xs : List Value} (h : w.ownsRow base e size v n xs) (ho : Only S w w') (hs : Strange w S) (he : e = 122 ∨ e = 102 ∨ e = 999999) : w'.ownsRow base e size v n xs := by
  refine ownsRow_only h ho fun k hk hS => ?_
  rcases h.2 with ⟨rfl, _⟩ | ⟨g, cap, cur, rfl, _, hg, _⟩
  · cases hk
  · have : g = k := by simpa [Value.ownBlock] using hk
    subst this
    exact hs.not hg he hS
theorem StackAt.strange {w w' : World} {S : Nat → Prop} (ho : Only S w w') (hs : Strange w S) : ∀ {p : Value} {xs : Frs}, StackAt w p xs → StackAt w' p xs
  | _, [], h => h
  | _, x :: r, ⟨b, q, e, hb, hf, hl, hr⟩ => ⟨b, q, e, ho.blk hb (hs.not hb (.inl rfl)), row_strange hf ho hs (.inr (.inl rfl)), hl, StackAt.strange ho hs hr⟩
theorem LogAt.strange {w w' : World} {S : Nat → Prop} {b : Nat} {xs : Frs} (h : LogAt w b xs) (ho : Only S w w') (hs : Strange w S) (hb : ¬ S b) : LogAt w' b xs := by
  obtain ⟨o, h1, h2, h3⟩ := h
  exact ⟨o, ho.blk h1 hb, h2.strange ho hs, h3⟩
theorem LogAt.odd {w : World} {b : Nat} {xs : Frs} (h : LogAt w b xs) : Strange w (fun k => k = b) := by
  obtain ⟨o, h1, _⟩ := h
  rintro k rfl
  exact .inr ⟨_, _, _, h1, by decide, by decide, by decide⟩
theorem Strange.or {w : World} {S T : Nat → Prop} (h : Strange w S) (k : Strange w T) : Strange w (fun j => S j ∨ T j) := fun j hj => hj.elim (h j) (k j)
theorem LogAt.lt {w : World} {b : Nat} {xs : Frs} (h : LogAt w b xs) : b < w.heap.size := by
  obtain ⟨o, h1, _⟩ := h
  exact blk_lt h1
theorem WellS.small {xs : Frs} {fs : List Frm} (h : WellS fs) (hx : xs.map (·.2) = fs) : ∀ x ∈ xs, x.2.length ≤ 16 := by
  intro x hm
  have h1 := h.len
  subst hx
  clear h
  induction xs with
  | nil => cases hm
  | cons y xs ih =>
    rw [List.map_cons, lenF_cons] at h1
    rcases List.mem_cons.1 hm with rfl | hm
    · omega
    · exact ih hm (by omega)
end Go.Proofs.Ytganmdbhmihjpaa.Wri
/- The deeds on plain frames; a deed on both, and deeds. -/
namespace Go.Proofs.Ytganmdbhmihjpaa.Wri
open Go.RowKit
set_option linter.unusedSimpArgs false
set_option linter.unusedVariables false
set_option maxRecDepth 50000

def LAt (w : World) (b : Nat) (fs : List Frm) : Prop := ∃ xs, xs.map (·.2) = fs ∧ LogAt w b xs
def putN (fs : List Frm) (t v : Int) : Int :=
  if ¬ okT t then 2 else if rightVal v = false then 3 else match fs with
    | [] => 0
    | f :: _ => if getF f t = none ∧ 16 ≤ lenF fs then 4 else 0
def putS (fs : List Frm) (t v : Int) : List Frm := if putN fs t v = 0 then (match fs with | [] => [] | f :: r => putF f t v :: r) else fs
def pushN (fs : List Frm) : Int := if 5 ≤ fs.length then 4 else 0
def pushS (fs : List Frm) : List Frm := if 5 ≤ fs.length then fs else [] :: fs
def dropN (fs : List Frm) : Int := if fs.length ≤ 1 then 8 else 0
def dropS (fs : List Frm) : List Frm := if fs.length ≤ 1 then fs else fs.tail
def mergeS : List Frm → List Frm
  | x :: y :: r => mergeF y x :: r
  | fs => fs
theorem WellS.put {fs : List Frm} (h : WellS fs) (t v : Int) : WellS (putS fs t v) := by
  unfold putS
  split
  · rename_i hE
    cases fs with
    | nil => exact h
    | cons f r =>
      have ht : okT t := by
        unfold putN at hE
        by_cases ht : okT t
        · exact ht
        · rw [if_pos ht] at hE; cases hE
      have hl := h.len
      have hs : ¬ (getF f t = none ∧ 16 ≤ lenF (f :: r)) := by
        intro hs
        unfold putN at hE
        rw [if_neg (by simpa using ht)] at hE
        split at hE
        · cases hE
        · simp only [if_pos hs] at hE; cases hE
      refine ⟨?_, ?_⟩
      · intro g hg
        rcases List.mem_cons.1 hg with rfl | hg
        · exact (h.good f (by simp)).put ht v
        · exact h.good g (List.mem_cons_of_mem _ hg)
      · rw [lenF_cons, putF_len_eq]
        rw [lenF_cons] at hs hl
        by_cases hn : getF f t = none
        · rw [if_pos hn]
          have : ¬ 16 ≤ f.length + lenF r := fun h => hs ⟨hn, h⟩
          omega
        · rw [if_neg hn]; omega
  · exact h
theorem WellS.push {fs : List Frm} (h : WellS fs) : WellS (pushS fs) := by
  unfold pushS
  split
  · exact h
  · refine ⟨?_, by rw [lenF_cons]; simpa using h.len⟩
    intro g hg
    rcases List.mem_cons.1 hg with rfl | hg
    · exact GoodF.nil
    · exact h.good g hg
theorem WellS.drop {fs : List Frm} (h : WellS fs) : WellS (dropS fs) := by
  unfold dropS
  split
  · exact h
  · cases fs with
    | nil => exact h
    | cons f r =>
      refine ⟨fun g hg => h.good g (List.mem_cons_of_mem _ hg), ?_⟩
      have := h.len
      rw [lenF_cons] at this
      show lenF r ≤ 16
      omega
theorem WellS.drop_of {f : Frm} {fs : List Frm} (h : WellS (f :: fs)) : WellS fs := by
  refine ⟨fun g hg => h.good g (List.mem_cons_of_mem _ hg), ?_⟩
  have := h.len
  rw [lenF_cons] at this
  omega
theorem WellS.merge {fs : List Frm} (h : WellS fs) : WellS (mergeS fs) := by
  match fs, h with
  | [], h => exact h
  | [x], h => exact h
  | x :: y :: r, h =>
    have hl := h.len
    have := mergeF_len x y
    rw [lenF_cons, lenF_cons] at hl
    refine ⟨?_, by show lenF (mergeF y x :: r) ≤ 16; rw [lenF_cons]; omega⟩
    intro g hg
    rcases List.mem_cons.1 hg with rfl | hg
    · exact (h.good y (by simp)).merge (h.good x (by simp))
    · exact h.good g (List.mem_cons_of_mem _ (List.mem_cons_of_mem _ hg))
def OpPost (w : World) (b : Nat) (A : World → Nat → List Frm → Prop) (n : Int) (fs' : List Frm) (e : Ending) (w' : World) : Prop :=
  e = .returned (.int .i64 n) ∧ Only (fun k => k = b) w w' ∧ A w' b fs'
theorem LAt.ne {w : World} {b : Nat} {fs : List Frm} (h : LAt w b fs) : fs ≠ [] := by
  obtain ⟨xs, rfl, o, _, _, h1, _⟩ := h
  rintro h0
  rw [List.map_eq_nil_iff] at h0
  subst h0
  simp at h1
theorem lput_p {w : World} {b : Nat} {fs : List Frm} (h : LAt w b fs) (hi : WellS fs) (t v : Int) (hv : 0 ≤ v ∧ v < 18446744073709551616) :
    Calls Try.prog 69 #[ptr b, .int .i64 t, .int .u64 v] w (OpPost w b LAt (putN fs t v) (putS fs t v)) := by
  obtain ⟨xs, hx, h⟩ := h
  have hE : putE xs t v = putN fs t v := by
    subst hx
    unfold putE putN
    by_cases ht : okT t
    · simp only [ht, not_true_eq_false, if_false]
      cases xs with
      | nil => rfl
      | cons x r =>
        have e : (16 ≤ lenAll (x :: r)) = (16 ≤ lenF ((x :: r).map (·.2))) := by rw [lenAll_eq]; apply propext; omega
        simp only [e, List.map_cons]
    · simp only [ht, not_false_eq_true, if_true]
  refine (lput_any w b xs h (fun x hm => by have := hi.small hx x hm; omega) t v hv).mono ?_
  rintro e w' ⟨rfl, ho, hn, hp⟩
  refine ⟨by rw [hE], ho, ?_⟩
  unfold putS
  rw [← hE]
  split
  · rename_i h0
    cases xs with
    | nil => obtain ⟨_, _, _, h1, _⟩ := h; simp at h1
    | cons x r =>
      obtain ⟨u, hL, _⟩ := hp h0 x r rfl
      subst hx
      exact ⟨_, rfl, hL⟩
  · rename_i h0
    exact ⟨xs, hx, hn h0⟩
theorem lpush_p {w : World} {b : Nat} {fs : List Frm} (h : LAt w b fs) : Calls Try.prog 70 #[ptr b] w (OpPost w b LAt (pushN fs) (pushS fs)) := by
  obtain ⟨xs, hx, h⟩ := h
  have hl : xs.length = fs.length := by rw [← hx, List.length_map]
  refine (lpush_any w b xs h).mono ?_
  unfold PushPost pushN pushS
  rw [hl]
  intro e w'
  split
  · rintro ⟨rfl, rfl⟩
    exact ⟨rfl, Only.refl _ _, xs, hx, h⟩
  · rintro ⟨rfl, ho, hL⟩
    exact ⟨rfl, ho, _, by rw [List.map_cons, hx], hL⟩
theorem ldrop_p {w : World} {b : Nat} {fs : List Frm} (h : LAt w b fs) : Calls Try.prog 71 #[ptr b] w (OpPost w b LAt (dropN fs) (dropS fs)) := by
  obtain ⟨xs, hx, h⟩ := h
  have hl : xs.length = fs.length := by rw [← hx, List.length_map]
  refine (drop_any w b xs h).mono ?_
  unfold DropPost dropN dropS
  rw [hl]
  intro e w'
  split
  · rintro ⟨rfl, rfl⟩
    exact ⟨rfl, Only.refl _ _, xs, hx, h⟩
  · rintro ⟨rfl, ho, hL⟩
    exact ⟨rfl, ho, _, by rw [← hx, List.map_tail], hL⟩
theorem lmerge_p {w : World} {b : Nat} {fs : List Frm} (h : LAt w b fs) (hi : WellS fs) : Calls Try.prog 72 #[ptr b] w (OpPost w b LAt (dropN fs) (mergeS fs)) := by
  obtain ⟨xs, hx, h⟩ := h
  have hl : xs.length = fs.length := by rw [← hx, List.length_map]
  refine (merge_any w b xs h (fun x hm => by have := hi.small hx x hm; omega)).mono ?_
  unfold MergePost dropN
  rw [hl]
  intro e w'
  split
  · rename_i h1
    rintro ⟨rfl, rfl⟩
    refine ⟨rfl, Only.refl _ _, xs, ?_, h⟩
    match fs, h1 with
    | [], _ => exact hx
    | [x], _ => exact hx
  · rintro ⟨x, y, r, u, rfl, rfl, ho, hL, _⟩
    subst hx
    exact ⟨rfl, ho, _, rfl, hL⟩
/-- a log none of whose frames lies in V -/
def LAv (V : Nat → Prop) (w : World) (b : Nat) (fs : List Frm) : Prop := ∃ xs, xs.map (·.2) = fs ∧ LogAt w b xs ∧ ∀ x ∈ xs, ∀ k, x.1.ownBlock = some k → ¬ V k
theorem LAv.at {V : Nat → Prop} {w : World} {b : Nat} {fs : List Frm} (h : LAv V w b fs) : LAt w b fs := by
  obtain ⟨xs, hx, hl, _⟩ := h
  exact ⟨xs, hx, hl⟩
theorem lput_v {V : Nat → Prop} {w : World} {b : Nat} {fs : List Frm} (h : LAv V w b fs) (hV : ∀ k, V k → k < w.heap.size) (hi : WellS fs) (t v : Int) (hv : 0 ≤ v ∧ v < 18446744073709551616) :
    Calls Try.prog 69 #[ptr b, .int .i64 t, .int .u64 v] w (OpPost w b (LAv V) (putN fs t v) (putS fs t v)) := by
  obtain ⟨xs, hx, h, hn0⟩ := h
  have hE : putE xs t v = putN fs t v := by
    subst hx
    unfold putE putN
    by_cases ht : okT t
    · simp only [ht, not_true_eq_false, if_false]
      cases xs with
      | nil => rfl
      | cons x r =>
        have e : (16 ≤ lenAll (x :: r)) = (16 ≤ lenF ((x :: r).map (·.2))) := by rw [lenAll_eq]; apply propext; omega
        simp only [e, List.map_cons]
    · simp only [ht, not_false_eq_true, if_true]
  refine (lput_any w b xs h (fun x hm => by have := hi.small hx x hm; omega) t v hv).mono ?_
  rintro e w' ⟨rfl, ho, hn, hp⟩
  refine ⟨by rw [hE], ho, ?_⟩
  unfold putS
  rw [← hE]
  split
  · rename_i h0
    cases xs with
    | nil => obtain ⟨_, _, _, h1, _⟩ := h; simp at h1
    | cons x r =>
      obtain ⟨u, hL, hfr⟩ := hp h0 x r rfl
      subst hx
      refine ⟨_, rfl, hL, fun z hz k hk => ?_⟩
      rcases List.mem_cons.1 hz with rfl | hz
      · exact fun hv => Nat.not_lt.2 (hfr k hk) (hV k hv)
      · exact hn0 z (List.mem_cons_of_mem _ hz) k hk
  · rename_i h0
    exact ⟨xs, hx, hn h0, hn0⟩
theorem lpush_v {V : Nat → Prop} {w : World} {b : Nat} {fs : List Frm} (h : LAv V w b fs) (hV : ∀ k, V k → k < w.heap.size) : Calls Try.prog 70 #[ptr b] w (OpPost w b (LAv V) (pushN fs) (pushS fs)) := by
  obtain ⟨xs, hx, h, hn0⟩ := h
  have hl : xs.length = fs.length := by rw [← hx, List.length_map]
  refine (lpush_any w b xs h).mono ?_
  unfold PushPost pushN pushS
  rw [hl]
  intro e w'
  split
  · rintro ⟨rfl, rfl⟩
    exact ⟨rfl, Only.refl _ _, xs, hx, h, hn0⟩
  · rintro ⟨rfl, ho, hL⟩
    exact ⟨rfl, ho, _, by rw [List.map_cons, hx], hL, fun z hz k hk => by
      rcases List.mem_cons.1 hz with rfl | hz
      · cases hk
      · exact hn0 z hz k hk⟩
theorem ldrop_v {V : Nat → Prop} {w : World} {b : Nat} {fs : List Frm} (h : LAv V w b fs) (hV : ∀ k, V k → k < w.heap.size) : Calls Try.prog 71 #[ptr b] w (OpPost w b (LAv V) (dropN fs) (dropS fs)) := by
  obtain ⟨xs, hx, h, hn0⟩ := h
  have hl : xs.length = fs.length := by rw [← hx, List.length_map]
  refine (drop_any w b xs h).mono ?_
  unfold DropPost dropN dropS
  rw [hl]
  intro e w'
  split
  · rintro ⟨rfl, rfl⟩
    exact ⟨rfl, Only.refl _ _, xs, hx, h, hn0⟩
  · rintro ⟨rfl, ho, hL⟩
    exact ⟨rfl, ho, _, by rw [← hx, List.map_tail], hL, fun z hz k hk => hn0 z (List.mem_of_mem_tail hz) k hk⟩
theorem lmerge_v {V : Nat → Prop} {w : World} {b : Nat} {fs : List Frm} (h : LAv V w b fs) (hV : ∀ k, V k → k < w.heap.size) (hi : WellS fs) : Calls Try.prog 72 #[ptr b] w (OpPost w b (LAv V) (dropN fs) (mergeS fs)) := by
  obtain ⟨xs, hx, h, hn0⟩ := h
  have hl : xs.length = fs.length := by rw [← hx, List.length_map]
  refine (merge_any w b xs h (fun x hm => by have := hi.small hx x hm; omega)).mono ?_
  unfold MergePost dropN
  rw [hl]
  intro e w'
  split
  · rename_i h1
    rintro ⟨rfl, rfl⟩
    refine ⟨rfl, Only.refl _ _, xs, ?_, h, hn0⟩
    match fs, h1 with
    | [], _ => exact hx
    | [x], _ => exact hx
  · rintro ⟨x, y, r, u, rfl, rfl, ho, hL, hfr⟩
    subst hx
    refine ⟨rfl, ho, _, rfl, hL, fun z hz k hk => ?_⟩
    rcases List.mem_cons.1 hz with rfl | hz
    · rcases hfr with hfr | rfl
      · exact fun hv => Nat.not_lt.2 (hfr k hk) (hV k hv)
      · exact hn0 y (by simp) k hk
    · exact hn0 z (by simp [hz]) k hk
theorem LAt.strange {w w' : World} {S : Nat → Prop} {b : Nat} {fs : List Frm} (h : LAt w b fs) (ho : Only S w w') (hs : Strange w S) (hb : ¬ S b) : LAt w' b fs := by
  obtain ⟨xs, hx, h⟩ := h
  exact ⟨xs, hx, h.strange ho hs hb⟩
theorem LAt.odd {w : World} {b : Nat} {fs : List Frm} (h : LAt w b fs) : Strange w (fun k => k = b) := by
  obtain ⟨xs, hx, h⟩ := h
  exact h.odd
theorem LAt.below {w w' : World} {b : Nat} {fs : List Frm} (h : LAt w b fs) (l : Below w.heap.size w w') : LAt w' b fs := by
  obtain ⟨xs, hx, h⟩ := h
  exact ⟨xs, hx, h.below l⟩
end Go.Proofs.Ytganmdbhmihjpaa.Wri
/- What became of attempts, in plain words: events, an attempt's cut, how far it is, what was before what. -/
namespace Go.Proofs.Ytganmdbhmihjpaa.His
open Go.RowKit
set_option linter.unusedSimpArgs false
set_option linter.unusedVariables false
set_option maxRecDepth 50000

structure Ev where
  k : Int
  a : Int
  t : Int
  v : Int
def cutL (l : List Ev) (n : Int) : List Ev := l.filter fun x => x.a == n
/-- an event of a kind of an attempt -/
def hasK (l : List Ev) (n k : Int) : Bool := l.any fun x => x.a == n && x.k == k
def stStep (s : Int) (x : Ev) : Int := if x.k = 7 then 2 else if x.k = 8 then 3 else if x.k = 9 then 4 else s
def stFold (l : List Ev) : Int := l.foldl stStep 1
def stateL (l : List Ev) (n : Int) : Int := if hasK l n 1 then stFold (cutL l n) else 0
def endedL (l : List Ev) (n : Int) : Bool := hasK l n 8 || hasK l n 9
/-- had a ended when b began? -/
def beforeL (a b : Int) : List Ev → Bool → Bool
  | [], _ => false
  | x :: l, e => if x.a = b ∧ x.k = 1 then e else beforeL a b l (e || (x.a == a && (x.k == 8 || x.k == 9)))
theorem hasK_snoc (l : List Ev) (x : Ev) (n k : Int) : hasK (l ++ [x]) n k = (hasK l n k || (x.a == n && x.k == k)) := by simp [hasK]
theorem endedL_snoc (l : List Ev) (x : Ev) (n : Int) : endedL (l ++ [x]) n = (endedL l n || (x.a == n && (x.k == 8 || x.k == 9))) := by
  unfold endedL
  rw [hasK_snoc, hasK_snoc]
  cases hasK l n 8 <;> cases hasK l n 9 <;> cases (x.a == n) <;> cases (x.k == 8) <;> cases (x.k == 9) <;> rfl
theorem cutL_snoc (l : List Ev) (x : Ev) (n : Int) : cutL (l ++ [x]) n = cutL l n ++ (if x.a = n then [x] else []) := by
  unfold cutL
  rw [List.filter_append]
  congr 1
  by_cases h : x.a = n <;> simp [h]
theorem cutL_cut (l : List Ev) (n : Int) : cutL (cutL l n) n = cutL l n := by
  unfold cutL
  rw [List.filter_filter]
  congr 1
  funext x
  cases (x.a == n) <;> rfl
theorem hasK_cut (l : List Ev) (n k : Int) : hasK (cutL l n) n k = hasK l n k := by
  unfold hasK cutL
  induction l with
  | nil => rfl
  | cons x l ih =>
    rw [List.filter_cons]
    by_cases h : (x.a == n) = true
    · rw [if_pos h, List.any_cons, List.any_cons, ih]
    · rw [if_neg h, List.any_cons, ih]
      simp at h
      simp [h]
theorem stateL_cut (l : List Ev) (n : Int) : stateL (cutL l n) n = stateL l n := by
  unfold stateL
  rw [hasK_cut, cutL_cut]
/-- the document's side: the first beginning of b, and what is seen ahead of it -/
theorem beforeL_at (a b : Int) : ∀ (l p : List Ev) (i : Nat) (x : Ev), (∀ j y, l[j]? = some y → j < i → ¬ (y.a = b ∧ y.k = 1)) → l[i]? = some x → x.a = b → x.k = 1 → beforeL a b l (endedL p a) = endedL (p ++ l.take i) a := by
  intro l
  induction l with
  | nil => intro p i x _ h; cases h
  | cons y l ih =>
    intro p i x hno hx ha hk
    cases i with
    | zero =>
      simp at hx
      subst hx
      unfold beforeL
      rw [if_pos ⟨ha, hk⟩, List.take_zero, List.append_nil]
    | succ i =>
      unfold beforeL
      rw [if_neg (hno 0 y rfl (by omega)), ← endedL_snoc, ih (p ++ [y]) i x (fun j z hz hj => hno (j + 1) z hz (by omega)) (by simpa using hx) ha hk, List.take_succ_cons, List.append_assoc]
      rfl
theorem beforeL_none (a b : Int) : ∀ (l : List Ev) (e : Bool), (∀ y ∈ l, ¬ (y.a = b ∧ y.k = 1)) → beforeL a b l e = false := by
  intro l
  induction l with
  | nil => intro e _; rfl
  | cons y l ih =>
    intro e h
    unfold beforeL
    rw [if_neg (h y (by simp))]
    exact ih _ fun z hz => h z (List.mem_cons_of_mem _ hz)
theorem stFold_snoc (l : List Ev) (x : Ev) : stFold (l ++ [x]) = stStep (stFold l) x := by simp [stFold]
/-! ### the order -/
/-- what right events have: each begins once, and has no event ahead of its beginning -/
def Well (l : List Ev) : Prop := ∀ (i : Nat) (x : Ev), l[i]? = some x → (x.k = 1 → hasK (l.take i) x.a 1 = false) ∧ (x.k ≠ 1 → hasK (l.take i) x.a 1 = true)
theorem hasK_at {l : List Ev} {n k : Int} : hasK l n k = true ↔ ∃ (i : Nat) (x : Ev), l[i]? = some x ∧ x.a = n ∧ x.k = k := by
  unfold hasK
  rw [List.any_eq_true]
  constructor
  · rintro ⟨x, hx, h⟩
    simp at h
    obtain ⟨i, hi⟩ := List.mem_iff_getElem?.1 hx
    exact ⟨i, x, hi, h.1, h.2⟩
  · rintro ⟨i, x, hi, h1, h2⟩
    exact ⟨x, List.mem_of_getElem? hi, by simp [h1, h2]⟩
theorem before_true {a b : Int} {l : List Ev} (h : beforeL a b l false = true) : ∃ (i : Nat) (x : Ev), l[i]? = some x ∧ x.a = b ∧ x.k = 1 ∧ (∀ (j : Nat) (y : Ev), l[j]? = some y → j < i → ¬ (y.a = b ∧ y.k = 1)) ∧ endedL (l.take i) a = true := by
  by_cases hex : ∃ i : Nat, ∃ y : Ev, l[i]? = some y ∧ y.a = b ∧ y.k = 1
  · have hfirst : ∀ m : Nat, (∃ y : Ev, l[m]? = some y ∧ y.a = b ∧ y.k = 1) → ∃ (i : Nat) (x : Ev), l[i]? = some x ∧ x.a = b ∧ x.k = 1 ∧ ∀ (j : Nat) (y : Ev), l[j]? = some y → j < i → ¬ (y.a = b ∧ y.k = 1) := by
      intro m
      induction m using Nat.strongRecOn with
      | _ m ih =>
        rintro ⟨y, hy, h1, h2⟩
        by_cases hj : ∃ j : Nat, j < m ∧ ∃ z : Ev, l[j]? = some z ∧ z.a = b ∧ z.k = 1
        · obtain ⟨j, hjm, hz⟩ := hj
          exact ih j hjm hz
        · exact ⟨m, y, hy, h1, h2, fun j z hz hjm hh => hj ⟨j, hjm, z, hz, hh⟩⟩
    obtain ⟨m, hm⟩ := hex
    obtain ⟨i, x, hx, ha, hk, hno⟩ := hfirst m hm
    refine ⟨i, x, hx, ha, hk, hno, ?_⟩
    have := beforeL_at a b l [] i x hno hx ha hk
    rw [List.nil_append] at this
    rw [← this]
    exact h
  · rw [beforeL_none a b l false (fun y hy hh => by
      obtain ⟨i, hi⟩ := List.mem_iff_getElem?.1 hy
      exact hex ⟨i, y, hi, hh⟩)] at h
    cases h
theorem ended_at {l : List Ev} {n : Int} (h : endedL l n = true) : ∃ (i : Nat) (x : Ev), l[i]? = some x ∧ x.a = n ∧ (x.k = 8 ∨ x.k = 9) := by
  unfold endedL at h
  rw [Bool.or_eq_true] at h
  rcases h with h | h
  · obtain ⟨i, x, h1, h2, h3⟩ := hasK_at.1 h
    exact ⟨i, x, h1, h2, .inl h3⟩
  · obtain ⟨i, x, h1, h2, h3⟩ := hasK_at.1 h
    exact ⟨i, x, h1, h2, .inr h3⟩
/-- an event of b that is no beginning stands behind b's beginning -/
theorem Well.behind {l : List Ev} (h : Well l) {i j : Nat} {x y : Ev} (hx : l[i]? = some x) (hk : x.k = 1) (hy : l[j]? = some y) (ha : y.a = x.a) (hyk : y.k ≠ 1) : i < j := by
  rcases Nat.lt_or_ge i j with h1 | h1
  · exact h1
  · have h2 := (h j y hy).2 hyk
    have h3 := (h i x hx).1 hk
    obtain ⟨m, z, hz, hza, hzk⟩ := hasK_at.1 h2
    rw [List.getElem?_take] at hz
    split at hz
    · rename_i hm
      have : hasK (l.take i) x.a 1 = true := hasK_at.2 ⟨m, z, by rw [List.getElem?_take, if_pos (by omega)]; exact hz, by rw [hza, ha], hzk⟩
      rw [h3] at this
      cases this
    · cases hz
/-- where the ones ahead end and the ones behind begin -/
theorem before_idx {l : List Ev} (h : Well l) {a b : Int} (hb : beforeL a b l false = true) : ∃ (i j : Nat) (x y : Ev), l[i]? = some x ∧ x.a = a ∧ (x.k = 8 ∨ x.k = 9) ∧ l[j]? = some y ∧ y.a = b ∧ y.k = 1 ∧ i < j := by
  obtain ⟨j, y, hy, h1, h2, _, he⟩ := before_true hb
  obtain ⟨i, x, hx, h3, h4⟩ := ended_at he
  rw [List.getElem?_take] at hx
  split at hx
  · exact ⟨i, j, x, y, hx, h3, h4, hy, h1, h2, by omega⟩
  · cases hx
theorem before_irr {l : List Ev} (h : Well l) (a : Int) : beforeL a a l false = false := by
  cases hb : beforeL a a l false with
  | false => rfl
  | true =>
    obtain ⟨i, j, x, y, hx, h1, h2, hy, h3, h4, h5⟩ := before_idx h hb
    have := h.behind hy h4 hx (by rw [h1, h3]) (by rcases h2 with h2 | h2 <;> omega)
    omega
theorem before_asym {l : List Ev} (h : Well l) {a b : Int} (h1 : beforeL a b l false = true) (h2 : beforeL b a l false = true) : False := by
  obtain ⟨i, j, x, y, hx, a1, a2, hy, a3, a4, a5⟩ := before_idx h h1
  obtain ⟨i', j', x', y', hx', b1, b2, hy', b3, b4, b5⟩ := before_idx h h2
  have c1 := h.behind hy a4 hx' (by rw [b1, a3]) (by rcases b2 with h2 | h2 <;> omega)
  have c2 := h.behind hy' b4 hx (by rw [a1, b3]) (by rcases a2 with h2 | h2 <;> omega)
  omega
theorem before_trans {l : List Ev} (h : Well l) {a b c : Int} (h1 : beforeL a b l false = true) (h2 : beforeL b c l false = true) : beforeL a c l false = true := by
  obtain ⟨m, y, hy, hya, hyk, hno, he⟩ := before_true h2
  have e := beforeL_at a c l [] m y hno hy hya hyk
  rw [List.nil_append, show endedL [] a = false from rfl] at e
  rw [e]
  obtain ⟨i, j, x, z, hx, a1, a2, hz, a3, a4, a5⟩ := before_idx h h1
  obtain ⟨i', x', hx', b1, b2⟩ := ended_at he
  rw [List.getElem?_take] at hx'
  split at hx'
  · have c1 := h.behind hz a4 hx' (by rw [b1, a3]) (by rcases b2 with h2 | h2 <;> omega)
    have hxt : (l.take m)[i]? = some x := by rw [List.getElem?_take, if_pos (by omega)]; exact hx
    unfold endedL
    rw [Bool.or_eq_true]
    rcases a2 with a2 | a2
    · exact .inl (hasK_at.2 ⟨i, x, hxt, a1, a2⟩)
    · exact .inr (hasK_at.2 ⟨i, x, hxt, a1, a2⟩)
  · cases hx'
/-! ### the states -/
def attF (acc : List Int) (x : Ev) : List Int := if x.k = 1 ∧ x.a ∉ acc then acc ++ [x.a] else acc
def attL (l : List Ev) : List Int := l.foldl attF []
theorem attL_snoc (l : List Ev) (x : Ev) : attL (l ++ [x]) = attF (attL l) x := by simp [attL]
theorem mem_attF (n : Int) (l : List Ev) : ∀ acc : List Int, n ∈ l.foldl attF acc ↔ n ∈ acc ∨ hasK l n 1 = true := by
  induction l with
  | nil => intro acc; simp [hasK]
  | cons x l ih =>
    intro acc
    rw [List.foldl_cons, ih]
    have hc : hasK (x :: l) n 1 = ((x.a == n && x.k == 1) || hasK l n 1) := by simp [hasK]
    rw [hc]
    unfold attF
    by_cases h1 : x.k = 1
    · by_cases h2 : x.a = n
      · subst h2
        by_cases h3 : x.a ∈ acc
        · simp [h1, h3]
        · simp [h1, h3]
      · by_cases h3 : x.a ∈ acc
        · simp [h1, h2, h3]
        · have h2' : ¬ n = x.a := fun h => h2 h.symm
          simp [h1, h2, h3, h2']
    · simp [h1]
theorem mem_attL (l : List Ev) (n : Int) : n ∈ attL l ↔ hasK l n 1 = true := by
  unfold attL
  rw [mem_attF]
  simp
theorem stFold_range (l : List Ev) : ∀ s : Int, (s = 1 ∨ s = 2 ∨ s = 3 ∨ s = 4) → (l.foldl stStep s = 1 ∨ l.foldl stStep s = 2 ∨ l.foldl stStep s = 3 ∨ l.foldl stStep s = 4) := by
  induction l with
  | nil => intro s h; exact h
  | cons x l ih =>
    intro s h
    rw [List.foldl_cons]
    refine ih _ ?_
    unfold stStep
    split
    · simp
    · split
      · simp
      · split
        · simp
        · exact h
theorem stateL_range {l : List Ev} {n : Int} (h : n ∈ attL l) : stateL l n = 1 ∨ stateL l n = 2 ∨ stateL l n = 3 ∨ stateL l n = 4 := by
  unfold stateL
  rw [if_pos ((mem_attL l n).1 h)]
  exact stFold_range _ 1 (.inl rfl)
/-- each attempt is in just one state -/
theorem states_sum (g : Int → Int) (l : List Int) (h : ∀ n ∈ l, g n = 1 ∨ g n = 2 ∨ g n = 3 ∨ g n = 4) : (l.filter fun n => g n == 1).length + (l.filter fun n => g n == 2).length + (l.filter fun n => g n == 3).length + (l.filter fun n => g n == 4).length = l.length := by
  induction l with
  | nil => rfl
  | cons n l ih =>
    have ih' := ih fun m hm => h m (List.mem_cons_of_mem _ hm)
    have hn := h n (by simp)
    simp only [List.filter_cons, List.length_cons]
    rcases hn with hn | hn | hn | hn <;> (simp [hn]; omega)
/-- what right events have: behind an attempt's end it has no event -/
def Done (l : List Ev) : Prop := ∀ (i : Nat) (x : Ev), l[i]? = some x → endedL (l.take i) x.a = false
theorem stFold_end (l : List Ev) : ∀ s : Int, s ≠ 3 → s ≠ 4 → (l.foldl stStep s = 3 ∨ l.foldl stStep s = 4) → ∃ x ∈ l, x.k = 8 ∨ x.k = 9 := by
  induction l with
  | nil => intro s h3 h4 h; rcases h with h | h; exact absurd h h3; exact absurd h h4
  | cons x l ih =>
    intro s h3 h4 h
    by_cases h8 : x.k = 8
    · exact ⟨x, by simp, .inl h8⟩
    by_cases h9 : x.k = 9
    · exact ⟨x, by simp, .inr h9⟩
    rw [List.foldl_cons] at h
    have hs : stStep s x ≠ 3 ∧ stStep s x ≠ 4 := by
      unfold stStep
      rw [if_neg h8, if_neg h9]
      split
      · decide
      · exact ⟨h3, h4⟩
    obtain ⟨y, hy, hk⟩ := ih _ hs.1 hs.2 h
    exact ⟨y, List.mem_cons_of_mem _ hy, hk⟩
theorem state_stays {l : List Ev} (h : Done l) (k : Nat) (n : Int) (hs : stateL (l.take k) n = 3 ∨ stateL (l.take k) n = 4) : stateL l n = stateL (l.take k) n := by
  have hb : hasK (l.take k) n 1 = true := by
    cases hb : hasK (l.take k) n 1
    · unfold stateL at hs
      rw [hb] at hs
      simp at hs
    · rfl
  have hst : stateL (l.take k) n = stFold (cutL (l.take k) n) := by unfold stateL; rw [if_pos hb]
  rw [hst] at hs
  obtain ⟨x, hx, hk⟩ := stFold_end _ 1 (by decide) (by decide) hs
  obtain ⟨hx1, hx2⟩ := List.mem_filter.1 hx
  obtain ⟨i, hi⟩ := List.mem_iff_getElem?.1 hx1
  have he : endedL (l.take k) n = true := by
    unfold endedL
    rw [Bool.or_eq_true]
    rcases hk with hk | hk
    · exact .inl (hasK_at.2 ⟨i, x, hi, by simpa using hx2, hk⟩)
    · exact .inr (hasK_at.2 ⟨i, x, hi, by simpa using hx2, hk⟩)
  have hnone : ∀ y ∈ l.drop k, ¬ y.a = n := by
    intro y hy hya
    obtain ⟨j, hj⟩ := List.mem_iff_getElem?.1 hy
    rw [List.getElem?_drop] at hj
    have := h (k + j) y hj
    rw [hya] at this
    obtain ⟨i2, x2, hx2, e1, e2⟩ := ended_at he
    have hx3 : (l.take (k + j))[i2]? = some x2 := by
      rw [List.getElem?_take] at hx2 ⊢
      split at hx2
      · rw [if_pos (by omega)]; exact hx2
      · cases hx2
    have ht : endedL (l.take (k + j)) n = true := by
      unfold endedL
      rw [Bool.or_eq_true]
      rcases e2 with e2 | e2
      · exact .inl (hasK_at.2 ⟨i2, x2, hx3, e1, e2⟩)
      · exact .inr (hasK_at.2 ⟨i2, x2, hx3, e1, e2⟩)
    rw [this] at ht
    cases ht
  have hcut : cutL l n = cutL (l.take k) n := by
    conv => lhs; rw [← List.take_append_drop k l]
    unfold cutL
    rw [List.filter_append]
    have : (l.drop k).filter (fun x => x.a == n) = [] := by
      rw [List.filter_eq_nil_iff]
      intro y hy
      simpa using hnone y hy
    rw [this, List.append_nil]
  have hbl : hasK l n 1 = true := by
    obtain ⟨i3, x3, h3, h4, h5⟩ := hasK_at.1 hb
    rw [List.getElem?_take] at h3
    split at h3
    · exact hasK_at.2 ⟨i3, x3, h3, h4, h5⟩
    · cases h3
  rw [hst]
  unfold stateL
  rw [if_pos hbl, hcut]
end Go.Proofs.Ytganmdbhmihjpaa.His
