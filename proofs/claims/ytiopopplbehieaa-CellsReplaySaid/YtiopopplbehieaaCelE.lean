/- What Do of the other side answers and leaves. -/
import Derived.Test.YtiopopplbehieaaCelR
namespace Go.Proofs.Ytiopopplbehieaa.Cel
open Go.RowKit
set_option linter.unusedSimpArgs false
set_option linter.unusedVariables false

theorem rdo_nil (w : World) (o : OpV) : Calls Try.prog 17 #[.pointer none, opv o] w fun e w' =>
    e = .returned (.tuple #[dnv noDn, .int .i64 1]) ∧ Below w.heap.size w w' := by
  rw [opv]
  go_enter Try.func17, Try.ntmps17
  go_wp2
  refine bodyPost_ret (v := .tuple #[dnv noDn, .int .i64 1]) (by simp [results, Try.results17, go_sem, dnv, noDn]) rfl ⟨rfl, ?_⟩
  repeat (first | (with_reducible exact Below.refl _ _) | (with_reducible apply Below.drew) | (with_reducible refine below_drewN ?_ _) | (with_reducible refine below_alloc' ?_ ?_ _; (focus ((try simp) <;> omega))) | (with_reducible refine below_set' ?_ ?_ _; (focus ((try simp) <;> omega))))

theorem rdo_range {F : Nat → Prop} (w : World) (b : Nat) (s : CSt) (h : CellsAt 71 w b F s) (o : OpV) (hr : s.inr o.c = false) :
    Calls Try.prog 17 #[ptr b, .agg #[.int .u8 o.k, .int .i64 o.c, .int .u64 o.a, .int .u64 o.b]] w (DoPost 71 w b F s o) := by
  have hE : s.doE o = 2 := by simp [CSt.doE, hr]
  have HE := Lib.hid (fun w' (hb : Below w.heap.size w w') => DoPost.err (o := o) h hb (by omega))
  rw [hE] at HE
  obtain ⟨wb, wcap, v, h, _⟩ := h
  have h0 := blk_cell h.obj 0
  have hlt := h.lt.1
  simp only [List.getElem?_toArray, List.getElem?_cons_zero] at h0
  obtain ⟨k, c, a, b'⟩ := o
  simp only [CSt.inr] at hr
  clear hE h
  by_cases h1 : c < 0
  · have hd : decide (c < 0) = true := by simpa using h1
    clear hr
    go_enter Try.func17, Try.ntmps17
    go_wp2_with fail
    go_quiet (fail)
    go_wp2_with fail
    refine bodyPost_ret (v := .tuple #[dnv noDn, .int .i64 2]) ?_ rfl ?_; (focus (simp [results, Try.results17, go_sem, dnv, noDn]; done))
    refine HE.out _ ?_
    repeat (first | (with_reducible exact Below.refl _ _) | (with_reducible apply Below.drew) | (with_reducible refine below_drewN ?_ _) | (with_reducible refine below_alloc' ?_ ?_ _; (focus ((try simp) <;> omega))) | (with_reducible refine below_set' ?_ ?_ _; (focus ((try simp) <;> omega))))
  · have hd : decide (c < 0) = false := by simpa using h1
    have hge : ((s.ws.length : Nat) : Int) ≤ c := by simp at hr; omega
    clear hr
    generalize s.ws.length = n at *
    go_enter Try.func17, Try.ntmps17
    go_wp2_with fail
    go_quiet (fail)
    go_wp2_with fail
    refine bodyPost_ret (v := .tuple #[dnv noDn, .int .i64 2]) ?_ rfl ?_; (focus (simp [results, Try.results17, go_sem, dnv, noDn]; done))
    refine HE.out _ ?_
    repeat (first | (with_reducible exact Below.refl _ _) | (with_reducible apply Below.drew) | (with_reducible refine below_drewN ?_ _) | (with_reducible refine below_alloc' ?_ ?_ _; (focus ((try simp) <;> omega))) | (with_reducible refine below_set' ?_ ?_ _; (focus ((try simp) <;> omega))))


theorem rdo_form {F : Nat → Prop} (w : World) (b : Nat) (s : CSt) (hI : s.Inv) (h : CellsAt 71 w b F s) (o : OpV) (ho : o.Fit) (hr : s.inr o.c = true) (hk : o.k < 1 ∨ 4 < o.k) :
    Calls Try.prog 17 #[ptr b, .agg #[.int .u8 o.k, .int .i64 o.c, .int .u64 o.a, .int .u64 o.b]] w (DoPost 71 w b F s o) := by
  have hE : s.doE o = 3 := by
    simp only [CSt.doE, hr, becV, if_true]
    rw [if_neg (by omega), if_neg (by omega), if_neg (by omega), if_neg (by omega)]
  have HE := Lib.hid (fun w' (hb' : Below w.heap.size w w') => DoPost.err (o := o) h hb' (by omega))
  rw [hE] at HE
  obtain ⟨wb, wcap, v, h, _⟩ := h
  have h0 := blk_cell h.obj 0
  have hlt := h.lt.1
  simp only [List.getElem?_toArray, List.getElem?_cons_zero] at h0
  obtain ⟨k, c, a, b'⟩ := o
  simp only [CSt.inr, decide_eq_true_eq] at hr hk
  obtain ⟨hr0, hr1⟩ := hr
  have hd : decide (c < 0) = false := by simpa using hr0
  have hd2 : decide (((s.ws.length : Nat) : Int) ≤ c) = false := by simpa using hr1
  have hm32 := hI.small
  clear hI ho hE h hr0 hr1
  generalize s.ws.length = n at *
  by_cases hk1 : k < 1
  · have e1 : decide (k < 1) = true := by simpa using hk1
    go_enter Try.func17, Try.ntmps17
    go_wp2_with fail
    go_quiet (fail)
    go_wp2_with fail
    refine bodyPost_ret (v := .tuple #[dnv noDn, .int .i64 3]) ?_ rfl ?_; (focus (simp [results, Try.results17, go_sem, dnv, noDn]; done))
    refine HE.out _ ?_
    repeat (first | (with_reducible exact Below.refl _ _) | (with_reducible apply Below.drew) | (with_reducible refine below_drewN ?_ _) | (with_reducible refine below_alloc' ?_ ?_ _; (focus ((try simp) <;> omega))) | (with_reducible refine below_set' ?_ ?_ _; (focus ((try simp) <;> omega))))
  · have e1 : decide (k < 1) = false := by simpa using hk1
    have e2 : decide (4 < k) = true := by simp; omega
    go_enter Try.func17, Try.ntmps17
    go_wp2_with fail
    go_quiet (fail)
    go_wp2_with fail
    refine bodyPost_ret (v := .tuple #[dnv noDn, .int .i64 3]) ?_ rfl ?_; (focus (simp [results, Try.results17, go_sem, dnv, noDn]; done))
    refine HE.out _ ?_
    repeat (first | (with_reducible exact Below.refl _ _) | (with_reducible apply Below.drew) | (with_reducible refine below_drewN ?_ _) | (with_reducible refine below_alloc' ?_ ?_ _; (focus ((try simp) <;> omega))) | (with_reducible refine below_set' ?_ ?_ _; (focus ((try simp) <;> omega))))
end Go.Proofs.Ytiopopplbehieaa.Cel
