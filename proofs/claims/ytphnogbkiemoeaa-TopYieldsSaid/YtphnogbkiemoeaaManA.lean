/- The manager's inner functions. -/
import Derived.Test.YtphnogbkiemoeaaManM
import Derived.Test.YtphnogbkiemoeaaChecked
import Derived.Handy
namespace Go.Proofs.Ytphnogbkiemoeaa.Man
open Go.RowKit
set_option linter.unusedSimpArgs false
set_option linter.unusedVariables false

abbrev ptr (b : Nat) : Value := .pointer (some ⟨b, 0, none⟩)
abbrev pth (b i : Nat) : Value := .pointer (some ⟨b, 1 + i * 5, none⟩)
theorem okTh_nat {th : Int} (h : okTh th) : ∃ i : Nat, i < 4 ∧ th = i := ⟨th.toNat, by unfold okTh at h; omega, by unfold okTh at h; omega⟩
theorem okTh_lt {i : Nat} (h : i < 4) : okTh i := by unfold okTh; omega
theorem at_ok (w : World) (b i : Nat) (hi : i < 4) : Calls Try.prog 23 #[ptr b, .int .i64 i] w fun e w' => e = .returned (.tuple #[pth b i, .int .i64 0]) ∧ w = w' := by
  have h0 : decide ((i : Int) < 0) = false := by simp
  have h1 : decide ((4 : Int) ≤ i) = false := by simp; omega
  go_enter Try.func23, Try.ntmps23
  go_wp2
  go_ret2
  exact ⟨rfl, rfl⟩
theorem at_no (w : World) (b : Nat) (th : Int) (hn : ¬ okTh th) : Calls Try.prog 23 #[ptr b, .int .i64 th] w fun e w' => e = .returned (.tuple #[.pointer none, .int .i64 2]) ∧ w = w' := by
  by_cases h : th < 0
  · have h0 : decide (th < 0) = true := by simpa using h
    go_enter Try.func23, Try.ntmps23
    go_wp2
    go_ret2
    exact ⟨rfl, rfl⟩
  · have h0 : decide (th < 0) = false := by simpa using h
    have h1 : decide (4 ≤ th) = true := by simp; unfold okTh at hn; omega
    go_enter Try.func23, Try.ntmps23
    go_wp2
    go_ret2
    exact ⟨rfl, rfl⟩
theorem at_nil (w : World) (th : Int) : Calls Try.prog 23 #[.pointer none, .int .i64 th] w fun e w' => e = .returned (.tuple #[.pointer none, .int .i64 1]) ∧ w = w' := by
  go_enter Try.func23, Try.ntmps23
  go_wp2
  go_ret2
  exact ⟨rfl, rfl⟩
theorem running_ok (w : World) (b : Nat) (h : Value) (s : MSt) (H : MAt 58 w b h s) (i : Nat) (hi : i < 4) :
    Calls Try.prog 24 #[ptr b, .int .i64 i] w fun e w' => e = .returned (.tuple #[pth b i, .int .i64 (if (s.T i).runs then 0 else 8)]) ∧ w = w' := by
  have hr := H.runs hi
  cases hq : (s.T i).runs <;> rw [hq] at hr <;> clear hq H
  all_goals
    go_enter Try.func24, Try.ntmps24
    go_wp2_with fail; refine (at_ok w b i hi).mono ?_; rintro e w0 ⟨rfl, rfl⟩
    go_wp2_with fail
    go_ret2
    exact ⟨rfl, rfl⟩
theorem running_no (w : World) (b : Nat) (th : Int) (hn : ¬ okTh th) : Calls Try.prog 24 #[ptr b, .int .i64 th] w fun e w' => e = .returned (.tuple #[.pointer none, .int .i64 2]) ∧ w = w' := by
  go_enter Try.func24, Try.ntmps24
  go_wp2_with fail; refine (at_no w b th hn).mono ?_; rintro e w0 ⟨rfl, rfl⟩
  go_wp2_with fail
  go_ret2
  exact ⟨rfl, rfl⟩
theorem running_nil (w : World) (th : Int) : Calls Try.prog 24 #[.pointer none, .int .i64 th] w fun e w' => e = .returned (.tuple #[.pointer none, .int .i64 1]) ∧ w = w' := by
  go_enter Try.func24, Try.ntmps24
  go_wp2_with fail; refine (at_nil w th).mono ?_; rintro e w0 ⟨rfl, rfl⟩
  go_wp2_with fail
  go_ret2
  exact ⟨rfl, rfl⟩
/-- a pointer into it, once it is known where -/
theorem began_new (w : World) (b : Nat) (h : Value) (s : MSt) (H : MAt 58 w b h s) (i : Nat) (hi : i < 4) (hl : 0 ≤ s.last ∧ s.last ≤ 1000000) (hq : (s.T i).runs = false) :
    Calls Try.prog 9 #[ptr b, .int .i64 i, .bool false] w fun e w' => e = .returned (.int .i64 0) ∧ Only (fun k => k = b) w w' ∧ MAt 58 w' b h ⟨upd s.T i ⟨true, false, 0, 0, s.last + 1⟩, s.last + 1⟩ := by
  have hr := H.runs hi
  rw [hq] at hr
  have hla := H.last
  have hfr := H.free
  have c1 := H.waits hi; have c2 := H.tries hi; have c3 := H.merit hi; have c4 := H.stamp hi
  have hw : IntKind.i64.wrap (s.last + 1) = s.last + 1 := by rw [IntKind.wrap_i64]; omega
  have HM := Lib.hid H
  clear H hq
  go_enter Try.func9, Try.ntmps9
  go_wp2_with fail; refine (at_ok w b i hi).mono ?_; rintro e w0 ⟨rfl, rfl⟩
  go_wp2_with fail
  go_ret
  refine ⟨rfl, ?_, ?_⟩
  · repeat (first | (with_reducible exact Only.refl _ _) | (with_reducible apply Only.drew) | (with_reducible apply Only.drewN) | (with_reducible apply Only.alloc) | (with_reducible refine only_set' ?_ ?_ _; (focus ((try simp) <;> omega))))
  · have h1 := ((((((((HM.out.setLast (s.last + 1)).setRuns hi true).setWaits hi false).setTries hi 0).setMerit hi 0).setStamp hi (s.last + 1)).setWaits hi false).setTries hi 0)
    simp only [upd_upd, upd_same] at h1
    exact h1
theorem began_again (w : World) (b : Nat) (h : Value) (s : MSt) (H : MAt 58 w b h s) (i : Nat) (hi : i < 4) (hq : (s.T i).runs = true) :
    Calls Try.prog 9 #[ptr b, .int .i64 i, .bool true] w fun e w' => e = .returned (.int .i64 0) ∧ Only (fun k => k = b) w w' ∧ MAt 58 w' b h ⟨upd s.T i { s.T i with waits := false, tries := 0 }, s.last⟩ := by
  have hr := H.runs hi
  rw [hq] at hr
  have hfr := H.free
  have c1 := H.waits hi; have c2 := H.tries hi
  have HM := Lib.hid H
  clear H hq
  go_enter Try.func9, Try.ntmps9
  go_wp2_with fail; refine (at_ok w b i hi).mono ?_; rintro e w0 ⟨rfl, rfl⟩
  go_wp2_with fail
  go_ret
  refine ⟨rfl, ?_, ?_⟩
  · repeat (first | (with_reducible exact Only.refl _ _) | (with_reducible apply Only.drew) | (with_reducible apply Only.drewN) | (with_reducible apply Only.alloc) | (with_reducible refine only_set' ?_ ?_ _; (focus ((try simp) <;> omega))))
  · have h1 := (HM.out.setWaits hi false).setTries hi 0
    simp only [upd_upd, upd_same] at h1
    exact h1
theorem began_bad (w : World) (b : Nat) (h : Value) (s : MSt) (H : MAt 58 w b h s) (i : Nat) (hi : i < 4) (again : Bool) (hq : (s.T i).runs = !again) :
    Calls Try.prog 9 #[ptr b, .int .i64 i, .bool again] w fun e w' => e = .returned (.int .i64 8) ∧ w = w' := by
  have hr := H.runs hi
  rw [hq] at hr
  clear H hq
  cases again
  all_goals
    go_enter Try.func9, Try.ntmps9
    go_wp2_with fail; refine (at_ok w b i hi).mono ?_; rintro e w0 ⟨rfl, rfl⟩
    go_wp2_with fail
    go_ret
    exact ⟨rfl, rfl⟩
theorem began_no (w : World) (b : Nat) (th : Int) (hn : ¬ okTh th) (again : Bool) :
    Calls Try.prog 9 #[ptr b, .int .i64 th, .bool again] w fun e w' => e = .returned (.int .i64 2) ∧ w = w' := by
  go_enter Try.func9, Try.ntmps9
  go_wp2_with fail; refine (at_no w b th hn).mono ?_; rintro e w0 ⟨rfl, rfl⟩
  go_wp2_with fail
  go_ret
  exact ⟨rfl, rfl⟩
theorem began_nil (w : World) (th : Int) (again : Bool) :
    Calls Try.prog 9 #[.pointer none, .int .i64 th, .bool again] w fun e w' => e = .returned (.int .i64 1) ∧ w = w' := by
  go_enter Try.func9, Try.ntmps9
  go_wp2_with fail; refine (at_nil w th).mono ?_; rintro e w0 ⟨rfl, rfl⟩
  go_wp2_with fail
  go_ret
  exact ⟨rfl, rfl⟩
theorem began_any (w : World) (b : Nat) (h : Value) (s : MSt) (H : MAt 58 w b h s) (th : Int) (again : Bool) (hl : 0 ≤ s.last ∧ s.last ≤ 1000000) :
    Calls Try.prog 9 #[ptr b, .int .i64 th, .bool again] w fun e w' => e = .returned (.int .i64 (s.beganE th again)) ∧ Only (fun k => k = b) w w' ∧ MAt 58 w' b h (s.beganS th again) := by
  by_cases hk : okTh th
  · obtain ⟨i, hi, rfl⟩ := okTh_nat hk
    have h1 : s.beganE i again = if (s.T i).runs = again then 0 else 8 := by rw [MSt.beganE, if_pos hk]; rfl
    by_cases hq : (s.T i).runs = again
    · rw [if_pos hq] at h1
      rw [MSt.beganS, if_pos h1, h1]
      cases again
      · exact began_new w b h s H i hi hl hq
      · exact began_again w b h s H i hi hq
    · rw [if_neg hq] at h1
      rw [MSt.beganS, h1, if_neg (by decide)]
      refine (began_bad w b h s H i hi again (by revert hq; cases (s.T i).runs <;> cases again <;> simp)).mono ?_
      rintro e w' ⟨rfl, rfl⟩
      exact ⟨rfl, Only.refl _ _, H⟩
  · have h1 : s.beganE th again = 2 := by rw [MSt.beganE, if_neg hk]
    rw [MSt.beganS, h1, if_neg (by decide)]
    refine (began_no w b th hk again).mono ?_
    rintro e w' ⟨rfl, rfl⟩
    exact ⟨rfl, Only.refl _ _, H⟩

/-! ### Opened, Passed, Ended -/
theorem errRun_ok {s : MSt} {i : Nat} (hi : i < 4) : s.errRun i = if (s.T i).runs then 0 else 8 := by rw [MSt.errRun, if_pos (okTh_lt hi)]; rfl
theorem errRun_no {s : MSt} {th : Int} (h : ¬ okTh th) : s.errRun th = 2 := by rw [MSt.errRun, if_neg h]
theorem opened_any (w : World) (b : Nat) (h : Value) (s : MSt) (H : MAt 58 w b h s) (th : Int) (hm : ∀ i, 0 ≤ (s.T i).merit ∧ (s.T i).merit ≤ 1000) :
    Calls Try.prog 10 #[ptr b, .int .i64 th] w fun e w' => e = .returned (.int .i64 (s.errRun th)) ∧ Only (fun k => k = b) w w' ∧ MAt 58 w' b h (s.openedS th) := by
  by_cases hk : okTh th
  · obtain ⟨i, hi, rfl⟩ := okTh_nat hk
    have h1 := errRun_ok (s := s) hi
    have HR := running_ok w b h s H i hi
    cases hq : (s.T i).runs
    · rw [hq] at h1 HR
      have h2 : s.errRun i = 8 := h1
      rw [MSt.openedS, h2, if_neg (by decide)]
      have HM := Lib.hid H
      clear h1 h2 hq H hk
      go_enter Try.func10, Try.ntmps10
      go_wp2_with fail; refine (HR).mono ?_; rintro e w0 ⟨rfl, rfl⟩
      go_wp2_with fail
      go_ret
      exact ⟨rfl, Only.refl _ _, HM.out⟩
    · rw [hq] at h1 HR
      have h2 : s.errRun i = 0 := h1
      rw [MSt.openedS, h2, if_pos rfl]
      have HM := Lib.hid H
      have hfr := H.free
      have c3 := H.merit hi
      have hb := hm i
      have hw : IntKind.i64.wrap ((s.T i).merit + 1) = (s.T i).merit + 1 := by rw [IntKind.wrap_i64]; omega
      have hfin := H.setMerit hi (min ((s.T i).merit + 1) 1000)
      have HF := Lib.hid hfin
      clear h1 h2 hq H hk hm hb hfin
      go_enter Try.func10, Try.ntmps10
      go_wp2_with fail; refine (HR).mono ?_; rintro e w0 ⟨rfl, rfl⟩
      go_wp2_with fail
      all_goals
        go_ret
        refine ⟨rfl, ?_, ?_⟩
        · repeat (first | (with_reducible exact Only.refl _ _) | (with_reducible apply Only.drew) | (with_reducible apply Only.drewN) | (with_reducible apply Only.alloc) | (with_reducible refine only_set' ?_ ?_ _; (focus ((try simp) <;> omega))))
        · have h1 := HF.out
          first
            | (rw [show min ((s.T i).merit + 1) 1000 = 1000 by omega] at h1 ⊢; exact h1)
            | (rw [show min ((s.T i).merit + 1) 1000 = (s.T i).merit + 1 by omega] at h1 ⊢; exact h1)
  · have h1 := errRun_no (s := s) hk
    rw [MSt.openedS, h1, if_neg (by decide)]
    have HM := Lib.hid H
    clear h1 H
    go_enter Try.func10, Try.ntmps10
    go_wp2_with fail; refine (running_no w b th hk).mono ?_; rintro e w0 ⟨rfl, rfl⟩
    go_wp2_with fail
    go_ret
    exact ⟨rfl, Only.refl _ _, HM.out⟩
theorem passed_any (w : World) (b : Nat) (h : Value) (s : MSt) (H : MAt 58 w b h s) (th : Int) :
    Calls Try.prog 13 #[ptr b, .int .i64 th] w fun e w' => e = .returned (.int .i64 (s.errRun th)) ∧ Only (fun k => k = b) w w' ∧ MAt 58 w' b h (s.passedS th) := by
  by_cases hk : okTh th
  · obtain ⟨i, hi, rfl⟩ := okTh_nat hk
    have h1 := errRun_ok (s := s) hi
    have HR := running_ok w b h s H i hi
    cases hq : (s.T i).runs
    · rw [hq] at h1 HR
      have h2 : s.errRun i = 8 := h1
      rw [MSt.passedS, h2, if_neg (by decide)]
      have HM := Lib.hid H
      clear h1 h2 hq H hk
      go_enter Try.func13, Try.ntmps13
      go_wp2_with fail; refine (HR).mono ?_; rintro e w0 ⟨rfl, rfl⟩
      go_wp2_with fail
      go_ret
      exact ⟨rfl, Only.refl _ _, HM.out⟩
    · rw [hq] at h1 HR
      have h2 : s.errRun i = 0 := h1
      rw [MSt.passedS, h2, if_pos rfl]
      have HM := Lib.hid H
      have hfr := H.free
      have c1 := H.waits hi; have c2 := H.tries hi
      have hfin := (H.setTries hi 0).setWaits hi false
      simp only [upd_upd, upd_same] at hfin
      have HF := Lib.hid hfin
      clear h1 h2 hq H hk hfin
      go_enter Try.func13, Try.ntmps13
      go_wp2_with fail; refine (HR).mono ?_; rintro e w0 ⟨rfl, rfl⟩
      go_wp2_with fail
      go_ret
      refine ⟨rfl, ?_, ?_⟩
      · repeat (first | (with_reducible exact Only.refl _ _) | (with_reducible apply Only.drew) | (with_reducible apply Only.drewN) | (with_reducible apply Only.alloc) | (with_reducible refine only_set' ?_ ?_ _; (focus ((try simp) <;> omega))))
      · exact HF.out
  · have h1 := errRun_no (s := s) hk
    rw [MSt.passedS, h1, if_neg (by decide)]
    have HM := Lib.hid H
    clear h1 H
    go_enter Try.func13, Try.ntmps13
    go_wp2_with fail; refine (running_no w b th hk).mono ?_; rintro e w0 ⟨rfl, rfl⟩
    go_wp2_with fail
    go_ret
    exact ⟨rfl, Only.refl _ _, HM.out⟩
theorem ended_any (w : World) (b : Nat) (h : Value) (s : MSt) (H : MAt 58 w b h s) (th : Int) :
    Calls Try.prog 21 #[ptr b, .int .i64 th] w fun e w' => e = .returned (.int .i64 (s.errRun th)) ∧ Only (fun k => k = b) w w' ∧ MAt 58 w' b h (s.endedS th) := by
  by_cases hk : okTh th
  · obtain ⟨i, hi, rfl⟩ := okTh_nat hk
    have h1 := errRun_ok (s := s) hi
    have HR := running_ok w b h s H i hi
    cases hq : (s.T i).runs
    · rw [hq] at h1 HR
      have h2 : s.errRun i = 8 := h1
      rw [MSt.endedS, h2, if_neg (by decide)]
      have HM := Lib.hid H
      clear h1 h2 hq H hk
      go_enter Try.func21, Try.ntmps21
      go_wp2_with fail; refine (HR).mono ?_; rintro e w0 ⟨rfl, rfl⟩
      go_wp2_with fail
      go_ret
      exact ⟨rfl, Only.refl _ _, HM.out⟩
    · rw [hq] at h1 HR
      have h2 : s.errRun i = 0 := h1
      rw [MSt.endedS, h2, if_pos rfl]
      have HM := Lib.hid H
      have hfr := H.free
      have c0 := H.runs hi; have c1 := H.waits hi; have c2 := H.tries hi; have c3 := H.merit hi; have c4 := H.stamp hi
      have hfin := ((((H.setRuns hi false).setWaits hi false).setTries hi 0).setMerit hi 0).setStamp hi 0
      simp only [upd_upd, upd_same] at hfin
      have HF := Lib.hid hfin
      clear h1 h2 hq H hk hfin
      go_enter Try.func21, Try.ntmps21
      go_wp2_with fail; refine (HR).mono ?_; rintro e w0 ⟨rfl, rfl⟩
      go_wp2_with fail
      go_ret
      refine ⟨rfl, ?_, ?_⟩
      · repeat (first | (with_reducible exact Only.refl _ _) | (with_reducible apply Only.drew) | (with_reducible apply Only.drewN) | (with_reducible apply Only.alloc) | (with_reducible refine only_set' ?_ ?_ _; (focus ((try simp) <;> omega))))
      · exact HF.out
  · have h1 := errRun_no (s := s) hk
    rw [MSt.endedS, h1, if_neg (by decide)]
    have HM := Lib.hid H
    clear h1 H
    go_enter Try.func21, Try.ntmps21
    go_wp2_with fail; refine (running_no w b th hk).mono ?_; rintro e w0 ⟨rfl, rfl⟩
    go_wp2_with fail
    go_ret
    exact ⟨rfl, Only.refl _ _, HM.out⟩
theorem opened_nil (w : World) (th : Int) : Calls Try.prog 10 #[.pointer none, .int .i64 th] w fun e w' => e = .returned (.int .i64 1) ∧ w = w' := by
  go_enter Try.func10, Try.ntmps10
  go_wp2_with fail; refine (running_nil w th).mono ?_; rintro e w0 ⟨rfl, rfl⟩
  go_wp2_with fail
  go_ret
  exact ⟨rfl, rfl⟩
theorem passed_nil (w : World) (th : Int) : Calls Try.prog 13 #[.pointer none, .int .i64 th] w fun e w' => e = .returned (.int .i64 1) ∧ w = w' := by
  go_enter Try.func13, Try.ntmps13
  go_wp2_with fail; refine (running_nil w th).mono ?_; rintro e w0 ⟨rfl, rfl⟩
  go_wp2_with fail
  go_ret
  exact ⟨rfl, rfl⟩
theorem ended_nil (w : World) (th : Int) : Calls Try.prog 21 #[.pointer none, .int .i64 th] w fun e w' => e = .returned (.int .i64 1) ∧ w = w' := by
  go_enter Try.func21, Try.ntmps21
  go_wp2_with fail; refine (running_nil w th).mono ?_; rintro e w0 ⟨rfl, rfl⟩
  go_wp2_with fail
  go_ret
  exact ⟨rfl, rfl⟩

/-! ### known -/
def Th.val (t : Th) : Value := .agg #[.bool t.runs, .bool t.waits, .int .i64 t.tries, .int .i64 t.merit, .int .i64 t.stamp]
theorem known_any (w : World) (b : Nat) (h : Value) (s : MSt) (H : MAt 58 w b h s) (th : Int) :
    Calls Try.prog 25 #[ptr b, .int .i64 th] w fun e w' => e = .returned (s.at th).val ∧ Below w.heap.size w w' := by
  have hlt := H.lt
  have l0 : Below w.heap.size w (w.alloc (.cells #[.bool false, .bool false, .int .i64 0, .int .i64 0, .int .i64 0] 55)) := by repeat (first | (with_reducible exact Below.refl _ _) | (with_reducible apply Below.drew) | (with_reducible refine below_drewN ?_ _) | (with_reducible refine below_alloc' ?_ ?_ _; (focus ((try simp) <;> omega))) | (with_reducible refine below_set' ?_ ?_ _; (focus ((try simp) <;> omega))))
  have hx := blk_new w (.cells #[.bool false, .bool false, .int .i64 0, .int .i64 0, .int .i64 0] 55)
  by_cases hk : okTh th
  · obtain ⟨i, hi, rfl⟩ := okTh_nat hk
    have h1 : s.at i = s.T i := by rw [MSt.at, if_pos hk]; rfl
    rw [h1]
    have HH := H.below l0
    have c0 := HH.runs hi; have c1 := HH.waits hi; have c2 := HH.tries hi; have c3 := HH.merit hi; have c4 := HH.stamp hi
    have r0 := blk_cell hx 0; have r1 := blk_cell hx 1; have r2 := blk_cell hx 2; have r3 := blk_cell hx 3; have r4 := blk_cell hx 4
    have rf := blk_free hx
    simp only [List.getElem?_toArray, List.getElem?_cons_zero, List.getElem?_cons_succ] at r0 r1 r2 r3 r4
    have L0 := Lib.hid l0
    clear h1 HH H hx l0 hk
    go_enter Try.func25, Try.ntmps25
    go_wp2_with fail
    generalize w.alloc (.cells #[.bool false, .bool false, .int .i64 0, .int .i64 0, .int .i64 0] 55) = w0 at *
    go_wp2_with fail; refine (at_ok _ b i hi).mono ?_; rintro e w0 ⟨rfl, rfl⟩
    go_wp2_with fail
    refine bodyPost_ret (v := .agg #[.bool (s.T i).runs, .bool (s.T i).waits, .int .i64 (s.T i).tries, .int .i64 (s.T i).merit, .int .i64 (s.T i).stamp]) ?_ rfl ?_; (focus (simp [results, Try.results25, go_sem, r0, r1, r2, r3, r4]; done))
    refine ⟨rfl, ?_⟩
    repeat (first | (with_reducible exact L0.out) | (with_reducible refine below_set' ?_ ?_ _; (focus ((try simp) <;> omega))))
  · have h1 : s.at th = .zero := by rw [MSt.at, if_neg hk]
    rw [h1]
    have r0 := blk_cell hx 0; have r1 := blk_cell hx 1; have r2 := blk_cell hx 2; have r3 := blk_cell hx 3; have r4 := blk_cell hx 4
    have rf := blk_free hx
    simp only [List.getElem?_toArray, List.getElem?_cons_zero, List.getElem?_cons_succ] at r0 r1 r2 r3 r4
    have L0 := Lib.hid l0
    clear h1 H hx l0
    go_enter Try.func25, Try.ntmps25
    go_wp2_with fail
    generalize w.alloc (.cells #[.bool false, .bool false, .int .i64 0, .int .i64 0, .int .i64 0] 55) = w0 at *
    go_wp2_with fail; refine (at_no _ b th hk).mono ?_; rintro e w0 ⟨rfl, rfl⟩
    go_wp2_with fail
    refine bodyPost_ret (v := .agg #[.bool false, .bool false, .int .i64 0, .int .i64 0, .int .i64 0]) ?_ rfl ?_; (focus (simp [results, Try.results25, go_sem, r0, r1, r2, r3, r4]; done))
    refine ⟨rfl, ?_⟩
    repeat (first | (with_reducible exact L0.out) | (with_reducible refine below_set' ?_ ?_ _; (focus ((try simp) <;> omega))))
theorem known_nil (w : World) (th : Int) : Calls Try.prog 25 #[.pointer none, .int .i64 th] w fun e w' => e = .returned Th.zero.val ∧ Below w.heap.size w w' := by
  have l0 : Below w.heap.size w (w.alloc (.cells #[.bool false, .bool false, .int .i64 0, .int .i64 0, .int .i64 0] 55)) := by repeat (first | (with_reducible exact Below.refl _ _) | (with_reducible apply Below.drew) | (with_reducible refine below_drewN ?_ _) | (with_reducible refine below_alloc' ?_ ?_ _; (focus ((try simp) <;> omega))) | (with_reducible refine below_set' ?_ ?_ _; (focus ((try simp) <;> omega))))
  have hx := blk_new w (.cells #[.bool false, .bool false, .int .i64 0, .int .i64 0, .int .i64 0] 55)
  have r0 := blk_cell hx 0; have r1 := blk_cell hx 1; have r2 := blk_cell hx 2; have r3 := blk_cell hx 3; have r4 := blk_cell hx 4
  have rf := blk_free hx
  simp only [List.getElem?_toArray, List.getElem?_cons_zero, List.getElem?_cons_succ] at r0 r1 r2 r3 r4
  have L0 := Lib.hid l0
  clear hx l0
  go_enter Try.func25, Try.ntmps25
  go_wp2_with fail
  generalize w.alloc (.cells #[.bool false, .bool false, .int .i64 0, .int .i64 0, .int .i64 0] 55) = w0 at *
  go_wp2_with fail; refine (at_nil _ th).mono ?_; rintro e w0 ⟨rfl, rfl⟩
  go_wp2_with fail
  refine bodyPost_ret (v := .agg #[.bool false, .bool false, .int .i64 0, .int .i64 0, .int .i64 0]) ?_ rfl ?_; (focus (simp [results, Try.results25, go_sem, r0, r1, r2, r3, r4]; done))
  refine ⟨rfl, ?_⟩
  repeat (first | (with_reducible exact L0.out) | (with_reducible refine below_set' ?_ ?_ _; (focus ((try simp) <;> omega))))
theorem tries_any (w : World) (b : Nat) (h : Value) (s : MSt) (H : MAt 58 w b h s) (th : Int) :
    Calls Try.prog 14 #[ptr b, .int .i64 th] w fun e w' => e = .returned (.int .i64 (s.at th).tries) ∧ Below w.heap.size w w' := by
  have HR := known_any w b h s H th
  unfold Th.val at HR
  have hfd : ∀ W : World, (Instr.field 55 (.agg #[.bool (s.at th).runs, .bool (s.at th).waits, .int .i64 (s.at th).tries, .int .i64 (s.at th).merit, .int .i64 (s.at th).stamp]) 2).run Try.prog W = .ok (.int .i64 (s.at th).tries) W := fun _ => by kernel_rfl
  have HM := Lib.hid H
  clear H
  go_enter Try.func14, Try.ntmps14
  go_wp2_with fail
  refine HR.mono ?_
  rintro e w1 ⟨rfl, l1⟩
  have L1 := Lib.hid l1; clear l1
  go_wp2_with fail
  go_ret
  exact ⟨rfl, L1.out⟩
theorem tries_nil (w : World) (th : Int) :
    Calls Try.prog 14 #[.pointer none, .int .i64 th] w fun e w' => e = .returned (.int .i64 0) ∧ Below w.heap.size w w' := by
  have HR := known_nil w th
  unfold Th.val Th.zero at HR
  have hfd : ∀ W : World, (Instr.field 55 (.agg #[.bool false, .bool false, .int .i64 0, .int .i64 0, .int .i64 0]) 2).run Try.prog W = .ok (.int .i64 0) W := fun _ => by kernel_rfl
  go_enter Try.func14, Try.ntmps14
  go_wp2_with fail
  refine HR.mono ?_
  rintro e w1 ⟨rfl, l1⟩
  have L1 := Lib.hid l1; clear l1
  go_wp2_with fail
  go_ret
  exact ⟨rfl, L1.out⟩
theorem merit_any (w : World) (b : Nat) (h : Value) (s : MSt) (H : MAt 58 w b h s) (th : Int) :
    Calls Try.prog 17 #[ptr b, .int .i64 th] w fun e w' => e = .returned (.int .i64 (s.at th).merit) ∧ Below w.heap.size w w' := by
  have HR := known_any w b h s H th
  unfold Th.val at HR
  have hfd : ∀ W : World, (Instr.field 55 (.agg #[.bool (s.at th).runs, .bool (s.at th).waits, .int .i64 (s.at th).tries, .int .i64 (s.at th).merit, .int .i64 (s.at th).stamp]) 3).run Try.prog W = .ok (.int .i64 (s.at th).merit) W := fun _ => by kernel_rfl
  have HM := Lib.hid H
  clear H
  go_enter Try.func17, Try.ntmps17
  go_wp2_with fail
  refine HR.mono ?_
  rintro e w1 ⟨rfl, l1⟩
  have L1 := Lib.hid l1; clear l1
  go_wp2_with fail
  go_ret
  exact ⟨rfl, L1.out⟩
theorem merit_nil (w : World) (th : Int) :
    Calls Try.prog 17 #[.pointer none, .int .i64 th] w fun e w' => e = .returned (.int .i64 0) ∧ Below w.heap.size w w' := by
  have HR := known_nil w th
  unfold Th.val Th.zero at HR
  have hfd : ∀ W : World, (Instr.field 55 (.agg #[.bool false, .bool false, .int .i64 0, .int .i64 0, .int .i64 0]) 3).run Try.prog W = .ok (.int .i64 0) W := fun _ => by kernel_rfl
  go_enter Try.func17, Try.ntmps17
  go_wp2_with fail
  refine HR.mono ?_
  rintro e w1 ⟨rfl, l1⟩
  have L1 := Lib.hid l1; clear l1
  go_wp2_with fail
  go_ret
  exact ⟨rfl, L1.out⟩
theorem stamp_any (w : World) (b : Nat) (h : Value) (s : MSt) (H : MAt 58 w b h s) (th : Int) :
    Calls Try.prog 16 #[ptr b, .int .i64 th] w fun e w' => e = .returned (.int .i64 (s.at th).stamp) ∧ Below w.heap.size w w' := by
  have HR := known_any w b h s H th
  unfold Th.val at HR
  have hfd : ∀ W : World, (Instr.field 55 (.agg #[.bool (s.at th).runs, .bool (s.at th).waits, .int .i64 (s.at th).tries, .int .i64 (s.at th).merit, .int .i64 (s.at th).stamp]) 4).run Try.prog W = .ok (.int .i64 (s.at th).stamp) W := fun _ => by kernel_rfl
  have HM := Lib.hid H
  clear H
  go_enter Try.func16, Try.ntmps16
  go_wp2_with fail
  refine HR.mono ?_
  rintro e w1 ⟨rfl, l1⟩
  have L1 := Lib.hid l1; clear l1
  go_wp2_with fail
  go_ret
  exact ⟨rfl, L1.out⟩
theorem stamp_nil (w : World) (th : Int) :
    Calls Try.prog 16 #[.pointer none, .int .i64 th] w fun e w' => e = .returned (.int .i64 0) ∧ Below w.heap.size w w' := by
  have HR := known_nil w th
  unfold Th.val Th.zero at HR
  have hfd : ∀ W : World, (Instr.field 55 (.agg #[.bool false, .bool false, .int .i64 0, .int .i64 0, .int .i64 0]) 4).run Try.prog W = .ok (.int .i64 0) W := fun _ => by kernel_rfl
  go_enter Try.func16, Try.ntmps16
  go_wp2_with fail
  refine HR.mono ?_
  rintro e w1 ⟨rfl, l1⟩
  have L1 := Lib.hid l1; clear l1
  go_wp2_with fail
  go_ret
  exact ⟨rfl, L1.out⟩
theorem waiting_any (w : World) (b : Nat) (h : Value) (s : MSt) (H : MAt 58 w b h s) (th : Int) :
    Calls Try.prog 18 #[ptr b, .int .i64 th] w fun e w' => e = .returned (.bool (s.at th).waits) ∧ Below w.heap.size w w' := by
  have HR := known_any w b h s H th
  unfold Th.val at HR
  have hfd : ∀ W : World, (Instr.field 55 (.agg #[.bool (s.at th).runs, .bool (s.at th).waits, .int .i64 (s.at th).tries, .int .i64 (s.at th).merit, .int .i64 (s.at th).stamp]) 1).run Try.prog W = .ok (.bool (s.at th).waits) W := fun _ => by kernel_rfl
  have HM := Lib.hid H
  clear H
  go_enter Try.func18, Try.ntmps18
  go_wp2_with fail
  refine HR.mono ?_
  rintro e w1 ⟨rfl, l1⟩
  have L1 := Lib.hid l1; clear l1
  go_wp2_with fail
  go_ret
  exact ⟨rfl, L1.out⟩
theorem waiting_nil (w : World) (th : Int) :
    Calls Try.prog 18 #[.pointer none, .int .i64 th] w fun e w' => e = .returned (.bool false) ∧ Below w.heap.size w w' := by
  have HR := known_nil w th
  unfold Th.val Th.zero at HR
  have hfd : ∀ W : World, (Instr.field 55 (.agg #[.bool false, .bool false, .int .i64 0, .int .i64 0, .int .i64 0]) 1).run Try.prog W = .ok (.bool false) W := fun _ => by kernel_rfl
  go_enter Try.func18, Try.ntmps18
  go_wp2_with fail
  refine HR.mono ?_
  rintro e w1 ⟨rfl, l1⟩
  have L1 := Lib.hid l1; clear l1
  go_wp2_with fail
  go_ret
  exact ⟨rfl, L1.out⟩
end Go.Proofs.Ytphnogbkiemoeaa.Man
