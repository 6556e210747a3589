/- The other side's manager. -/
import Derived.Test.YtphnogbkiemoeaaManB
import Derived.Deep.RegionLaw
namespace Go.Proofs.Ytphnogbkiemoeaa.Man
open Go.RowKit
set_option linter.unusedSimpArgs false
set_option linter.unusedVariables false

theorem MAt.drew {t : TypeId} {w : World} {b : Nat} {h : Value} {s : MSt} (H : MAt t w b h s) : MAt t w.drew b h s := H
theorem opened_lt {s : MSt} {i : Nat} (hi : i < 4) (hr : (s.T i).runs = true) (hm : (s.T i).merit < 1000) : s.openedS i = ⟨upd s.T i { s.T i with merit := (s.T i).merit + 1 }, s.last⟩ := by
  rw [MSt.openedS, if_pos (by rw [errRun_ok hi, hr]; rfl)]
  show (⟨upd s.T i { s.T i with merit := min ((s.T i).merit + 1) 1000 }, s.last⟩ : MSt) = _
  rw [show min ((s.T i).merit + 1) 1000 = (s.T i).merit + 1 by omega]
theorem opened_ge {s : MSt} {i : Nat} (hi : i < 4) (hr : (s.T i).runs = true) (hm : (s.T i).merit = 1000) : s.openedS i = s := by
  rw [MSt.openedS, if_pos (by rw [errRun_ok hi, hr]; rfl)]
  show (⟨upd s.T i { s.T i with merit := min ((s.T i).merit + 1) 1000 }, s.last⟩ : MSt) = _
  rw [show min ((s.T i).merit + 1) 1000 = (s.T i).merit by omega]
  show (⟨upd s.T i (s.T i), s.last⟩ : MSt) = _
  rw [upd_self]
theorem may_ok (w : World) (b i : Nat) (hi : i < 4) : Calls Try.prog 36 #[ptr b, .int .i64 i] w fun e w' => e = .returned (.int .i64 0) ∧ w = w' := by
  have h0 : decide ((i : Int) < 0) = false := by simp
  have h1 : decide ((4 : Int) ≤ i) = false := by simp; omega
  have h2 : (i : Int) < 4 := by omega
  go_enter Try.func36, Try.ntmps36
  go_wp2
  go_ret
  exact ⟨rfl, rfl⟩
theorem may_no (w : World) (b : Nat) (th : Int) (hn : ¬ okTh th) : Calls Try.prog 36 #[ptr b, .int .i64 th] w fun e w' => e = .returned (.int .i64 2) ∧ w = w' := by
  by_cases h : th < 0
  · have h0 : decide (th < 0) = true := by simpa using h
    go_enter Try.func36, Try.ntmps36
    go_wp2
    go_ret
    exact ⟨rfl, rfl⟩
  · have h0 : decide (th < 0) = false := by simpa using h
    have h1 : decide (4 ≤ th) = true := by simp; unfold okTh at hn; omega
    go_enter Try.func36, Try.ntmps36
    go_wp2
    go_ret
    exact ⟨rfl, rfl⟩
theorem rruns_ok (w : World) (b : Nat) (h : Value) (s : MSt) (H : MAt 74 w b h s) (i : Nat) (hi : i < 4) :
    Calls Try.prog 37 #[ptr b, .int .i64 i] w fun e w' => e = .returned (.int .i64 (if (s.T i).runs then 0 else 8)) ∧ w = w' := by
  have h0 : decide ((i : Int) < 0) = false := by simp
  have h1 : decide ((4 : Int) ≤ i) = false := by simp; omega
  have h2 : (i : Int) < 4 := by omega
  have hr := H.runs hi
  cases hq : (s.T i).runs <;> rw [hq] at hr <;> clear hq H
  all_goals
    go_enter Try.func37, Try.ntmps37
    go_wp2_with fail; refine (may_ok w b i hi).mono ?_; rintro e w0 ⟨rfl, rfl⟩
    go_wp2_with fail
    go_ret
    exact ⟨rfl, rfl⟩
theorem rruns_no (w : World) (b : Nat) (th : Int) (hn : ¬ okTh th) : Calls Try.prog 37 #[ptr b, .int .i64 th] w fun e w' => e = .returned (.int .i64 2) ∧ w = w' := by
  go_enter Try.func37, Try.ntmps37
  go_wp2_with fail; refine (may_no w b th hn).mono ?_; rintro e w0 ⟨rfl, rfl⟩
  go_wp2_with fail
  go_ret
  exact ⟨rfl, rfl⟩
theorem rnew_ok (w : World) (k : Nat) (hk : k = 1 ∨ k = 2 ∨ k = 3) : Calls Try.prog 27 #[.int .u8 k] w fun e w' => e = .returned (ptr w.heap.size) ∧ MAt 74 w' w.heap.size (.int .u8 k) .new ∧ Below w.heap.size w w' := by
  rcases hk with rfl | rfl | rfl
  all_goals
    go_enter Try.func27, Try.ntmps27
    go_wp2
    go_ret
    exact ⟨rfl, by unfold MAt; simp [↓heap_alloc_eq, ↓heap_set_eq, ↓heap_drew_eq, ↓heap_drewN_eq, setObj, size_drewN]; rfl, by repeat (first | (with_reducible exact Below.refl _ _) | (with_reducible apply Below.drew) | (with_reducible refine below_drewN ?_ _) | (with_reducible refine below_alloc' ?_ ?_ _; (focus ((try simp) <;> omega))) | (with_reducible refine below_set' ?_ ?_ _; (focus ((try simp) <;> omega))))⟩
theorem rbegan_new (w : World) (b : Nat) (h : Value) (s : MSt) (H : MAt 74 w b h s) (i : Nat) (hi : i < 4) (hl : 0 ≤ s.last ∧ s.last ≤ 1000000) (hq : (s.T i).runs = false) :
    Calls Try.prog 31 #[ptr b, .int .i64 i, .bool false] w fun e w' => e = .returned (.int .i64 0) ∧ Only (fun k => k = b) w w' ∧ MAt 74 w' b h ⟨upd s.T i ⟨true, false, 0, 0, s.last + 1⟩, s.last + 1⟩ := by
  have h0 : decide ((i : Int) < 0) = false := by simp
  have h1 : decide ((4 : Int) ≤ i) = false := by simp; omega
  have h2 : (i : Int) < 4 := by omega
  have hr := H.runs hi
  rw [hq] at hr
  have hla := H.last
  have hfr := H.free
  have c1 := H.waits hi; have c2 := H.tries hi; have c3 := H.merit hi; have c4 := H.stamp hi
  have hw : IntKind.i64.wrap (s.last + 1) = s.last + 1 := by rw [IntKind.wrap_i64]; omega
  have HM := Lib.hid H
  clear H hq
  go_enter Try.func31, Try.ntmps31
  go_wp2_with fail; refine (may_ok w b i hi).mono ?_; rintro e w0 ⟨rfl, rfl⟩
  go_wp2_with fail
  go_region_law (fail)
  go_wp2_with fail
  go_region_law (fail)
  go_wp2_with fail
  go_ret
  refine ⟨rfl, ?_, ?_⟩
  · repeat (first | (with_reducible exact Only.refl _ _) | (with_reducible apply Only.drew) | (with_reducible apply Only.drewN) | (with_reducible apply Only.alloc) | (with_reducible refine only_set' ?_ ?_ _; (focus ((try simp) <;> omega))))
  · have h1 := (((((HM.out.setRuns hi true).setWaits hi false).setTries hi 0).setLast (s.last + 1)).setMerit hi 0).setStamp hi (s.last + 1)
    simp only [upd_upd, upd_same] at h1
    exact h1.drew.drew
theorem rbegan_again (w : World) (b : Nat) (h : Value) (s : MSt) (H : MAt 74 w b h s) (i : Nat) (hi : i < 4) (hq : (s.T i).runs = true) :
    Calls Try.prog 31 #[ptr b, .int .i64 i, .bool true] w fun e w' => e = .returned (.int .i64 0) ∧ Only (fun k => k = b) w w' ∧ MAt 74 w' b h ⟨upd s.T i { s.T i with waits := false, tries := 0 }, s.last⟩ := by
  have h0 : decide ((i : Int) < 0) = false := by simp
  have h1 : decide ((4 : Int) ≤ i) = false := by simp; omega
  have h2 : (i : Int) < 4 := by omega
  have hr := H.runs hi
  rw [hq] at hr
  have hfr := H.free
  have c1 := H.waits hi; have c2 := H.tries hi
  have hfin := ((H.setRuns hi true).setWaits hi false).setTries hi 0
  simp only [upd_upd, upd_same] at hfin
  have he : ({ s.T i with runs := true, waits := false, tries := 0 } : Th) = { s.T i with waits := false, tries := 0 } := by rw [← hq]
  have HF := Lib.hid (show MAt 74 _ b h ⟨upd s.T i { s.T i with waits := false, tries := 0 }, s.last⟩ from he ▸ hfin)
  clear H hfin he hq
  go_enter Try.func31, Try.ntmps31
  go_wp2_with fail; refine (may_ok w b i hi).mono ?_; rintro e w0 ⟨rfl, rfl⟩
  go_wp2_with fail
  go_region_law (fail)
  go_wp2_with fail
  go_ret
  refine ⟨rfl, ?_, HF.out.drew⟩
  repeat (first | (with_reducible exact Only.refl _ _) | (with_reducible apply Only.drew) | (with_reducible apply Only.drewN) | (with_reducible apply Only.alloc) | (with_reducible refine only_set' ?_ ?_ _; (focus ((try simp) <;> omega))))
theorem rbegan_bad (w : World) (b : Nat) (h : Value) (s : MSt) (H : MAt 74 w b h s) (i : Nat) (hi : i < 4) (again : Bool) (hq : (s.T i).runs = !again) :
    Calls Try.prog 31 #[ptr b, .int .i64 i, .bool again] w fun e w' => e = .returned (.int .i64 8) ∧ w = w' := by
  have h0 : decide ((i : Int) < 0) = false := by simp
  have h1 : decide ((4 : Int) ≤ i) = false := by simp; omega
  have h2 : (i : Int) < 4 := by omega
  have hr := H.runs hi
  rw [hq] at hr
  clear H hq
  cases again
  all_goals
    go_enter Try.func31, Try.ntmps31
    go_wp2_with fail; refine (may_ok w b i hi).mono ?_; rintro e w0 ⟨rfl, rfl⟩
    go_wp2_with fail
    go_ret
    exact ⟨rfl, rfl⟩
theorem rbegan_no (w : World) (b : Nat) (th : Int) (hn : ¬ okTh th) (again : Bool) :
    Calls Try.prog 31 #[ptr b, .int .i64 th, .bool again] w fun e w' => e = .returned (.int .i64 2) ∧ w = w' := by
  go_enter Try.func31, Try.ntmps31
  go_wp2_with fail; refine (may_no w b th hn).mono ?_; rintro e w0 ⟨rfl, rfl⟩
  go_wp2_with fail
  go_ret
  exact ⟨rfl, rfl⟩
theorem rbegan_any (w : World) (b : Nat) (h : Value) (s : MSt) (H : MAt 74 w b h s) (th : Int) (again : Bool) (hl : 0 ≤ s.last ∧ s.last ≤ 1000000) :
    Calls Try.prog 31 #[ptr b, .int .i64 th, .bool again] w fun e w' => e = .returned (.int .i64 (s.beganE th again)) ∧ Only (fun k => k = b) w w' ∧ MAt 74 w' b h (s.beganS th again) := by
  by_cases hk : okTh th
  · obtain ⟨i, hi, rfl⟩ := okTh_nat hk
    have h1 : s.beganE i again = if (s.T i).runs = again then 0 else 8 := by rw [MSt.beganE, if_pos hk]; rfl
    by_cases hq : (s.T i).runs = again
    · rw [if_pos hq] at h1
      rw [MSt.beganS, if_pos h1, h1]
      cases again
      · exact rbegan_new w b h s H i hi hl hq
      · exact rbegan_again w b h s H i hi hq
    · rw [if_neg hq] at h1
      rw [MSt.beganS, h1, if_neg (by decide)]
      refine (rbegan_bad w b h s H i hi again (by revert hq; cases (s.T i).runs <;> cases again <;> simp)).mono ?_
      rintro e w' ⟨rfl, rfl⟩
      exact ⟨rfl, Only.refl _ _, H⟩
  · have h1 : s.beganE th again = 2 := by rw [MSt.beganE, if_neg hk]
    rw [MSt.beganS, h1, if_neg (by decide)]
    refine (rbegan_no w b th hk again).mono ?_
    rintro e w' ⟨rfl, rfl⟩
    exact ⟨rfl, Only.refl _ _, H⟩
theorem ropened_any (w : World) (b : Nat) (h : Value) (s : MSt) (H : MAt 74 w b h s) (th : Int) (hm : ∀ i, 0 ≤ (s.T i).merit ∧ (s.T i).merit ≤ 1000) :
    Calls Try.prog 32 #[ptr b, .int .i64 th] w fun e w' => e = .returned (.int .i64 (s.errRun th)) ∧ Only (fun k => k = b) w w' ∧ MAt 74 w' b h (s.openedS th) := by
  by_cases hk : okTh th
  · obtain ⟨i, hi, rfl⟩ := okTh_nat hk
    have h1 := errRun_ok (s := s) hi
    have HR := rruns_ok w b h s H i hi
    have g0 : decide ((i : Int) < 0) = false := by simp
    have g1 : decide ((4 : Int) ≤ i) = false := by simp; omega
    have g2 : (i : Int) < 4 := by omega
    cases hq : (s.T i).runs
    · rw [hq] at h1 HR
      have h2 : s.errRun i = 8 := h1
      rw [MSt.openedS, h2, if_neg (by decide)]
      have HM := Lib.hid H
      clear h1 h2 hq H hk
      go_enter Try.func32, Try.ntmps32
      go_wp2_with fail; refine (HR).mono ?_; rintro e w0 ⟨rfl, rfl⟩
      go_wp2_with fail
      go_ret
      exact ⟨rfl, Only.refl _ _, HM.out⟩
    · rw [hq] at h1 HR
      have h2 : s.errRun i = 0 := h1
      rw [h2]
      have HM := Lib.hid H
      have hfr := H.free
      have c3 := H.merit hi
      have hb := hm i
      have hw : IntKind.i64.wrap ((s.T i).merit + 1) = (s.T i).merit + 1 := by rw [IntKind.wrap_i64]; omega
      by_cases hlt : (s.T i).merit < 1000
      · have hd : decide ((s.T i).merit < 1000) = true := by simpa using hlt
        have hfin := H.setMerit hi ((s.T i).merit + 1)
        rw [opened_lt hi hq hlt]
        have HF := Lib.hid hfin
        clear h1 h2 hq H hk hm hb hfin
        go_enter Try.func32, Try.ntmps32
        go_wp2_with fail; refine (HR).mono ?_; rintro e w0 ⟨rfl, rfl⟩
        go_wp2_with fail
        refine wp_region_tail 12 (by kernel_rfl) (by kernel_rfl) ?_; simp only [List.take_succ_cons, List.take_zero, List.drop_succ_cons, List.drop_zero]
        repeat (first | (with_reducible refine wpStill_skip ?_ ?_; (focus (simp [Region.wanted, yielded]; done)); simp only [Act.put, List.setIfInBounds_toArray, List.set_cons_succ, List.set_cons_zero]) | (with_reducible refine wpStill_step (fun KK hKK => ?_); go_simp; refine hKK _ ?_; clear hKK KK))
        with_reducible refine wpStill_nil ?_
        go_wp2_with fail
        go_ret
        refine ⟨rfl, ?_, ?_⟩
        · repeat (first | (with_reducible exact Only.refl _ _) | (with_reducible apply Only.drew) | (with_reducible apply Only.drewN) | (with_reducible apply Only.alloc) | (with_reducible refine only_set' ?_ ?_ _; (focus ((try simp) <;> omega))))
        · exact HF.out
      · have hd : decide ((s.T i).merit < 1000) = false := by simpa using hlt
        rw [opened_ge hi hq (by omega)]
        clear h1 h2 hq H hk hm hb
        go_enter Try.func32, Try.ntmps32
        go_wp2_with fail; refine (HR).mono ?_; rintro e w0 ⟨rfl, rfl⟩
        go_wp2_with fail
        go_ret
        exact ⟨rfl, Only.refl _ _, HM.out⟩
  · have h1 := errRun_no (s := s) hk
    rw [MSt.openedS, h1, if_neg (by decide)]
    have HM := Lib.hid H
    clear h1 H
    go_enter Try.func32, Try.ntmps32
    go_wp2_with fail; refine (rruns_no w b th hk).mono ?_; rintro e w0 ⟨rfl, rfl⟩
    go_wp2_with fail
    go_ret
    exact ⟨rfl, Only.refl _ _, HM.out⟩
theorem rpassed_any (w : World) (b : Nat) (h : Value) (s : MSt) (H : MAt 74 w b h s) (th : Int) :
    Calls Try.prog 34 #[ptr b, .int .i64 th] w fun e w' => e = .returned (.int .i64 (s.errRun th)) ∧ Only (fun k => k = b) w w' ∧ MAt 74 w' b h (s.passedS th) := by
  by_cases hk : okTh th
  · obtain ⟨i, hi, rfl⟩ := okTh_nat hk
    have h1 := errRun_ok (s := s) hi
    have HR := rruns_ok w b h s H i hi
    have g0 : decide ((i : Int) < 0) = false := by simp
    have g1 : decide ((4 : Int) ≤ i) = false := by simp; omega
    have g2 : (i : Int) < 4 := by omega
    cases hq : (s.T i).runs
    · rw [hq] at h1 HR
      have h2 : s.errRun i = 8 := h1
      rw [MSt.passedS, h2, if_neg (by decide)]
      have HM := Lib.hid H
      clear h1 h2 hq H hk
      go_enter Try.func34, Try.ntmps34
      go_wp2_with fail; refine (HR).mono ?_; rintro e w0 ⟨rfl, rfl⟩
      go_wp2_with fail
      go_ret
      exact ⟨rfl, Only.refl _ _, HM.out⟩
    · rw [hq] at h1 HR
      have h2 : s.errRun i = 0 := h1
      rw [MSt.passedS, h2, if_pos rfl]
      have HM := Lib.hid H
      have hfr := H.free
      have c1 := H.waits hi; have c2 := H.tries hi
      have hfin := (H.setTries hi 0).setWaits hi false
      simp only [upd_upd, upd_same] at hfin
      have HF := Lib.hid hfin
      clear h1 h2 hq H hk hfin
      go_enter Try.func34, Try.ntmps34
      go_wp2_with fail; refine (HR).mono ?_; rintro e w0 ⟨rfl, rfl⟩
      go_wp2_with fail
      go_region_law (fail)
      go_wp2_with fail
      go_ret
      refine ⟨rfl, ?_, ?_⟩
      · repeat (first | (with_reducible exact Only.refl _ _) | (with_reducible apply Only.drew) | (with_reducible apply Only.drewN) | (with_reducible apply Only.alloc) | (with_reducible refine only_set' ?_ ?_ _; (focus ((try simp) <;> omega))))
      · exact HF.out.drew
  · have h1 := errRun_no (s := s) hk
    rw [MSt.passedS, h1, if_neg (by decide)]
    have HM := Lib.hid H
    clear h1 H
    go_enter Try.func34, Try.ntmps34
    go_wp2_with fail; refine (rruns_no w b th hk).mono ?_; rintro e w0 ⟨rfl, rfl⟩
    go_wp2_with fail
    go_ret
    exact ⟨rfl, Only.refl _ _, HM.out⟩
theorem rended_any (w : World) (b : Nat) (h : Value) (s : MSt) (H : MAt 74 w b h s) (th : Int) :
    Calls Try.prog 35 #[ptr b, .int .i64 th] w fun e w' => e = .returned (.int .i64 (s.errRun th)) ∧ Only (fun k => k = b) w w' ∧ MAt 74 w' b h (s.endedS th) := by
  by_cases hk : okTh th
  · obtain ⟨i, hi, rfl⟩ := okTh_nat hk
    have h1 := errRun_ok (s := s) hi
    have HR := rruns_ok w b h s H i hi
    have g0 : decide ((i : Int) < 0) = false := by simp
    have g1 : decide ((4 : Int) ≤ i) = false := by simp; omega
    have g2 : (i : Int) < 4 := by omega
    cases hq : (s.T i).runs
    · rw [hq] at h1 HR
      have h2 : s.errRun i = 8 := h1
      rw [MSt.endedS, h2, if_neg (by decide)]
      have HM := Lib.hid H
      clear h1 h2 hq H hk
      go_enter Try.func35, Try.ntmps35
      go_wp2_with fail; refine (HR).mono ?_; rintro e w0 ⟨rfl, rfl⟩
      go_wp2_with fail
      go_ret
      exact ⟨rfl, Only.refl _ _, HM.out⟩
    · rw [hq] at h1 HR
      have h2 : s.errRun i = 0 := h1
      rw [MSt.endedS, h2, if_pos rfl]
      have HM := Lib.hid H
      have hfr := H.free
      have c0 := H.runs hi; have c1 := H.waits hi; have c2 := H.tries hi; have c3 := H.merit hi; have c4 := H.stamp hi
      have hfin := ((((H.setRuns hi false).setWaits hi false).setTries hi 0).setMerit hi 0).setStamp hi 0
      simp only [upd_upd, upd_same] at hfin
      have HF := Lib.hid hfin
      clear h1 h2 hq H hk hfin
      go_enter Try.func35, Try.ntmps35
      go_wp2_with fail; refine (HR).mono ?_; rintro e w0 ⟨rfl, rfl⟩
      go_wp2_with fail
      go_ret
      refine ⟨rfl, ?_, ?_⟩
      · repeat (first | (with_reducible exact Only.refl _ _) | (with_reducible apply Only.drew) | (with_reducible apply Only.drewN) | (with_reducible apply Only.alloc) | (with_reducible refine only_set' ?_ ?_ _; (focus ((try simp) <;> omega))))
      · exact HF.out
  · have h1 := errRun_no (s := s) hk
    rw [MSt.endedS, h1, if_neg (by decide)]
    have HM := Lib.hid H
    clear h1 H
    go_enter Try.func35, Try.ntmps35
    go_wp2_with fail; refine (rruns_no w b th hk).mono ?_; rintro e w0 ⟨rfl, rfl⟩
    go_wp2_with fail
    go_ret
    exact ⟨rfl, Only.refl _ _, HM.out⟩
theorem rchoose_no1 (w : World) (b : Nat) (th other : Int) (hn : ¬ okTh th) :
    Calls Try.prog 33 #[ptr b, .int .i64 th, .int .i64 other] w fun e w' => e = .returned (.tuple #[.int .u8 0, .int .i64 0, .int .i64 2]) ∧ w = w' := by
  go_enter Try.func33, Try.ntmps33
  go_wp2_with fail; refine (may_no w b th hn).mono ?_; rintro e w0 ⟨rfl, rfl⟩
  go_wp2_with fail
  go_ret3
  exact ⟨rfl, rfl⟩
theorem rchoose_no2 (w : World) (b : Nat) (i : Nat) (hi : i < 4) (other : Int) (hn : ¬ okTh other) :
    Calls Try.prog 33 #[ptr b, .int .i64 i, .int .i64 other] w fun e w' => e = .returned (.tuple #[.int .u8 0, .int .i64 0, .int .i64 2]) ∧ w = w' := by
  go_enter Try.func33, Try.ntmps33
  go_wp2_with fail; refine (may_ok w b i hi).mono ?_; rintro e w0 ⟨rfl, rfl⟩
  go_wp2_with fail; refine (may_no w b other hn).mono ?_; rintro e w0 ⟨rfl, rfl⟩
  go_wp2_with fail
  go_ret3
  exact ⟨rfl, rfl⟩
theorem rchoose_bad (w : World) (b : Nat) (h : Value) (s : MSt) (H : MAt 74 w b h s) (i j : Nat) (hi : i < 4) (hj : j < 4) (hE : i = j ∨ (s.T i).runs = false ∨ (s.T j).runs = false) :
    Calls Try.prog 33 #[ptr b, .int .i64 i, .int .i64 j] w fun e w' => e = .returned (.tuple #[.int .u8 0, .int .i64 0, .int .i64 8]) ∧ w = w' := by
  have ci := H.runs hi
  have cj := H.runs hj
  have g2 : (i : Int) < 4 := by omega
  have g3 : (j : Int) < 4 := by omega
  by_cases hij : i = j
  · subst hij
    clear hE H
    go_enter Try.func33, Try.ntmps33
    go_wp2_with fail; refine (may_ok w b i hi).mono ?_; rintro e w0 ⟨rfl, rfl⟩
    go_wp2_with fail; refine (may_ok w b i hi).mono ?_; rintro e w0 ⟨rfl, rfl⟩
    go_wp2_with fail
    go_ret3
    exact ⟨rfl, rfl⟩
  · have heq : ((i : Int) == j) = false := by simp; omega
    cases h1 : (s.T i).runs
    · rw [h1] at ci
      clear hE h1 hij H
      go_enter Try.func33, Try.ntmps33
      go_wp2_with fail; refine (may_ok w b i hi).mono ?_; rintro e w0 ⟨rfl, rfl⟩
      go_wp2_with fail; refine (may_ok w b j hj).mono ?_; rintro e w0 ⟨rfl, rfl⟩
      go_wp2_with fail
      go_ret3
      exact ⟨rfl, rfl⟩
    · have h2 : (s.T j).runs = false := by
        rcases hE with h | h | h
        · exact absurd h hij
        · rw [h1] at h; cases h
        · exact h
      rw [h1] at ci
      rw [h2] at cj
      clear hE h1 h2 hij H
      go_enter Try.func33, Try.ntmps33
      go_wp2_with fail; refine (may_ok w b i hi).mono ?_; rintro e w0 ⟨rfl, rfl⟩
      go_wp2_with fail; refine (may_ok w b j hj).mono ?_; rintro e w0 ⟨rfl, rfl⟩
      go_wp2_with fail
      go_ret3
      exact ⟨rfl, rfl⟩
def RChoosePost (k : Nat) (w : World) (b : Nat) (s : MSt) (i j : Nat) (e : Ending) (w' : World) : Prop :=
  e = .returned (.tuple #[.int .u8 (if killV k (s.T i) (s.T j) then 2 else 1), .int .i64 (if killV k (s.T i) (s.T j) then 0 else ticksV k (s.T i)), .int .i64 0]) ∧ Only (fun k => k = b) w w' ∧
      MAt 74 w' b (.int .u8 k) (if killV k (s.T i) (s.T j) then s else ⟨upd s.T i (waited k (s.T i)), s.last⟩)
theorem rchoose_k (w : World) (b : Nat) (s : MSt) (H : MAt 74 w b (.int .u8 2) s) (i j : Nat) (hi : i < 4) (hj : j < 4) (hij : i ≠ j) (h1 : (s.T i).runs = true) (h2 : (s.T j).runs = true)
    (ht : 0 ≤ (s.T i).tries ∧ (s.T i).tries ≤ 1000000) (hm : 0 ≤ (s.T i).merit ∧ (s.T i).merit ≤ 1000) :
    Calls Try.prog 33 #[ptr b, .int .i64 i, .int .i64 j] w (RChoosePost 2 w b s i j) := by
  have ci := H.runs hi
  have cj := H.runs hj
  have heq : ((i : Int) == j) = false := by simp; omega
  rw [h1] at ci; rw [h2] at cj
  have y1 := H.waits hj; have y2 := H.tries hj; have y3 := H.merit hj; have y4 := H.stamp hj
  have g2 : (i : Int) < 4 := by omega
  have g3 : (j : Int) < 4 := by omega
  have hlt := H.lt
  have HM := Lib.hid H
  have H2 := Lib.hid (show killV 2 (s.T i) (s.T j) = decide ((s.T j).merit < (s.T i).merit + (s.T i).tries) from rfl)
  have hw : IntKind.i64.wrap ((s.T i).tries + 1) = (s.T i).tries + 1 := by rw [IntKind.wrap_i64]; omega
  have hw2 : IntKind.i64.wrap ((s.T i).merit + (s.T i).tries) = (s.T i).merit + (s.T i).tries := by rw [IntKind.wrap_i64]; omega
  have HF := Lib.hid (show ∀ W : World, MAt 74 W b (.int .u8 2) s → MAt 74 (W.setCell ⟨b, 1 + i * 5 + 2, none⟩ (.int .i64 ((s.T i).tries + 1))) b (.int .u8 2) ⟨upd s.T i (waited 2 (s.T i)), s.last⟩ from fun W h => by
    have := h.setTries hi ((s.T i).tries + 1)
    rwa [show ({ s.T i with tries := (s.T i).tries + 1 } : Th) = waited 2 (s.T i) by simp [waited]] at this)
  unfold RChoosePost
  obtain ⟨kl, hkl⟩ : ∃ kl, killV 2 (s.T i) (s.T j) = kl := ⟨_, rfl⟩
  have HKK := Lib.hid (hkl.symm.trans (show killV 2 (s.T i) (s.T j) = decide ((s.T j).merit < (s.T i).merit + (s.T i).tries) from rfl))
  rw [hkl]
  clear hkl
  clear H
  go_enter Try.func33, Try.ntmps33
  go_wp2_with fail; refine (may_ok w b i hi).mono ?_; rintro e w0 ⟨rfl, rfl⟩
  go_wp2_with fail; refine (may_ok w b j hj).mono ?_; rintro e w0 ⟨rfl, rfl⟩
  go_wp2_with fail
  go_region_law (fail)
  all_goals
    go_upto_region 12 with (fail)
    refine (show ∀ (W1 : World), Below w.heap.size w W1 → W1.heap[w.heap.size]? = some (.cells #[.bool true, .bool (s.T j).waits, .int .i64 (s.T j).tries, .int .i64 (s.T j).merit, .int .i64 (s.T j).stamp] 71 (0, 0)) → Code.wp _ _ _ _ W1 from ?_) _ (by repeat (first | (with_reducible exact Below.refl _ _) | (with_reducible apply Below.drew) | (with_reducible refine below_drewN ?_ _) | (with_reducible refine below_alloc' ?_ ?_ _; (focus ((try simp) <;> omega))) | (with_reducible refine below_set' ?_ ?_ _; (focus ((try simp) <;> omega))))) (by simp [↓heap_alloc_eq, ↓heap_set_eq, ↓heap_drew_eq, ↓heap_drewN_eq, setObj, size_drewN])
    intro W1 l1 hy
    have HM1 := Lib.hid (HM.out.below l1)
    have hhd := HM1.out.head
    have O1 := Lib.hid (Only.of_below (S := fun k => k = b) l1 (fun k hk h => by omega))
    have z1 := blk_cell hy 1; have z3 := blk_cell hy 3; have z4 := blk_cell hy 4
    simp only [List.getElem?_toArray, List.getElem?_cons_zero, List.getElem?_cons_succ] at z1 z3 z4
    have d1 := HM1.out.waits hi; have d2 := HM1.out.tries hi; have d3 := HM1.out.merit hi; have d4 := HM1.out.stamp hi
    have df := HM1.out.free
    clear ci cj y1 y2 y3 y4 HM l1 hy heq
    cases kl
    · have hd : decide ((s.T j).merit < (s.T i).merit + (s.T i).tries) = false := HKK.out.symm
      go_wp2_with fail
      go_quiet (fail)
      go_wp2_with fail
      go_ret3
      refine ⟨rfl, ?_, HF.out _ (HM1.out.only ((Only.refl (fun _ => False) _).drewN _) (fun h => h))⟩
      repeat (first | (with_reducible exact O1.out) | (with_reducible apply Only.drew) | (with_reducible apply Only.drewN) | (with_reducible refine only_set' ?_ ?_ _; (focus ((try simp) <;> omega))))
    · have hd : decide ((s.T j).merit < (s.T i).merit + (s.T i).tries) = true := HKK.out.symm
      go_wp2_with fail
      go_quiet (fail)
      go_wp2_with fail
      go_ret3
      refine ⟨rfl, ?_, HM1.out.only ((Only.refl (fun _ => False) _).drewN _) (fun h => h)⟩
      repeat (first | (with_reducible exact O1.out) | (with_reducible apply Only.drew) | (with_reducible apply Only.drewN) | (with_reducible refine only_set' ?_ ?_ _; (focus ((try simp) <;> omega))))
theorem rchoose_p (w : World) (b : Nat) (s : MSt) (H : MAt 74 w b (.int .u8 1) s) (i j : Nat) (hi : i < 4) (hj : j < 4) (hij : i ≠ j) (h1 : (s.T i).runs = true) (h2 : (s.T j).runs = true)
    (ht : 0 ≤ (s.T i).tries ∧ (s.T i).tries ≤ 1000000) (hm : 0 ≤ (s.T i).merit ∧ (s.T i).merit ≤ 1000) :
    Calls Try.prog 33 #[ptr b, .int .i64 i, .int .i64 j] w (RChoosePost 1 w b s i j) := by
  have ci := H.runs hi
  have cj := H.runs hj
  have heq : ((i : Int) == j) = false := by simp; omega
  rw [h1] at ci; rw [h2] at cj
  have y1 := H.waits hj; have y2 := H.tries hj; have y3 := H.merit hj; have y4 := H.stamp hj
  have g2 : (i : Int) < 4 := by omega
  have g3 : (j : Int) < 4 := by omega
  have hlt := H.lt
  have HM := Lib.hid H
  have hw : IntKind.i64.wrap ((s.T i).tries + 1) = (s.T i).tries + 1 := by rw [IntKind.wrap_i64]; omega
  have HF := Lib.hid (show ∀ W : World, MAt 74 W b (.int .u8 1) s → MAt 74 (W.setCell ⟨b, 1 + i * 5 + 2, none⟩ (.int .i64 ((s.T i).tries + 1))) b (.int .u8 1) ⟨upd s.T i (waited 1 (s.T i)), s.last⟩ from fun W h => by
    have := h.setTries hi ((s.T i).tries + 1)
    rwa [show ({ s.T i with tries := (s.T i).tries + 1 } : Th) = waited 1 (s.T i) by simp [waited]] at this)
  unfold RChoosePost
  obtain ⟨kl, hkl⟩ : ∃ kl, killV 1 (s.T i) (s.T j) = kl := ⟨_, rfl⟩
  have HQK := Lib.hid (hkl.symm.trans (show killV 1 (s.T i) (s.T j) = decide (4 ≤ (s.T i).tries) from rfl))
  rw [hkl]
  clear hkl
  clear H
  go_enter Try.func33, Try.ntmps33
  go_wp2_with fail; refine (may_ok w b i hi).mono ?_; rintro e w0 ⟨rfl, rfl⟩
  go_wp2_with fail; refine (may_ok w b j hj).mono ?_; rintro e w0 ⟨rfl, rfl⟩
  go_wp2_with fail
  go_region_law (fail)
  all_goals
    go_upto_region 12 with (fail)
    refine (show ∀ (W1 : World), Below w.heap.size w W1 → W1.heap[w.heap.size]? = some (.cells #[.bool true, .bool (s.T j).waits, .int .i64 (s.T j).tries, .int .i64 (s.T j).merit, .int .i64 (s.T j).stamp] 71 (0, 0)) → Code.wp _ _ _ _ W1 from ?_) _ (by repeat (first | (with_reducible exact Below.refl _ _) | (with_reducible apply Below.drew) | (with_reducible refine below_drewN ?_ _) | (with_reducible refine below_alloc' ?_ ?_ _; (focus ((try simp) <;> omega))) | (with_reducible refine below_set' ?_ ?_ _; (focus ((try simp) <;> omega))))) (by simp [↓heap_alloc_eq, ↓heap_set_eq, ↓heap_drew_eq, ↓heap_drewN_eq, setObj, size_drewN])
    intro W1 l1 hy
    have HM1 := Lib.hid (HM.out.below l1)
    have hhd := HM1.out.head
    have O1 := Lib.hid (Only.of_below (S := fun k => k = b) l1 (fun k hk h => by omega))
    have z1 := blk_cell hy 1; have z3 := blk_cell hy 3; have z4 := blk_cell hy 4
    simp only [List.getElem?_toArray, List.getElem?_cons_zero, List.getElem?_cons_succ] at z1 z3 z4
    have d1 := HM1.out.waits hi; have d2 := HM1.out.tries hi; have d3 := HM1.out.merit hi; have d4 := HM1.out.stamp hi
    have df := HM1.out.free
    clear ci cj y1 y2 y3 y4 HM l1 hy heq
    cases kl
    · have hd : decide (4 ≤ (s.T i).tries) = false := HQK.out.symm
      have hd4 : (s.T i).tries < 4 := by simpa using hd
      go_wp2_with fail
      go_loopw [13, 15] (fun a c wr => ∃ (q : Nat) (p : Int), c = .int .i64 q ∧ a = .int .i64 p ∧ p = 2 ^ q ∧ (q : Int) ≤ (s.T i).tries ∧ wr = W1) (fun a c _ => (s.T i).tries.toNat - (intOf c).toNat)
      case atStart => exact ⟨0, 1, rfl, rfl, rfl, ht.1, rfl⟩
      case round =>
        obtain ⟨q, p, rfl, rfl, hp, hq, rfl⟩ := hrel
        by_cases hqt : (q : Int) < (s.T i).tries
        · have hdq : decide ((q : Int) < (s.T i).tries) = true := by simpa using hqt
          have hp8 : p = 1 ∨ p = 2 ∨ p = 4 := by
            have : q = 0 ∨ q = 1 ∨ q = 2 := by omega
            rcases this with rfl | rfl | rfl <;> simp [hp]
          have hwp : IntKind.i64.wrap (p * 2) = p * 2 := by rw [IntKind.wrap_i64]; omega
          have hp2 := Lib.hid (show p * 2 = 2 ^ (q + 1) by rw [hp, Int.pow_succ])
          clear hp hp8
          go_wp2_with fail
          exact ⟨⟨q + 1, p * 2, by go_num, by first | rfl | trivial, hp2.out, by omega, by first | rfl | trivial⟩, by simp [intOf]; omega⟩
        · have hdq : decide ((q : Int) < (s.T i).tries) = false := by simpa using hqt
          have hpt : ticksV 1 (s.T i) = p := by
            rw [hp]
            show (2 : Int) ^ (s.T i).tries.toNat = 2 ^ q
            congr 1
            omega
          have HP := Lib.hid hpt
          clear hp hpt
          go_wp2_with fail
          go_ret3
          refine ⟨?_, ?_, HF.out _ HM1.out⟩
          · rw [HP.out]; rfl
          · repeat (first | (with_reducible exact O1.out) | (with_reducible apply Only.drew) | (with_reducible apply Only.drewN) | (with_reducible refine only_set' ?_ ?_ _; (focus ((try simp) <;> omega))))
    · have hd : decide (4 ≤ (s.T i).tries) = true := HQK.out.symm
      go_wp2_with fail
      go_loopw [13, 15] (fun a c wr => c = .int .i64 0 ∧ a = .int .i64 1 ∧ wr = W1) (fun a c _ => 0)
      case atStart => exact ⟨rfl, rfl, rfl⟩
      case round =>
        obtain ⟨rfl, rfl, rfl⟩ := hrel
        have hdq : decide (0 < (s.T i).tries) = true := by simp at hd ⊢; omega
        go_wp2_with fail
        go_ret3
        refine ⟨rfl, ?_, HM1.out⟩
        repeat (first | (with_reducible exact O1.out) | (with_reducible apply Only.drew) | (with_reducible apply Only.drewN) | (with_reducible refine only_set' ?_ ?_ _; (focus ((try simp) <;> omega))))
end Go.Proofs.Ytphnogbkiemoeaa.Man
