/- The other side's Choose. -/
import Derived.Test.YtphnogbkiemoeaaManR
namespace Go.Proofs.Ytphnogbkiemoeaa.Man
open Go.RowKit
set_option linter.unusedSimpArgs false
set_option linter.unusedVariables false

set_option maxHeartbeats 1600000 in
theorem rchoose_g (w : World) (b : Nat) (s : MSt) (H : MAt 74 w b (.int .u8 3) s) (i j : Nat) (hi : i < 4) (hj : j < 4) (hij : i ≠ j) (h1 : (s.T i).runs = true) (h2 : (s.T j).runs = true)
    (ht : 0 ≤ (s.T i).tries ∧ (s.T i).tries ≤ 1000000) (hm : 0 ≤ (s.T i).merit ∧ (s.T i).merit ≤ 1000) :
    Calls Try.prog 33 #[ptr b, .int .i64 i, .int .i64 j] w (RChoosePost 3 w b s i j) := by
  have ci := H.runs hi
  have cj := H.runs hj
  have heq : ((i : Int) == j) = false := by simp; omega
  rw [h1] at ci; rw [h2] at cj
  have y1 := H.waits hj; have y2 := H.tries hj; have y3 := H.merit hj; have y4 := H.stamp hj
  have g2 : (i : Int) < 4 := by omega
  have g3 : (j : Int) < 4 := by omega
  have hlt := H.lt
  have HM := Lib.hid H
  have hw : IntKind.i64.wrap ((s.T i).tries + 1) = (s.T i).tries + 1 := by rw [IntKind.wrap_i64]; omega
  have HF := Lib.hid (show ∀ W : World, MAt 74 W b (.int .u8 3) s → MAt 74 ((W.setCell ⟨b, 1 + i * 5 + 1, none⟩ (.bool true)).setCell ⟨b, 1 + i * 5 + 2, none⟩ (.int .i64 ((s.T i).tries + 1))) b (.int .u8 3) ⟨upd s.T i (waited 3 (s.T i)), s.last⟩ from fun W h => by
    have := (h.setWaits hi true).setTries hi ((s.T i).tries + 1)
    simp only [upd_upd, upd_same] at this
    rwa [show ({ s.T i with tries := (s.T i).tries + 1, waits := true } : Th) = waited 3 (s.T i) by simp [waited]] at this)
  have HG := Lib.hid (show ∀ (W : World) (v : Bool), (s.T i).waits = v → MAt 74 W b (.int .u8 3) s → MAt 74 (W.setCell ⟨b, 1 + i * 5 + 1, none⟩ (.bool v)) b (.int .u8 3) s from fun W v e h => by
    have := h.setWaits hi v
    rw [← e] at this ⊢
    have e2 : (⟨upd s.T i (s.T i), s.last⟩ : MSt) = s := by rw [upd_self]
    have e3 : (⟨upd s.T i { s.T i with waits := (s.T i).waits }, s.last⟩ : MSt) = s := e2
    rwa [e3] at this)
  unfold RChoosePost
  obtain ⟨kl, hkl⟩ : ∃ kl, killV 3 (s.T i) (s.T j) = kl := ⟨_, rfl⟩
  have HQK := Lib.hid (hkl.symm.trans (show killV 3 (s.T i) (s.T j) = ((s.T j).waits || decide ((s.T i).stamp < (s.T j).stamp)) from rfl))
  rw [hkl]
  clear hkl
  clear H
  go_enter Try.func33, Try.ntmps33
  go_wp2_with fail; refine (may_ok w b i hi).mono ?_; rintro e w0 ⟨rfl, rfl⟩
  go_wp2_with fail; refine (may_ok w b j hj).mono ?_; rintro e w0 ⟨rfl, rfl⟩
  go_wp2_with fail
  go_region_law (fail)
  all_goals
    go_upto_region 12 with (fail)
    refine (show ∀ (W1 : World), Below w.heap.size w W1 → W1.heap[w.heap.size]? = some (.cells #[.bool true, .bool (s.T j).waits, .int .i64 (s.T j).tries, .int .i64 (s.T j).merit, .int .i64 (s.T j).stamp] 71 (0, 0)) → Code.wp _ _ _ _ W1 from ?_) _ (by repeat (first | (with_reducible exact Below.refl _ _) | (with_reducible apply Below.drew) | (with_reducible refine below_drewN ?_ _) | (with_reducible refine below_alloc' ?_ ?_ _; (focus ((try simp) <;> omega))) | (with_reducible refine below_set' ?_ ?_ _; (focus ((try simp) <;> omega))))) (by simp [↓heap_alloc_eq, ↓heap_set_eq, ↓heap_drew_eq, ↓heap_drewN_eq, setObj, size_drewN])
    intro W1 l1 hy
    have HM1 := Lib.hid (HM.out.below l1)
    have hhd := HM1.out.head
    have O1 := Lib.hid (Only.of_below (S := fun k => k = b) l1 (fun k hk h => by omega))
    have z1 := blk_cell hy 1; have z3 := blk_cell hy 3; have z4 := blk_cell hy 4
    simp only [List.getElem?_toArray, List.getElem?_cons_zero, List.getElem?_cons_succ] at z1 z3 z4
    have d1 := HM1.out.waits hi; have d2 := HM1.out.tries hi; have d3 := HM1.out.merit hi; have d4 := HM1.out.stamp hi
    have df := HM1.out.free
    clear ci cj y1 y2 y3 y4 HM l1 hy heq
    cases kl
    · have hk2 := HQK.out.symm
      have hw0 : (s.T j).waits = false := by
        cases h : (s.T j).waits
        · rfl
        · rw [h] at hk2; cases hk2
      rw [hw0, Bool.false_or] at hk2
      rw [hw0] at z1
      clear hw0 HQK
      cases hxw : (s.T i).waits
      all_goals
        rw [hxw] at d1
        have HX := Lib.hid hxw
        clear hxw
        go_wp2_with fail
        go_quiet (fail)
        go_wp2_with fail
        go_ret3
        refine ⟨rfl, ?_, HF.out _ (HM1.out.only ((Only.refl (fun _ => False) _).drewN _) (fun h => h))⟩
        repeat (first | (with_reducible exact O1.out) | (with_reducible apply Only.drew) | (with_reducible apply Only.drewN) | (with_reducible refine only_set' ?_ ?_ _; (focus ((try simp) <;> omega))))
    · cases hw0 : (s.T j).waits
      · have hk2 := HQK.out.symm
        rw [hw0, Bool.false_or] at hk2
        rw [hw0] at z1
        clear hw0 HQK
        cases hxw : (s.T i).waits
        all_goals
          rw [hxw] at d1
          have HX := Lib.hid hxw
          clear hxw
          go_wp2_with fail
          go_quiet (fail)
          go_wp2_with fail
          go_ret3
          refine ⟨rfl, ?_, HG.out _ _ HX.out (HM1.out.only ((Only.refl (fun _ => False) _).drewN _) (fun h => h))⟩
          repeat (first | (with_reducible exact O1.out) | (with_reducible apply Only.drew) | (with_reducible apply Only.drewN) | (with_reducible refine only_set' ?_ ?_ _; (focus ((try simp) <;> omega))))
      · rw [hw0] at z1
        clear hw0 HQK
        cases hxw : (s.T i).waits
        all_goals
          rw [hxw] at d1
          have HX := Lib.hid hxw
          clear hxw
          go_wp2_with fail
          go_quiet (fail)
          go_wp2_with fail
          go_ret3
          refine ⟨rfl, ?_, HG.out _ _ HX.out (HM1.out.only ((Only.refl (fun _ => False) _).drewN _) (fun h => h))⟩
          repeat (first | (with_reducible exact O1.out) | (with_reducible apply Only.drew) | (with_reducible apply Only.drewN) | (with_reducible refine only_set' ?_ ?_ _; (focus ((try simp) <;> omega))))

theorem rchoose_any (w : World) (b : Nat) (k : Nat) (hk : k = 1 ∨ k = 2 ∨ k = 3) (s : MSt) (H : MAt 74 w b (.int .u8 k) s) (th other : Int) (ht : ∀ i, 0 ≤ (s.T i).tries ∧ (s.T i).tries ≤ 1000000) (hm : ∀ i, 0 ≤ (s.T i).merit ∧ (s.T i).merit ≤ 1000) :
    Calls Try.prog 33 #[ptr b, .int .i64 th, .int .i64 other] w fun e w' => e = .returned (.tuple #[.int .u8 (s.chooseC k th other), .int .i64 (s.chooseN k th other), .int .i64 (s.chooseE th other)]) ∧ Only (fun k => k = b) w w' ∧
      MAt 74 w' b (.int .u8 k) (s.chooseS k th other) := by
  by_cases h1 : okTh th
  · obtain ⟨i, hi, rfl⟩ := okTh_nat h1
    by_cases h2 : okTh other
    · obtain ⟨j, hj, rfl⟩ := okTh_nat h2
      have hE := chooseE_ok (s := s) hi hj
      by_cases hb : i = j ∨ (s.T i).runs = false ∨ (s.T j).runs = false
      · rw [if_pos hb] at hE
        rw [MSt.chooseC, MSt.chooseN, MSt.chooseS, hE, if_neg (by decide), if_neg (by decide), if_neg (by decide)]
        refine (rchoose_bad w b _ s H i j hi hj hb).mono ?_
        rintro e w' ⟨rfl, rfl⟩
        exact ⟨rfl, Only.refl _ _, H⟩
      · rw [if_neg hb] at hE
        have hij : i ≠ j := fun h => hb (.inl h)
        have r1 : (s.T i).runs = true := by
          cases h : (s.T i).runs
          · exact absurd (.inr (.inl h)) hb
          · rfl
        have r2 : (s.T j).runs = true := by
          cases h : (s.T j).runs
          · exact absurd (.inr (.inr h)) hb
          · rfl
        rw [MSt.chooseC, MSt.chooseN, MSt.chooseS, hE, if_pos rfl, if_pos rfl, if_pos rfl]
        show Calls Try.prog 33 #[ptr b, .int .i64 i, .int .i64 j] w (RChoosePost k w b s i j)
        rcases hk with rfl | rfl | rfl
        · exact rchoose_p w b s H i j hi hj hij r1 r2 (ht i) (hm i)
        · exact rchoose_k w b s H i j hi hj hij r1 r2 (ht i) (hm i)
        · exact rchoose_g w b s H i j hi hj hij r1 r2 (ht i) (hm i)
    · have hE : s.chooseE i other = 2 := by rw [MSt.chooseE, if_neg (fun h => h2 h.2)]
      rw [MSt.chooseC, MSt.chooseN, MSt.chooseS, hE, if_neg (by decide), if_neg (by decide), if_neg (by decide)]
      refine (rchoose_no2 w b i hi other h2).mono ?_
      rintro e w' ⟨rfl, rfl⟩
      exact ⟨rfl, Only.refl _ _, H⟩
  · have hE : s.chooseE th other = 2 := by rw [MSt.chooseE, if_neg (fun h => h1 h.1)]
    rw [MSt.chooseC, MSt.chooseN, MSt.chooseS, hE, if_neg (by decide), if_neg (by decide), if_neg (by decide)]
    refine (rchoose_no1 w b th other h1).mono ?_
    rintro e w' ⟨rfl, rfl⟩
    exact ⟨rfl, Only.refl _ _, H⟩
end Go.Proofs.Ytphnogbkiemoeaa.Man
