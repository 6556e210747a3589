/- A deed on both, and deeds. -/
import Derived.Test.YtphnogbkiemoeaaManS
import Derived.Test.YtphnogbkiemoeaaManP
namespace Go.Proofs.Ytphnogbkiemoeaa.Man
open Go.RowKit
set_option linter.unusedSimpArgs false
set_option linter.unusedVariables false

theorem Inv.new : Inv .new 0 := ⟨Int.le_refl 0, Int.le_refl 0, fun _ => ⟨Int.le_refl 0, Int.le_refl 0⟩, fun _ => ⟨Int.le_refl 0, (by decide : (0 : Int) ≤ 1000)⟩, fun _ => ⟨Int.le_refl 0, Int.le_refl 0⟩, fun _ _ => rfl, fun _ h => (by cases h), fun _ _ h => (by cases h)⟩
theorem Inv.mono {s : MSt} {n m : Int} (h : Inv s n) (hm : n ≤ m) : Inv s m :=
  ⟨h.lo, Int.le_trans h.hi hm, fun i => ⟨(h.tr i).1, Int.le_trans (h.tr i).2 hm⟩, h.me, h.st, h.idle, h.run, h.apart⟩
theorem Inv.up {s : MSt} {n m : Int} (h : Inv s n) (hm : n ≤ m) (i : Nat) (t : Th) (l : Int) (hl : s.last ≤ l) (hl2 : l ≤ m) (h1 : 0 ≤ t.tries ∧ t.tries ≤ m) (h2 : 0 ≤ t.merit ∧ t.merit ≤ 1000)
    (h3 : 0 ≤ t.stamp ∧ t.stamp ≤ l) (h4 : t.runs = false → t = .zero) (h5 : t.runs = true → 0 < t.stamp) (h6 : t.runs = true → ∀ j, j ≠ i → (s.T j).runs = true → t.stamp ≠ (s.T j).stamp) : Inv ⟨upd s.T i t, l⟩ m := by
  have hlo := h.lo
  refine ⟨by show 0 ≤ l; omega, hl2, ?_, ?_, ?_, ?_, ?_, ?_⟩
  · intro j
    by_cases hj : j = i
    · subst hj; rw [show (MSt.mk (upd s.T j t) l).T j = t from upd_same _ _ _]; exact h1
    · rw [show (MSt.mk (upd s.T i t) l).T j = s.T j from upd_other _ hj _]; have := h.tr j; omega
  · intro j
    by_cases hj : j = i
    · subst hj; rw [show (MSt.mk (upd s.T j t) l).T j = t from upd_same _ _ _]; exact h2
    · rw [show (MSt.mk (upd s.T i t) l).T j = s.T j from upd_other _ hj _]; exact h.me j
  · intro j
    by_cases hj : j = i
    · subst hj; rw [show (MSt.mk (upd s.T j t) l).T j = t from upd_same _ _ _]; exact h3
    · rw [show (MSt.mk (upd s.T i t) l).T j = s.T j from upd_other _ hj _]; have := h.st j; exact ⟨this.1, by show _ ≤ l; omega⟩
  · intro j
    by_cases hj : j = i
    · subst hj; rw [show (MSt.mk (upd s.T j t) l).T j = t from upd_same _ _ _]; exact h4
    · rw [show (MSt.mk (upd s.T i t) l).T j = s.T j from upd_other _ hj _]; exact h.idle j
  · intro j
    by_cases hj : j = i
    · subst hj; rw [show (MSt.mk (upd s.T j t) l).T j = t from upd_same _ _ _]; exact h5
    · rw [show (MSt.mk (upd s.T i t) l).T j = s.T j from upd_other _ hj _]; exact h.run j
  · intro j k
    by_cases hj : j = i
    · subst hj
      rw [show (MSt.mk (upd s.T j t) l).T j = t from upd_same _ _ _]
      by_cases hk : k = j
      · intro _ _ _; exact hk.symm
      · rw [show (MSt.mk (upd s.T j t) l).T k = s.T k from upd_other _ hk _]
        intro q1 q2 q3
        exact absurd q3 (h6 q1 k hk q2)
    · rw [show (MSt.mk (upd s.T i t) l).T j = s.T j from upd_other _ hj _]
      by_cases hk : k = i
      · subst hk
        rw [show (MSt.mk (upd s.T k t) l).T k = t from upd_same _ _ _]
        intro q1 q2 q3
        exact absurd q3.symm (h6 q2 j hj q1)
      · rw [show (MSt.mk (upd s.T i t) l).T k = s.T k from upd_other _ hk _]
        exact h.apart j k
theorem Inv.began {s : MSt} {n : Int} (h : Inv s n) (th : Int) (again : Bool) : Inv (s.beganS th again) (n + 1) := by
  have hlo := h.lo; have hhi := h.hi
  unfold MSt.beganS
  split
  · rename_i hE
    have hr : (s.T th.toNat).runs = again := by
      unfold MSt.beganE at hE
      split at hE
      · split at hE
        · assumption
        · cases hE
      · cases hE
    cases again
    · refine h.up (by omega) _ _ _ (by omega) (by omega) ⟨Int.le_refl 0, by show (0 : Int) ≤ n + 1; omega⟩ ⟨Int.le_refl 0, (by decide : (0 : Int) ≤ 1000)⟩ ⟨by show 0 ≤ s.last + 1; omega, Int.le_refl _⟩ (fun e => by cases e) (fun _ => by show 0 < s.last + 1; omega) ?_
      intro _ j _ _ e
      have := (h.st j).2
      simp only at e
      omega
    · refine h.up (by omega) _ _ _ (Int.le_refl _) (by omega) ⟨Int.le_refl 0, by show (0 : Int) ≤ n + 1; omega⟩ (h.me _) (h.st _) (fun e => ?_) (fun e => h.run _ hr) ?_
      · simp only at e; rw [hr] at e; cases e
      · intro _ j hj hrj e
        exact hj (h.apart j th.toNat hrj hr e.symm)
  · exact h.mono (by omega)
theorem errRun_runs {s : MSt} {th : Int} (h : s.errRun th = 0) : (s.T th.toNat).runs = true := by
  unfold MSt.errRun at h
  split at h
  · split at h
    · assumption
    · cases h
  · cases h
theorem Inv.keepRun {s : MSt} {n : Int} (h : Inv s n) (i : Nat) (t : Th) (hr : (s.T i).runs = true) (h1 : 0 ≤ t.tries ∧ t.tries ≤ n + 1) (h2 : 0 ≤ t.merit ∧ t.merit ≤ 1000) (h3 : t.stamp = (s.T i).stamp) (h4 : t.runs = true) : Inv ⟨upd s.T i t, s.last⟩ (n + 1) := by
  have hhi := h.hi
  refine h.up (by omega) _ _ _ (Int.le_refl _) (by omega) h1 h2 (h3 ▸ h.st i) (fun e => by rw [h4] at e; cases e) (fun _ => h3 ▸ h.run i hr) ?_
  intro _ j hj hrj e
  exact hj (h.apart j i hrj hr (e.symm.trans h3))
theorem Inv.opened {s : MSt} {n : Int} (h : Inv s n) (th : Int) : Inv (s.openedS th) (n + 1) := by
  unfold MSt.openedS
  split
  · rename_i hE
    have hr := errRun_runs hE
    have h1 := h.tr th.toNat; have h2 := h.me th.toNat
    exact h.keepRun _ _ hr ⟨h1.1, by show (s.T th.toNat).tries ≤ _; omega⟩ ⟨by show 0 ≤ min _ _; omega, by show min _ _ ≤ _; omega⟩ rfl hr
  · exact h.mono (by omega)
theorem Inv.passed {s : MSt} {n : Int} (h : Inv s n) (th : Int) : Inv (s.passedS th) (n + 1) := by
  have h0 := h.lo; have h1 := h.hi
  unfold MSt.passedS
  split
  · rename_i hE
    have hr := errRun_runs hE
    exact h.keepRun _ _ hr ⟨Int.le_refl 0, by show (0 : Int) ≤ n + 1; omega⟩ (h.me _) rfl hr
  · exact h.mono (by omega)
theorem Inv.ended {s : MSt} {n : Int} (h : Inv s n) (th : Int) : Inv (s.endedS th) (n + 1) := by
  have h0 := h.lo; have h1 := h.hi
  unfold MSt.endedS
  split
  · exact h.up (by omega) _ _ _ (Int.le_refl _) (by omega) ⟨Int.le_refl 0, by show (0 : Int) ≤ n + 1; omega⟩ ⟨Int.le_refl 0, (by decide : (0 : Int) ≤ 1000)⟩ ⟨Int.le_refl 0, h0⟩ (fun _ => rfl) (fun e => by cases e) (fun e => by cases e)
  · exact h.mono (by omega)
theorem chooseE_runs {s : MSt} {th other : Int} (h : s.chooseE th other = 0) : (s.T th.toNat).runs = true ∧ (s.T other.toNat).runs = true ∧ th ≠ other ∧ okTh th ∧ okTh other := by
  unfold MSt.chooseE at h
  split at h
  · rename_i hk
    split at h
    · cases h
    · rename_i hb
      refine ⟨?_, ?_, fun e => hb (.inl e), hk.1, hk.2⟩
      · cases e : (s.T th.toNat).runs
        · exact absurd (.inr (.inl e)) hb
        · rfl
      · cases e : (s.T other.toNat).runs
        · exact absurd (.inr (.inr e)) hb
        · rfl
  · cases h
theorem Inv.choose {s : MSt} {n : Int} (h : Inv s n) (k : Nat) (th other : Int) : Inv (s.chooseS k th other) (n + 1) := by
  unfold MSt.chooseS
  split
  · rename_i hE
    have hr := (chooseE_runs hE).1
    have h1 := h.tr th.toNat
    split
    · exact h.mono (by omega)
    · exact h.keepRun _ _ hr ⟨by show 0 ≤ (s.T th.toNat).tries + 1; omega, by show (s.T th.toNat).tries + 1 ≤ _; omega⟩ (h.me _) rfl hr
  · exact h.mono (by omega)

/-- both, behind n deeds -/
structure Both (w : World) (b rb k : Nat) (s : MSt) (n : Int) : Prop where
  m : MAt 58 w b (pol k) s
  r : MAt 74 w rb (.int .u8 k) s
  i : Inv s n
theorem Both.ne {w : World} {b rb k : Nat} {s : MSt} {n : Int} (h : Both w b rb k s n) : b ≠ rb := by
  rintro rfl
  have := h.m.symm.trans h.r
  injection this with this
  injection this with _ e _
  exact absurd e (by decide)
theorem Both.below {w w' : World} {b rb k : Nat} {s : MSt} {n : Int} (h : Both w b rb k s n) (l : Below w.heap.size w w') : Both w' b rb k s n := ⟨h.m.below l, h.r.below l, h.i⟩
def DoPost (w : World) (b rb k : Nat) (n : Int) (e : Ending) (w' : World) : Prop :=
  e = .returned (.bool true) ∧ (∃ s', Both w' b rb k s' (n + 1)) ∧ Only (fun j => j = b ∨ j = rb) w w'
theorem do_two {w W w1 w2 : World} {b rb k : Nat} {s' : MSt} {n : Int} (hne : b ≠ rb) (hW : Below w.heap.size w W) (o1 : Only (fun k => k = b) W.drew w1) (m1 : MAt 58 w1 b (pol k) s') (o2 : Only (fun k => k = rb) w1 w2) (m2 : MAt 74 w2 rb (.int .u8 k) s') (i : Inv s' (n + 1)) :
    DoPost w b rb k n (.returned (.bool true)) w2 := by
  refine ⟨rfl, ⟨s', m1.only o2 hne, m2, i⟩, ?_⟩
  have a := (Only.of_below (S := fun j => j = b ∨ j = rb) hW (fun k hk h => by omega)).trans ((only_drew o1).mono fun k _ e => .inl e)
  exact a.trans (o2.mono fun k _ e => .inr e)
theorem do_0 (w : World) (b rb k : Nat) (hk : k = 1 ∨ k = 2 ∨ k = 3) (s : MSt) (n : Int) (h : Both w b rb k s n) (hn : n ≤ 1000) (th ot : Int) (ag : Bool) :
    Calls Try.prog 28 #[ptr b, ptr rb, .agg #[.int .i64 0, .int .i64 th, .int .i64 ot, .bool ag]] w (DoPost w b rb k n) := by
  have hne := h.ne
  have HNE := Lib.hid (show ¬ ((fun k => k = b) rb) from fun e => hne e.symm)
  have hbl := h.m.lt; have hrl := h.r.lt
  have hlast : 0 ≤ s.last ∧ s.last ≤ 1000000 := ⟨h.i.lo, by have := h.i.hi; omega⟩
  have hmer := h.i.me
  have hI := h.i.began th ag
  obtain ⟨W, hWdef⟩ : ∃ W, W = w.alloc (.cells #[.int .i64 0, .int .i64 th, .int .i64 ot, .bool ag] 46) := ⟨_, rfl⟩
  have lW : Below w.heap.size w W := by rw [hWdef]; repeat (first | (with_reducible exact Below.refl _ _) | (with_reducible apply Below.drew) | (with_reducible refine below_drewN ?_ _) | (with_reducible refine below_alloc' ?_ ?_ _; (focus ((try simp) <;> omega))) | (with_reducible refine below_set' ?_ ?_ _; (focus ((try simp) <;> omega))))
  have c1 : W.cell? ⟨w.heap.size, 1, none⟩ = some (.int .i64 th) := by rw [hWdef]; simp
  have c3 : W.cell? ⟨w.heap.size, 3, none⟩ = some (.bool ag) := by rw [hWdef]; simp
  have HWD := Lib.hid hWdef; clear hWdef
  have H := Lib.hid (h.below lW)
  have LW := Lib.hid lW; have HI := Lib.hid hI
  have hzW : w.heap.size ≤ W.heap.size := lW.size
  have KO := Lib.hid (show ∀ w', Only (fun j => j = b ∨ j = rb) W.drew w' → (w'.cell? ⟨w.heap.size, 1, none⟩ = some (.int .i64 th) ∧ w'.cell? ⟨w.heap.size, 3, none⟩ = some (.bool ag)) from fun w' h => ⟨h.cell (w := W.drew) c1 (by show ¬ (w.heap.size = b ∨ w.heap.size = rb); omega), h.cell (w := W.drew) c3 (by show ¬ (w.heap.size = b ∨ w.heap.size = rb); omega)⟩)
  have QA := KO.out W.drew (Only.refl _ _)
  clear h lW hI hlast hmer
  have hlast : 0 ≤ s.last ∧ s.last ≤ 1000000 := ⟨H.out.i.lo, by have := H.out.i.hi; omega⟩
  have HLT := Lib.hid hlast; have HMM := Lib.hid H.out.i.me
  clear hlast
  go_enter Try.func28, Try.ntmps28
  go_wp2_with fail
  rw [← HWD.out]
  go_region_held3 (fun w' => w'.cell? ⟨w.heap.size, 1, none⟩ = some (.int .i64 th) ∧ w'.cell? ⟨w.heap.size, 3, none⟩ = some (.bool ag)) (first | (with_reducible exact QA) | (with_reducible exact QB) | (with_reducible exact QC)) (first | (go_at_call 9; (with_reducible refine Calls.mono (began_any W.drew b _ s H.out.m.drew th ag HLT.out) ?_); rintro e w1 ⟨rfl, o1, m1⟩; have QB := KO.out w1 (o1.mono fun k _ e => .inl e)) | (go_at_call 31; (with_reducible refine Calls.mono (rbegan_any w1 rb _ s (MAt.only H.out.r.drew o1 HNE.out) th ag HLT.out) ?_); rintro e w2 ⟨rfl, o2, m2⟩; have QC := KO.out w2 ((o1.mono fun k _ e => .inl e).trans (o2.mono fun k _ e => .inr e))))
  have HF := Lib.hid (do_two hne LW.out o1 m1 o2 m2 HI.out)
  clear QA QB QC o1 m1 o2 m2
  go_wp2_with fail
  go_ret
  exact HF.out
theorem do_1 (w : World) (b rb k : Nat) (hk : k = 1 ∨ k = 2 ∨ k = 3) (s : MSt) (n : Int) (h : Both w b rb k s n) (hn : n ≤ 1000) (th ot : Int) (ag : Bool) :
    Calls Try.prog 28 #[ptr b, ptr rb, .agg #[.int .i64 1, .int .i64 th, .int .i64 ot, .bool ag]] w (DoPost w b rb k n) := by
  have hne := h.ne
  have HNE := Lib.hid (show ¬ ((fun k => k = b) rb) from fun e => hne e.symm)
  have hbl := h.m.lt; have hrl := h.r.lt
  have hlast : 0 ≤ s.last ∧ s.last ≤ 1000000 := ⟨h.i.lo, by have := h.i.hi; omega⟩
  have hmer := h.i.me
  have hI := h.i.opened th
  have q0 : ((1 : Int) == 0) = false := by decide
  obtain ⟨W, hWdef⟩ : ∃ W, W = w.alloc (.cells #[.int .i64 1, .int .i64 th, .int .i64 ot, .bool ag] 46) := ⟨_, rfl⟩
  have lW : Below w.heap.size w W := by rw [hWdef]; repeat (first | (with_reducible exact Below.refl _ _) | (with_reducible apply Below.drew) | (with_reducible refine below_drewN ?_ _) | (with_reducible refine below_alloc' ?_ ?_ _; (focus ((try simp) <;> omega))) | (with_reducible refine below_set' ?_ ?_ _; (focus ((try simp) <;> omega))))
  have c1 : W.cell? ⟨w.heap.size, 1, none⟩ = some (.int .i64 th) := by rw [hWdef]; simp
  have HWD := Lib.hid hWdef; clear hWdef
  have H := Lib.hid (h.below lW)
  have LW := Lib.hid lW; have HI := Lib.hid hI
  have hzW : w.heap.size ≤ W.heap.size := lW.size
  have KO := Lib.hid (show ∀ w', Only (fun j => j = b ∨ j = rb) W.drew w' → (w'.cell? ⟨w.heap.size, 1, none⟩ = some (.int .i64 th)) from fun w' h => h.cell (w := W.drew) c1 (by show ¬ (w.heap.size = b ∨ w.heap.size = rb); omega))
  have QA := KO.out W.drew (Only.refl _ _)
  clear h lW hI hlast hmer
  have hlast : 0 ≤ s.last ∧ s.last ≤ 1000000 := ⟨H.out.i.lo, by have := H.out.i.hi; omega⟩
  have HLT := Lib.hid hlast; have HMM := Lib.hid H.out.i.me
  clear hlast
  go_enter Try.func28, Try.ntmps28
  go_wp2_with fail
  rw [← HWD.out]
  go_region_held3 (fun w' => w'.cell? ⟨w.heap.size, 1, none⟩ = some (.int .i64 th)) (first | (with_reducible exact QA) | (with_reducible exact QB) | (with_reducible exact QC)) (first | (go_at_call 10; (with_reducible refine Calls.mono (opened_any W.drew b _ s H.out.m.drew th HMM.out) ?_); rintro e w1 ⟨rfl, o1, m1⟩; have QB := KO.out w1 (o1.mono fun k _ e => .inl e)) | (go_at_call 32; (with_reducible refine Calls.mono (ropened_any w1 rb _ s (MAt.only H.out.r.drew o1 HNE.out) th HMM.out) ?_); rintro e w2 ⟨rfl, o2, m2⟩; have QC := KO.out w2 ((o1.mono fun k _ e => .inl e).trans (o2.mono fun k _ e => .inr e))))
  have HF := Lib.hid (do_two hne LW.out o1 m1 o2 m2 HI.out)
  clear QA QB QC o1 m1 o2 m2
  go_wp2_with fail
  go_ret
  exact HF.out
theorem do_3 (w : World) (b rb k : Nat) (hk : k = 1 ∨ k = 2 ∨ k = 3) (s : MSt) (n : Int) (h : Both w b rb k s n) (hn : n ≤ 1000) (th ot : Int) (ag : Bool) :
    Calls Try.prog 28 #[ptr b, ptr rb, .agg #[.int .i64 3, .int .i64 th, .int .i64 ot, .bool ag]] w (DoPost w b rb k n) := by
  have hne := h.ne
  have HNE := Lib.hid (show ¬ ((fun k => k = b) rb) from fun e => hne e.symm)
  have hbl := h.m.lt; have hrl := h.r.lt
  have hlast : 0 ≤ s.last ∧ s.last ≤ 1000000 := ⟨h.i.lo, by have := h.i.hi; omega⟩
  have hmer := h.i.me
  have hI := h.i.passed th
  have q0 : ((3 : Int) == 0) = false := by decide
  have q1 : ((3 : Int) == 1) = false := by decide
  have q2 : ((3 : Int) == 2) = false := by decide
  obtain ⟨W, hWdef⟩ : ∃ W, W = w.alloc (.cells #[.int .i64 3, .int .i64 th, .int .i64 ot, .bool ag] 46) := ⟨_, rfl⟩
  have lW : Below w.heap.size w W := by rw [hWdef]; repeat (first | (with_reducible exact Below.refl _ _) | (with_reducible apply Below.drew) | (with_reducible refine below_drewN ?_ _) | (with_reducible refine below_alloc' ?_ ?_ _; (focus ((try simp) <;> omega))) | (with_reducible refine below_set' ?_ ?_ _; (focus ((try simp) <;> omega))))
  have c1 : W.cell? ⟨w.heap.size, 1, none⟩ = some (.int .i64 th) := by rw [hWdef]; simp
  have HWD := Lib.hid hWdef; clear hWdef
  have H := Lib.hid (h.below lW)
  have LW := Lib.hid lW; have HI := Lib.hid hI
  have hzW : w.heap.size ≤ W.heap.size := lW.size
  have KO := Lib.hid (show ∀ w', Only (fun j => j = b ∨ j = rb) W.drew w' → (w'.cell? ⟨w.heap.size, 1, none⟩ = some (.int .i64 th)) from fun w' h => h.cell (w := W.drew) c1 (by show ¬ (w.heap.size = b ∨ w.heap.size = rb); omega))
  have QA := KO.out W.drew (Only.refl _ _)
  clear h lW hI hlast hmer
  have hlast : 0 ≤ s.last ∧ s.last ≤ 1000000 := ⟨H.out.i.lo, by have := H.out.i.hi; omega⟩
  have HLT := Lib.hid hlast; have HMM := Lib.hid H.out.i.me
  clear hlast
  go_enter Try.func28, Try.ntmps28
  go_wp2_with fail
  rw [← HWD.out]
  go_region_held3 (fun w' => w'.cell? ⟨w.heap.size, 1, none⟩ = some (.int .i64 th)) (first | (with_reducible exact QA) | (with_reducible exact QB) | (with_reducible exact QC)) (first | (go_at_call 13; (with_reducible refine Calls.mono (passed_any W.drew b _ s H.out.m.drew th) ?_); rintro e w1 ⟨rfl, o1, m1⟩; have QB := KO.out w1 (o1.mono fun k _ e => .inl e)) | (go_at_call 34; (with_reducible refine Calls.mono (rpassed_any w1 rb _ s (MAt.only H.out.r.drew o1 HNE.out) th) ?_); rintro e w2 ⟨rfl, o2, m2⟩; have QC := KO.out w2 ((o1.mono fun k _ e => .inl e).trans (o2.mono fun k _ e => .inr e))))
  have HF := Lib.hid (do_two hne LW.out o1 m1 o2 m2 HI.out)
  clear QA QB QC o1 m1 o2 m2
  go_wp2_with fail
  go_ret
  exact HF.out
theorem do_4 (w : World) (b rb k : Nat) (hk : k = 1 ∨ k = 2 ∨ k = 3) (s : MSt) (n : Int) (h : Both w b rb k s n) (hn : n ≤ 1000) (th ot : Int) (ag : Bool) :
    Calls Try.prog 28 #[ptr b, ptr rb, .agg #[.int .i64 4, .int .i64 th, .int .i64 ot, .bool ag]] w (DoPost w b rb k n) := by
  have hne := h.ne
  have HNE := Lib.hid (show ¬ ((fun k => k = b) rb) from fun e => hne e.symm)
  have hbl := h.m.lt; have hrl := h.r.lt
  have hlast : 0 ≤ s.last ∧ s.last ≤ 1000000 := ⟨h.i.lo, by have := h.i.hi; omega⟩
  have hmer := h.i.me
  have hI := h.i.ended th
  have q0 : ((4 : Int) == 0) = false := by decide
  have q1 : ((4 : Int) == 1) = false := by decide
  have q2 : ((4 : Int) == 2) = false := by decide
  have q3 : ((4 : Int) == 3) = false := by decide
  obtain ⟨W, hWdef⟩ : ∃ W, W = w.alloc (.cells #[.int .i64 4, .int .i64 th, .int .i64 ot, .bool ag] 46) := ⟨_, rfl⟩
  have lW : Below w.heap.size w W := by rw [hWdef]; repeat (first | (with_reducible exact Below.refl _ _) | (with_reducible apply Below.drew) | (with_reducible refine below_drewN ?_ _) | (with_reducible refine below_alloc' ?_ ?_ _; (focus ((try simp) <;> omega))) | (with_reducible refine below_set' ?_ ?_ _; (focus ((try simp) <;> omega))))
  have c1 : W.cell? ⟨w.heap.size, 1, none⟩ = some (.int .i64 th) := by rw [hWdef]; simp
  have HWD := Lib.hid hWdef; clear hWdef
  have H := Lib.hid (h.below lW)
  have LW := Lib.hid lW; have HI := Lib.hid hI
  have hzW : w.heap.size ≤ W.heap.size := lW.size
  have KO := Lib.hid (show ∀ w', Only (fun j => j = b ∨ j = rb) W.drew w' → (w'.cell? ⟨w.heap.size, 1, none⟩ = some (.int .i64 th)) from fun w' h => h.cell (w := W.drew) c1 (by show ¬ (w.heap.size = b ∨ w.heap.size = rb); omega))
  have QA := KO.out W.drew (Only.refl _ _)
  clear h lW hI hlast hmer
  have hlast : 0 ≤ s.last ∧ s.last ≤ 1000000 := ⟨H.out.i.lo, by have := H.out.i.hi; omega⟩
  have HLT := Lib.hid hlast; have HMM := Lib.hid H.out.i.me
  clear hlast
  go_enter Try.func28, Try.ntmps28
  go_wp2_with fail
  rw [← HWD.out]
  go_region_held3 (fun w' => w'.cell? ⟨w.heap.size, 1, none⟩ = some (.int .i64 th)) (first | (with_reducible exact QA) | (with_reducible exact QB) | (with_reducible exact QC)) (first | (go_at_call 21; (with_reducible refine Calls.mono (ended_any W.drew b _ s H.out.m.drew th) ?_); rintro e w1 ⟨rfl, o1, m1⟩; have QB := KO.out w1 (o1.mono fun k _ e => .inl e)) | (go_at_call 35; (with_reducible refine Calls.mono (rended_any w1 rb _ s (MAt.only H.out.r.drew o1 HNE.out) th) ?_); rintro e w2 ⟨rfl, o2, m2⟩; have QC := KO.out w2 ((o1.mono fun k _ e => .inl e).trans (o2.mono fun k _ e => .inr e))))
  have HF := Lib.hid (do_two hne LW.out o1 m1 o2 m2 HI.out)
  clear QA QB QC o1 m1 o2 m2
  go_wp2_with fail
  go_ret
  exact HF.out
end Go.Proofs.Ytphnogbkiemoeaa.Man
