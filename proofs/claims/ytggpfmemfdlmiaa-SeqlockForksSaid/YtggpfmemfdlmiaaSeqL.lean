/- What the statements' own functions do with a lock and its reference. -/
import Derived.Test.YtggpfmemfdlmiaaSeqC
import Derived.Test.YtggpfmemfdlmiaaSeqR
import Derived.Deep.RegionHeld3
import Derived.Deep.DeepCutAuto
namespace Go.Proofs.Ytggpfmemfdlmiaa.Seq
open Go.RowKit
set_option linter.unusedSimpArgs false
set_option linter.unusedVariables false

/-- Who has the lock is another block than a lock or a reference. -/
theorem LockAt.keep {w w' : World} {b c : Nat} {s : St} {cs : Array Value} {t : TypeId} (h : LockAt w b s) (hc : w.heap[c]? = some (.cells cs t (0, 0))) (ht : t ≠ 3) (ho : Only (fun k => k = c) w w') (hne : b ≠ c) : LockAt w' b s := by
  unfold LockAt at *
  split
  · rename_i e
    rw [e] at h
    exact ho.blk h hne
  · rename_i o e
    rw [e] at h
    obtain ⟨x, hx, h1, h2⟩ := h
    refine ⟨x, hx, ho.blk h1 hne, ho.blk h2 ?_⟩
    rintro rfl
    rw [h2] at hc
    injection hc with hc
    injection hc with _ hc
    exact ht hc.symm
theorem LockAt.below {w w' : World} {b : Nat} {s : St} (h : LockAt w b s) (ho : Below w.heap.size w w') : LockAt w' b s :=
  h.only (Only.of_below (S := fun _ => False) ho fun k hk h => by omega) fun _ _ h => h
theorem RefAt.below {w w' : World} {b : Nat} {s : St} (h : RefAt w b s) (ho : Below w.heap.size w w') : RefAt w' b s :=
  h.only (Only.of_below (S := fun _ => False) ho fun k hk h => by omega) fun h => h
theorem LockAt.obj {w : World} {b : Nat} {s : St} (h : LockAt w b s) : ∃ cs, w.heap[b]? = some (.cells cs 53 (0, 0)) := by
  unfold LockAt at h
  split at h
  · exact ⟨_, h⟩
  · obtain ⟨x, _, h, _⟩ := h
    exact ⟨_, h⟩
theorem LockAt.ne {w : World} {b c : Nat} {s s' : St} (h : LockAt w b s) (h' : RefAt w c s') : b ≠ c := by
  rintro rfl
  obtain ⟨cs, h⟩ := h.obj
  have h' : _ = _ := h'
  rw [h] at h'
  injection h' with h'
  injection h' with _ h'
  exact absurd h' (by decide)

theorem LockAt.drew {w : World} {b : Nat} {s : St} (h : LockAt w b s) : LockAt w.drew b s := by
  unfold LockAt at *
  exact h
theorem RefAt.drew {w : World} {b : Nat} {s : St} (h : RefAt w b s) : RefAt w.drew b s := h

/-- Both at once. -/
structure Both (w : World) (lb rb : Nat) (s : St) : Prop where
  l : LockAt w lb s
  r : RefAt w rb s
  inv : s.Inv

theorem Both.below {w w' : World} {lb rb : Nat} {s : St} (h : Both w lb rb s) (ho : Below w.heap.size w w') : Both w' lb rb s := ⟨h.l.below ho, h.r.below ho, h.inv⟩

def DoLPost (w : World) (lb rb : Nat) (s : St) (e : Ending) (w' : World) : Prop :=
  e = .returned (.bool true) ∧ ∃ s', Both w' lb rb s' ∧ s'.cnt ≤ s.cnt + 1 ∧ Only (fun k => k = lb ∨ k = rb) w w'

theorem do_two (w W w1 w2 : World) (lb rb : Nat) (s' : St) (hi : s'.Inv) (hW : Below w.heap.size w W) (h2 : LockAt w1 lb s') (h3 : Only (fun k => k = lb) W.drew w1) (h4 : RefAt w2 rb s')
    (h5 : Only (fun k => k = rb) w1 w2) (hne : lb ≠ rb) {s : St} (hr : RefAt W rb s) (hcn : s'.cnt ≤ s.cnt + 1) : DoLPost w lb rb s (.returned (.bool true)) w2 := by
  have h3' : Only (fun k => k = lb) W w1 := ⟨h3.os, h3.tape, h3.output, h3.size, h3.block⟩
  refine ⟨rfl, s', ⟨h2.keep (c := rb) ((hr.only h3' (by omega))) (by decide) h5 hne, h4, hi⟩, hcn, ?_⟩
  have a : Only (fun k => k = lb ∨ k = rb) w W := Only.of_below hW fun k hk h => by omega
  exact (a.trans (h3'.mono fun k _ h => .inl h)).trans (h5.mono fun k _ h => .inr h)

theorem do_any (w : World) (lb rb : Nat) (s : St) (h : Both w lb rb s) (k o t : Int) :
    Calls Try.prog 20 #[ptr lb, rptr rb, .agg #[.int .i64 k, .int .i64 o, .int .u64 t]] w (DoLPost w lb rb s) := by
  obtain ⟨hl, hr, hs⟩ := h
  have hne := hl.ne hr
  have hlt := hl.lt
  have hrt := hr.lt
  have W : ∀ o, Below w.heap.size w (w.alloc o) := fun o => (Below.refl _ _).alloc (Nat.le_refl _) _
  have HL := Lib.hid (fun o => hl.below (W o))
  have HR := Lib.hid (fun o => hr.below (W o))
  have HS := Lib.hid hs
  have HW := Lib.hid W
  clear hl hr hs W
  by_cases h0 : k = 0
  · subst h0
    go_enter Try.func20, Try.ntmps20
    go_wp2_with (first | (go_at_call 10; refine (snap_any _ _ s (HL.out _)).mono ?_; rintro e w1 ⟨rfl, hb1⟩) | (go_at_call 33; refine (rsnap_any _ _ s ((HR.out _).below (by assumption))).mono ?_; rintro e w1 ⟨rfl, rfl⟩))
    go_ret
    refine ⟨?_, s, ⟨?_, ?_, HS.out⟩, by omega, ?_⟩
    · simp
    · exact (HL.out _).below hb1
    · exact (HR.out _).below hb1
    · exact Only.of_below (B := w.heap.size) ((HW.out _).trans (hb1.mono (by simp))) fun k hk h => by omega
  by_cases h1 : k = 1
  · subst h1
    clear h0
    have hk0 : ((1 : Int) == 0) = false := by decide
    have G := Lib.hid (HL.out (.cells #[.int .i64 1, .int .i64 o, .int .u64 t] 46))
    have GR := Lib.hid (HR.out (.cells #[.int .i64 1, .int .i64 o, .int .u64 t] 46))
    have GW := Lib.hid (HW.out (.cells #[.int .i64 1, .int .i64 o, .int .u64 t] 46))
    clear HL HR HW
    go_enter Try.func20, Try.ntmps20
    go_wp2_with fail
    have c1 : (w.alloc (.cells #[.int .i64 1, .int .i64 o, .int .u64 t] 46)).cell? ⟨w.heap.size, 1, none⟩ = some (.int .i64 o) := by simp
    have c2 : (w.alloc (.cells #[.int .i64 1, .int .i64 o, .int .u64 t] 46)).cell? ⟨w.heap.size, 2, none⟩ = some (.int .u64 t) := by simp
    have hsz : (w.alloc (.cells #[.int .i64 1, .int .i64 o, .int .u64 t] 46)).heap.size = w.heap.size + 1 := by simp
    generalize (w.alloc (.cells #[.int .i64 1, .int .i64 o, .int .u64 t] 46)) = W at *
    have HZ := Lib.hid hsz; clear hsz
    go_region_held3 (fun w' => w'.cell? ⟨w.heap.size, 1, none⟩ = some (.int .i64 o) ∧ w'.cell? ⟨w.heap.size, 2, none⟩ = some (.int .u64 t))
      (first | exact ⟨c1, c2⟩ | exact ⟨(h3.cell (w := W.drew) c1 (by simp; omega)), (h3.cell (w := W.drew) c2 (by simp; omega))⟩ | exact ⟨h5.cell (h3.cell (w := W.drew) c1 (by simp; omega)) (by simp; omega), h5.cell (h3.cell (w := W.drew) c2 (by simp; omega)) (by simp; omega)⟩)
      (first | (go_at_call 11; refine (try_any _ lb s HS.out (LockAt.drew G.out) o t).mono ?_; rintro e w1 ⟨rfl, h2, h3⟩) | (go_at_call 34; refine (rtry_any _ rb s HS.out (RefAt.only (RefAt.drew GR.out) h3 (by omega)) o t).mono ?_; rintro e w2 ⟨rfl, h4, h5⟩))
    have HF := Lib.hid (do_two w W w1 w2 lb rb _ (inv_try HS.out o t) GW.out h2 h3 h4 h5 hne GR.out (cnt_try s o t))
    clear c1 c2 h2 h3 h4 h5 G GR GW HZ
    go_wp2_with fail
    go_ret
    exact HF.out
  by_cases h2 : k = 2
  · subst h2
    have hk0 : ((2 : Int) == 0) = false := by decide
    have hk1 : ((2 : Int) == 1) = false := by decide
    clear h0
    have G := Lib.hid (HL.out (.cells #[.int .i64 2, .int .i64 o, .int .u64 t] 46))
    have GR := Lib.hid (HR.out (.cells #[.int .i64 2, .int .i64 o, .int .u64 t] 46))
    have GW := Lib.hid (HW.out (.cells #[.int .i64 2, .int .i64 o, .int .u64 t] 46))
    clear HL HR HW
    go_enter Try.func20, Try.ntmps20
    go_wp2_with fail
    have c1 : (w.alloc (.cells #[.int .i64 2, .int .i64 o, .int .u64 t] 46)).cell? ⟨w.heap.size, 1, none⟩ = some (.int .i64 o) := by simp
    have hsz : (w.alloc (.cells #[.int .i64 2, .int .i64 o, .int .u64 t] 46)).heap.size = w.heap.size + 1 := by simp
    generalize (w.alloc (.cells #[.int .i64 2, .int .i64 o, .int .u64 t] 46)) = W at *
    have HZ := Lib.hid hsz; clear hsz
    go_region_held3 (fun w' => w'.cell? ⟨w.heap.size, 1, none⟩ = some (.int .i64 o))
      (first | exact c1 | exact (h3.cell (w := W.drew) c1 (by simp; omega)) | exact h5.cell (h3.cell (w := W.drew) c1 (by simp; omega)) (by simp; omega))
      (first | (go_at_call 14; refine (unlock_any _ lb s HS.out (LockAt.drew G.out) o).mono ?_; rintro e w1 ⟨rfl, h2, h3⟩) | (go_at_call 35; refine (runlock_any _ rb s HS.out (RefAt.only (RefAt.drew GR.out) h3 (by omega)) o).mono ?_; rintro e w2 ⟨rfl, h4, h5⟩))
    have HF := Lib.hid (do_two w W w1 w2 lb rb _ (inv_unlock HS.out o) GW.out h2 h3 h4 h5 hne GR.out (cnt_unlock s o))
    clear c1 h2 h3 h4 h5 G GR GW HZ
    go_wp2_with fail
    go_ret
    exact HF.out
  by_cases h3 : k = 3
  · subst h3
    have hk0 : ((3 : Int) == 0) = false := by decide
    have hk1 : ((3 : Int) == 1) = false := by decide
    have hk2 : ((3 : Int) == 2) = false := by decide
    have G := Lib.hid (HL.out (.cells #[.int .i64 3, .int .i64 o, .int .u64 t] 46))
    have GR := Lib.hid (HR.out (.cells #[.int .i64 3, .int .i64 o, .int .u64 t] 46))
    have GW := Lib.hid (HW.out (.cells #[.int .i64 3, .int .i64 o, .int .u64 t] 46))
    clear HL HR HW
    go_enter Try.func20, Try.ntmps20
    go_wp2_with fail
    have c1 : (w.alloc (.cells #[.int .i64 3, .int .i64 o, .int .u64 t] 46)).cell? ⟨w.heap.size, 1, none⟩ = some (.int .i64 o) := by simp
    have hsz : (w.alloc (.cells #[.int .i64 3, .int .i64 o, .int .u64 t] 46)).heap.size = w.heap.size + 1 := by simp
    generalize (w.alloc (.cells #[.int .i64 3, .int .i64 o, .int .u64 t] 46)) = W at *
    have HZ := Lib.hid hsz; clear hsz
    go_region_held3 (fun w' => w'.cell? ⟨w.heap.size, 1, none⟩ = some (.int .i64 o))
      (first | exact c1 | exact (h3.cell (w := W.drew) c1 (by simp; omega)) | exact h5.cell (h3.cell (w := W.drew) c1 (by simp; omega)) (by simp; omega))
      (first | (go_at_call 13; refine (break_any _ lb s HS.out (LockAt.drew G.out) o).mono ?_; rintro e w1 ⟨rfl, h2, h3⟩) | (go_at_call 36; refine (rbreak_any _ rb s HS.out (RefAt.only (RefAt.drew GR.out) h3 (by omega)) o).mono ?_; rintro e w2 ⟨rfl, h4, h5⟩))
    have HF := Lib.hid (do_two w W w1 w2 lb rb _ (inv_break HS.out o) GW.out h2 h3 h4 h5 hne GR.out (cnt_break s o))
    clear c1 h2 h3 h4 h5 G GR GW HZ
    go_wp2_with fail
    go_ret
    exact HF.out
  have hk0 : (k == 0) = false := by simpa using h0
  have hk1 : (k == 1) = false := by simpa using h1
  have hk2 : (k == 2) = false := by simpa using h2
  have hk3 : (k == 3) = false := by simpa using h3
  clear h0 h1 h2 h3
  go_enter Try.func20, Try.ntmps20
  go_wp2_with fail
  go_ret
  exact ⟨rfl, s, ⟨HL.out _, HR.out _, HS.out⟩, by omega, Only.of_below (HW.out _) fun k hk h => by omega⟩
end Go.Proofs.Ytggpfmemfdlmiaa.Seq
