/- Deeds one by one: do, play. -/
import Derived.Test.YtphnogbkiemoeaaManL
namespace Go.Proofs.Ytphnogbkiemoeaa.Man
open Go.RowKit
set_option linter.unusedSimpArgs false
set_option linter.unusedVariables false

theorem do_2 (w : World) (b rb k : Nat) (hk : k = 1 ∨ k = 2 ∨ k = 3) (s : MSt) (n : Int) (h : Both w b rb k s n) (hn : n ≤ 1000) (th ot : Int) (ag : Bool) :
    Calls Try.prog 28 #[ptr b, ptr rb, .agg #[.int .i64 2, .int .i64 th, .int .i64 ot, .bool ag]] w (DoPost w b rb k n) := by
  have hne := h.ne
  have HNE := Lib.hid (show ¬ ((fun k => k = b) rb) from fun e => hne e.symm)
  have hbl := h.m.lt; have hrl := h.r.lt
  have hI := h.i.choose k th ot
  have q0 : ((2 : Int) == 0) = false := by decide
  have q1 : ((2 : Int) == 1) = false := by decide
  obtain ⟨W, hWdef⟩ : ∃ W, W = w.alloc (.cells #[.int .i64 2, .int .i64 th, .int .i64 ot, .bool ag] 46) := ⟨_, rfl⟩
  have lW : Below w.heap.size w W := by rw [hWdef]; repeat (first | (with_reducible exact Below.refl _ _) | (with_reducible apply Below.drew) | (with_reducible refine below_drewN ?_ _) | (with_reducible refine below_alloc' ?_ ?_ _; (focus ((try simp) <;> omega))) | (with_reducible refine below_set' ?_ ?_ _; (focus ((try simp) <;> omega))))
  have c1 : W.cell? ⟨w.heap.size, 1, none⟩ = some (.int .i64 th) := by rw [hWdef]; simp
  have c2 : W.cell? ⟨w.heap.size, 2, none⟩ = some (.int .i64 ot) := by rw [hWdef]; simp
  have HWD := Lib.hid hWdef; clear hWdef
  have H := Lib.hid (h.below lW)
  have LW := Lib.hid lW; have HI := Lib.hid hI
  have KO := Lib.hid (show ∀ w', Only (fun j => j = b) W w' → (w'.cell? ⟨w.heap.size, 1, none⟩ = some (.int .i64 th) ∧ w'.cell? ⟨w.heap.size, 2, none⟩ = some (.int .i64 ot)) from fun w' h => ⟨h.cell c1 (by show ¬ (w.heap.size = b); omega), h.cell c2 (by show ¬ (w.heap.size = b); omega)⟩)
  have HT := Lib.hid (show ∀ i, 0 ≤ (s.T i).tries ∧ (s.T i).tries ≤ 1000000 from fun i => ⟨(h.i.tr i).1, by have := (h.i.tr i).2; omega⟩)
  have HMM := Lib.hid h.i.me
  clear h lW hI
  go_enter Try.func28, Try.ntmps28
  go_wp2_with fail
  rw [← HWD.out]
  clear HWD
  refine (choose_any W b k hk _ H.out.m th ot HT.out HMM.out).mono ?_
  rintro e w1 ⟨rfl, o1, m1⟩
  obtain ⟨d1, d2⟩ := KO.out w1 o1
  have O1 := Lib.hid o1; have M1 := Lib.hid m1
  clear o1 m1 c1 c2 KO
  go_wp2_with fail
  refine (rchoose_any w1 rb k hk _ (H.out.r.only O1.out HNE.out) th ot HT.out HMM.out).mono ?_
  rintro e w2 ⟨rfl, o2, m2⟩
  have HF := Lib.hid (do_two hne LW.out (W := W) (w1 := w1) ⟨O1.out.os, O1.out.tape, O1.out.output, O1.out.size, O1.out.block⟩ M1.out o2 m2 HI.out)
  generalize s.chooseC k th ot = r1 at *
  generalize s.chooseN k th ot = r2 at *
  generalize s.chooseE th ot = r3 at *
  clear O1 M1 o2 m2 H LW HI HT HMM HNE
  go_wp2_with fail
  go_ret
  have := HF.out
  simpa using this
theorem do_else (w : World) (b rb k : Nat) (s : MSt) (n : Int) (h : Both w b rb k s n) (kd th ot : Int) (ag : Bool) (h0 : kd ≠ 0) (h1 : kd ≠ 1) (h2 : kd ≠ 2) (h3 : kd ≠ 3) (h4 : kd ≠ 4) :
    Calls Try.prog 28 #[ptr b, ptr rb, .agg #[.int .i64 kd, .int .i64 th, .int .i64 ot, .bool ag]] w (DoPost w b rb k n) := by
  have lW : Below w.heap.size w (w.alloc (.cells #[.int .i64 kd, .int .i64 th, .int .i64 ot, .bool ag] 46)) := by repeat (first | (with_reducible exact Below.refl _ _) | (with_reducible apply Below.drew) | (with_reducible refine below_drewN ?_ _) | (with_reducible refine below_alloc' ?_ ?_ _; (focus ((try simp) <;> omega))) | (with_reducible refine below_set' ?_ ?_ _; (focus ((try simp) <;> omega))))
  have HF := Lib.hid (show DoPost w b rb k n (.returned (.bool true)) (w.alloc (.cells #[.int .i64 kd, .int .i64 th, .int .i64 ot, .bool ag] 46)) from
    ⟨rfl, ⟨s, ⟨h.m.below lW, h.r.below lW, h.i.mono (by omega)⟩⟩, Only.of_below lW fun k hk h => by omega⟩)
  have q0 : (kd == 0) = false := by simpa using h0
  have q1 : (kd == 1) = false := by simpa using h1
  have q2 : (kd == 2) = false := by simpa using h2
  have q3 : (kd == 3) = false := by simpa using h3
  have q4 : (kd == 4) = false := by simpa using h4
  clear lW h
  go_enter Try.func28, Try.ntmps28
  go_wp2_with fail
  go_ret
  exact HF.out
theorem do_any (w : World) (b rb k : Nat) (hk : k = 1 ∨ k = 2 ∨ k = 3) (s : MSt) (n : Int) (h : Both w b rb k s n) (hn : n ≤ 1000) (kd th ot : Int) (ag : Bool) :
    Calls Try.prog 28 #[ptr b, ptr rb, .agg #[.int .i64 kd, .int .i64 th, .int .i64 ot, .bool ag]] w (DoPost w b rb k n) := by
  by_cases h0 : kd = 0
  · subst h0; exact do_0 w b rb k hk s n h hn th ot ag
  by_cases h1 : kd = 1
  · subst h1; exact do_1 w b rb k hk s n h hn th ot ag
  by_cases h2 : kd = 2
  · subst h2; exact do_2 w b rb k hk s n h hn th ot ag
  by_cases h3 : kd = 3
  · subst h3; exact do_3 w b rb k hk s n h hn th ot ag
  by_cases h4 : kd = 4
  · subst h4; exact do_4 w b rb k hk s n h hn th ot ag
  exact do_else w b rb k s n h kd th ot ag h0 h1 h2 h3 h4

/-! ### play -/
def Deeds (w : World) (a : Option Addr) (len : Nat) : Prop :=
  len ≤ 9223372036854775807 ∧ (len = 0 ∨ ∃ b off, a = some ⟨b, off, none⟩ ∧ ∀ i, i < len → ∃ (kd th ot : Int) (ag : Bool), w.cell? ⟨b, off + i * 4, none⟩ = some (.int .i64 kd) ∧ w.cell? ⟨b, off + i * 4 + 1, none⟩ = some (.int .i64 th) ∧ w.cell? ⟨b, off + i * 4 + 2, none⟩ = some (.int .i64 ot) ∧ w.cell? ⟨b, off + i * 4 + 3, none⟩ = some (.bool ag))
theorem kind_any (w : World) (n : Int) (hn : 0 ≤ n ∧ n ≤ 255) (kk : Nat) (hk : (kk : Int) = 1 + n % 3) : Calls Try.prog 26 #[.int .u8 n] w fun e w' => e = .returned (.int .u8 kk) ∧ w = w' := by
  have h1 : n % 3 = (kk : Int) - 1 := by omega
  have h3 : kk = 1 ∨ kk = 2 ∨ kk = 3 := by omega
  clear hk
  rcases h3 with rfl | rfl | rfl
  all_goals
    simp at h1
    go_enter Try.func26, Try.ntmps26
    go_wp2_with fail
    go_ret
    exact ⟨rfl, rfl⟩
/-- what play leaves -/
structure Playing (w w' : World) (b rb k : Nat) (s : MSt) (n : Int) : Prop where
  both : Both w' b rb k s n
  lo : Below w.heap.size w w'
  bl : w.heap.size ≤ b
  rl : w.heap.size ≤ rb
theorem Playing.step {w w1 w2 : World} {b rb k : Nat} {s s' : MSt} {n : Int} (h : Playing w w1 b rb k s n) (hB : Both w2 b rb k s' (n + 1)) (ho : Only (fun j => j = b ∨ j = rb) w1 w2) : Playing w w2 b rb k s' (n + 1) := by
  have hb := h.bl; have hr := h.rl
  exact ⟨hB, h.lo.trans (ho.below h.lo.size fun k hk e => by rcases e with e | e <;> omega), hb, hr⟩
theorem Playing.below {w w1 w2 : World} {b rb k : Nat} {s : MSt} {n : Int} (h : Playing w w1 b rb k s n) (l : Below w1.heap.size w1 w2) : Playing w w2 b rb k s n :=
  ⟨h.both.below l, btrans h.lo (Nat.le_refl _) l, h.bl, h.rl⟩
def PlayPost (w : World) (k : Nat) (e : Ending) (w' : World) : Prop := ∃ b rb s n, n ≤ 60 ∧ e = .returned (.tuple #[ptr b, ptr rb, .bool true]) ∧ Playing w w' b rb k s n
set_option maxHeartbeats 1600000 in
theorem play_any (w : World) (n : Int) (hn : 0 ≤ n ∧ n ≤ 255) (k : Nat) (hk : (k : Int) = 1 + n % 3) (a : Option Addr) (len cap : Nat) (h : Deeds w a len) : Calls Try.prog 15 #[.int .u8 n, .slice a len cap] w (PlayPost w k) := by
  obtain ⟨hm, hd⟩ := h
  have HD := Lib.hid hd; clear hd
  have hk3 : k = 1 ∨ k = 2 ∨ k = 3 := by omega
  have HK := Lib.hid hk; clear hk
  unfold PlayPost
  go_enter Try.func15, Try.ntmps15
  go_wp2_with fail
  refine (kind_any _ n hn k HK.out).mono ?_
  rintro e w0 ⟨rfl, rfl⟩
  go_wp2_with fail
  refine (new_ok _ k hk3).mono ?_
  rintro e w1 ⟨rfl, h1, l1⟩
  have H1 := Lib.hid h1; have L1 := Lib.hid l1; clear h1 l1
  go_wp2_with fail
  refine (kind_any _ n hn k HK.out).mono ?_
  rintro e w0 ⟨rfl, rfl⟩
  go_wp2_with fail
  refine (rnew_ok _ k hk3).mono ?_
  rintro e w2 ⟨rfl, h2, l2⟩
  have HP := Lib.hid (show Playing w w2 w.heap.size w1.heap.size k .new 0 from ⟨⟨H1.out.below l2, h2, .new⟩, btrans L1.out (Nat.le_refl _) l2, Nat.le_refl _, L1.out.size⟩)
  clear h2 l2 H1 L1
  generalize hb0 : w.heap.size = b at HP ⊢
  generalize w1.heap.size = rb at *
  clear hb0
  go_wp2_with fail
  go_loopw [9] (fun i wr => ∃ (q : Nat) (s : MSt), i = .int .i64 q ∧ q ≤ len ∧ q ≤ 60 ∧ Playing w wr b rb k s q) (fun i _ => len - (intOf i).toNat)
  case atStart => exact ⟨0, _, rfl, Nat.zero_le _, Nat.zero_le _, HP.out⟩
  case round =>
    obtain ⟨q, s, rfl, hq, hq6, hP⟩ := hrel
    have H := Lib.hid hP; clear hP HP
    by_cases hlt : q < len
    · by_cases h60 : q < 60
      · obtain ⟨db, off, rfl, hc⟩ := HD.out.resolve_left (by omega)
        obtain ⟨kd, th, ot, ag, c0, c1, c2, c3⟩ := hc q hlt
        replace c0 := bkeep H.out.lo c0; replace c1 := bkeep H.out.lo c1; replace c2 := bkeep H.out.lo c2; replace c3 := bkeep H.out.lo c3
        clear hc
        go_wp2_with fail
        refine (do_any _ b rb k hk3 s q H.out.both (by omega) kd th ot ag).mono ?_
        rintro e w3 ⟨rfl, ⟨s', hB⟩, ho⟩
        have H3 := Lib.hid (H.out.step hB ho)
        clear hB ho c0 c1 c2 c3
        go_wp2_with fail
        exact ⟨⟨q + 1, s', by go_num, by omega, by omega, H3.out⟩, by simp [intOf]; omega⟩
      · have h60' : ¬ ((q : Int) < 60) := by omega
        go_wp2_with fail
        go_ret3
        exact ⟨b, rb, s, q, by omega, rfl, H.out⟩
    · go_wp2_with fail
      go_ret3
      exact ⟨b, rb, s, q, by omega, rfl, H.out⟩
end Go.Proofs.Ytphnogbkiemoeaa.Man
