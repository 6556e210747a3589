/- The statement on logs of cells. -/
import Derived.Test.YtiopopplbehieaaCelY
import Derived.Test.YtiopopplbehieaaCelW
namespace Go.Proofs.Ytiopopplbehieaa.Cel
open Go.RowKit
set_option linter.unusedSimpArgs false
set_option linter.unusedVariables false

theorem doD_o {s : CSt} {o : OpV} (h : s.doE o = 0) : (s.doD o).o = o := by rw [CSt.doD, if_pos h]
theorem rep_do {s0 s : CSt} (h : rep s0 s.log = some s) (o : OpV) : rep s0 (s.doS o).log = some (s.doS o) := by
  by_cases hE : s.doE o = 0
  · have e : s.doS o = ⟨s.ws.set o.c.toNat (becV o (s.at o.c)).1, s.log ++ [s.doD o]⟩ := by rw [CSt.doS, if_pos hE]
    have el : (s.doS o).log = s.log ++ [s.doD o] := by rw [e]
    rw [el, rep_snoc h (d := s.doD o) (by rw [doD_o hE]; exact ⟨hE, rfl⟩), doD_o hE]
  · have e : s.doS o = s := by rw [CSt.doS, if_neg hE]
    rw [e]
    exact h
theorem fit_do {s : CSt} (h : ∀ d ∈ s.log, d.o.Fit) (o : OpV) (ho : o.Fit) : ∀ d ∈ (s.doS o).log, d.o.Fit := by
  by_cases hE : s.doE o = 0
  · have el : (s.doS o).log = s.log ++ [s.doD o] := by rw [CSt.doS, if_pos hE]
    rw [el]
    intro d hd
    rcases List.mem_append.1 hd with hd | hd
    · exact h d hd
    · rw [List.mem_singleton.1 hd, doD_o hE]
      exact ho
  · have e : s.doS o = s := by rw [CSt.doS, if_neg hE]
    rw [e]
    exact h
theorem Played.rep {n k : Nat} {s : CSt} (h : Played n s k) : rep ⟨List.replicate n 0, []⟩ s.log = some s ∧ ∀ d ∈ s.log, d.o.Fit := by
  induction h with
  | nil => exact ⟨rfl, fun d h => by cases h⟩
  | step h o ho ih => exact ⟨rep_do ih.1 o, fit_do ih.2 o ho⟩
theorem dones_of {w : World} {v : Value} {n b0 : Nat} {l : List Dn} (h : w.ownsRow b0 37 6 v n (logVals l)) (hf : ∀ d ∈ l, d.o.Fit) : ∃ a c, v = .slice a n c ∧ Dones w a n l := by
  have hl : l.length = n := by have := h.1; rw [logVals_length] at this; omega
  rcases h.2 with ⟨rfl, hn⟩ | ⟨g, cap, cur, rfl, _⟩
  · subst hn
    exact ⟨_, _, rfl, hl, hf, .inl rfl⟩
  · refine ⟨_, _, rfl, hl, hf, .inr ⟨g, 0, rfl, fun i d hd => ?_⟩⟩
    have hi : i < l.length := (List.getElem?_eq_some_iff.1 hd).1
    obtain ⟨d', hd', h0, h1, h2, h3, h4, h5⟩ := logVals_get l i hi
    obtain rfl : d = d' := by rw [hd] at hd'; injection hd'
    simp only [Nat.zero_add]
    exact ⟨row_cell (v := .nilFunc) h _ h0, row_cell (v := .nilFunc) h _ h1, row_cell (v := .nilFunc) h _ h2, row_cell (v := .nilFunc) h _ h3, row_cell (v := .nilFunc) h _ h4, row_cell (v := .nilFunc) h _ h5⟩

set_option maxHeartbeats 1000000 in
theorem logs {H : Type} (enc : TypeId × Value → H) (w : World) (n : Int) (hn : (Lit.int .u8 n).wf = true) (a : Option Addr) (len cap : Nat) (h : Fits enc Try.prog w 22 [.slice a len cap]) :
    Calls Try.prog 8 #[.int .u8 n, .slice a len cap] w fun e w' => e = .returned (.bool true) ∧ Below w.heap.size w w' := by
  have HD := Lib.hid (ops_of h)
  have hb := bounds_u8 hn
  clear h hn
  obtain ⟨m, hm1⟩ : ∃ m : Nat, (n % 5).toNat + 1 = m := ⟨_, rfl⟩
  have hmi : n % 5 + 1 = m := by omega
  have hm5 : m ≤ 5 := by omega
  have hm6 : 1 ≤ m := by omega
  have hb0 := hb.1
  have hb1 := hb.2
  go_enter Try.func8, Try.ntmps8
  go_wp2_with fail
  refine (play_any w a len cap HD.out n hb).mono ?_
  rintro e w1 ⟨c, r, F, G, s, k, hk, rfl, hP⟩
  rw [hm1] at hP
  have H1 := Lib.hid hP; clear hP HD hm1 hb
  go_wp2_with fail
  refine (live_any w1).mono ?_
  rintro e w2 ⟨rfl, o2⟩
  have H2 := Lib.hid (H1.out.below o2); clear o2 H1
  have hI := H2.out.p.facts (by omega) (by omega)
  have hrep := H2.out.p.rep
  have hrv : repV (m : Int) s.log = (0, s.ws) := by
    rw [repV, if_neg (by omega), zeros, Int.toNat_natCast, hrep.1]
  have HI := Lib.hid hI; have HREP := Lib.hid hrep; have HRV := Lib.hid hrv
  have hll : s.log.length ≤ 60 := Nat.le_trans hI.2.2 hk
  have L2 := Lib.hid H2.out.lo; have C2 := Lib.hid H2.out.b.c
  clear hI hrep hrv H2
  go_wp2_with fail
  refine (log_any _ _ _ HI.out.1 C2.out).mono ?_
  rintro e w3 ⟨v3, rfl, r3, l3⟩
  obtain ⟨a3, c3, rfl, hd3⟩ := dones_of r3 HREP.out.2
  have D3 := Lib.hid hd3; have L3 := Lib.hid (btrans L2.out (Nat.le_refl _) l3); have C3 := Lib.hid (C2.out.below l3)
  clear r3 l3 hd3 L2 C2
  go_wp2_with fail
  refine (replay_any w3 m a3 _ c3 s.log D3.out (by omega)).mono ?_
  intro e w4 h4
  rw [ReplayPost, HRV.out] at h4
  obtain ⟨v4, rfl, r4, l4⟩ := h4
  have R4 := Lib.hid r4; have L4 := Lib.hid (btrans L3.out (Nat.le_refl _) l4); have C4 := Lib.hid (C3.out.below l4)
  clear r4 l4 L3 C3 D3
  go_wp2_with fail
  refine (words_any _ _ _ HI.out.1 C4.out).mono ?_
  rintro e w5 ⟨v5, rfl, r5, l5⟩
  have R5 := Lib.hid r5; have L5 := Lib.hid (btrans L4.out (Nat.le_refl _) l5); have C5 := Lib.hid (C4.out.below l5)
  have R4' := Lib.hid (ownsRow_only R4.out (Only.empty l5 (Nat.le_refl _)) (fun _ _ h => h))
  clear r5 l5 L4 C4 R4
  go_wp2_with fail
  refine (sameWords_any R4'.out R5.out HI.out.1.small).mono ?_
  rintro e w6 ⟨rfl, l6⟩
  have L6 := Lib.hid (btrans L5.out (Nat.le_refl _) l6); have C6 := Lib.hid (C5.out.below l6)
  clear l6 L5 C5 R4' R5
  go_wp2_with fail
  refine (log_any _ _ _ HI.out.1 C6.out).mono ?_
  rintro e w7 ⟨v7, rfl, r7, l7⟩
  obtain ⟨a7, c7, rfl, hd7⟩ := dones_of r7 HREP.out.2
  have D7 := Lib.hid hd7; have L7 := Lib.hid (btrans L6.out (Nat.le_refl _) l7); have C7 := Lib.hid (C6.out.below l7)
  clear r7 l7 hd7 L6 C6
  go_wp2_with fail
  refine (right_any w7 m a7 _ c7 s.log D7.out (by omega)).mono ?_
  rw [HRV.out]
  rintro e w8 ⟨rfl, l8⟩
  have L8 := Lib.hid (btrans L7.out (Nat.le_refl _) l8); have C8 := Lib.hid (C7.out.below l8)
  clear l8 L7 C7 D7
  go_wp2_with fail
  refine (log_any _ _ _ HI.out.1 C8.out).mono ?_
  rintro e w9 ⟨v9, rfl, r9, l9⟩
  obtain ⟨a9, c9, rfl⟩ := ownsRow_slice r9
  have L9 := Lib.hid (btrans L8.out (Nat.le_refl _) l9); have C9 := Lib.hid (C8.out.below l9)
  clear r9 l9 L8 C8
  go_wp2_with fail
  refine (steps_any _ _ _ HI.out.1 C9.out).mono ?_
  rintro e w10 ⟨rfl, rfl⟩
  go_wp2_with fail
  go_ret
  exact ⟨by simp, L9.out⟩
end Go.Proofs.Ytiopopplbehieaa.Cel
