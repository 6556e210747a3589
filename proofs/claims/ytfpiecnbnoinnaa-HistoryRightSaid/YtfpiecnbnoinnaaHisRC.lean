/- Whether events can have been, which attempts there are, those in a state: both sides. -/
import Derived.Test.YtfpiecnbnoinnaaHisRB
import Derived.Test.YtfpiecnbnoinnaaHisZ
namespace Go.Proofs.Ytfpiecnbnoinnaa.His
open Go.RowKit Go.Proofs.Ytfpiecnbnoinnaa.Wri Go.ChangeShapes Go.WideShapes Go.ChangeAt
set_option linter.unusedSimpArgs false
set_option linter.unusedVariables false
set_option maxRecDepth 50000

set_option maxHeartbeats 1600000 in
theorem rright_any (w : World) (p : Option Addr) (n c : Nat) (l : List Ev) (h : EvsIn w p n l) (hok : EvsOk l) (hn : n ≤ 400) (r : Bool) (hr : goodL l = r) :
    Calls Try.prog 23 #[.slice p n c] w fun e w' => e = .returned (.bool r) ∧ Below w.heap.size w w' := by
  have H := Lib.hid h; have HL := Lib.hid h.1; have HOK := Lib.hid hok; have HR := Lib.hid hr
  have d4 : decide ((400 : Int) < n) = false := by simp; omega
  clear h hok hr
  go_enter Try.func23, Try.ntmps23
  go_wp2_with fail
  go_loopw [3] (fun i wr => ∃ k : Nat, i = .int .i64 k ∧ k ≤ n ∧ Good (l.take k) ∧ Below w.heap.size w wr) (fun i _ => n - (intOf i).toNat)
  case atStart => exact ⟨0, rfl, Nat.zero_le _, fun i x h => by simp at h, Below.refl _ _⟩
  case round =>
    obtain ⟨k, rfl, hk, hG, hB⟩ := hrel
    have HG := Lib.hid hG; have HB := Lib.hid hB
    clear hG hB
    by_cases hlt : k < n
    · have hx : l[k]? = some (l[k]'(by rw [HL.out]; exact hlt)) := List.getElem?_eq_getElem _
      obtain ⟨x, hxe⟩ : ∃ x, l[k]'(by rw [HL.out]; exact hlt) = x := ⟨_, rfl⟩
      rw [hxe] at hx
      have hf := rfits_any wr p n c l (H.out.below HB.out) (fun x hx => (HOK.out x hx).2) (by omega) k hlt x hx
      have hw1 : IntKind.i64.wrap ((k : Int) + 1) = (k : Int) + 1 := by rw [IntKind.wrap_i64]; omega
      cases hs : stepA (stA (l.take k) x.a) x with
      | none =>
        rw [hs] at hf
        have HF := Lib.hid hf
        have HT := Lib.hid (show r = false by rw [← HR.out]; exact good_no hx hs)
        clear hf hs hx hxe
        go_wp2_with fail
        refine HF.out.mono ?_
        rintro e w1 ⟨rfl, l1⟩
        have HB1 := Lib.hid (btrans HB.out (Nat.le_refl _) l1)
        clear l1
        go_wp2_with fail
        go_ret
        exact ⟨by rw [HT.out]; rfl, HB1.out⟩
      | some a =>
        rw [hs] at hf
        have HF := Lib.hid hf
        have HG2 := Lib.hid (updA_st hx HG.out hs).2
        clear hf hs hx hxe
        go_wp2_with fail
        refine HF.out.mono ?_
        rintro e w1 ⟨rfl, l1⟩
        have HB1 := Lib.hid (btrans HB.out (Nat.le_refl _) l1)
        clear l1
        go_wp2_with fail
        exact ⟨⟨k + 1, by go_num, by omega, HG2.out, HB1.out⟩, by simp [intOf]; omega⟩
    · obtain rfl : k = n := by omega
      have hg := HG.out
      rw [List.take_of_length_le (by rw [HL.out]; exact Nat.le_refl _)] at hg
      have HT := Lib.hid (show r = true by rw [← HR.out]; exact (goodL_iff l).2 hg)
      clear hg
      go_wp2_with fail
      go_ret
      exact ⟨by rw [HT.out]; rfl, HB.out⟩
set_option maxHeartbeats 1600000 in
theorem sameInts_any (w : World) (a a' : Option Addr) (n c c' : Nat) (ts : List Int) (h : IntsIn w a n ts) (h' : IntsIn w a' n ts) (hn : n ≤ 1000000) :
    Calls Try.prog 24 #[.slice a n c, .slice a' n c'] w fun e w' => e = .returned (.bool true) ∧ Below w.heap.size w w' := by
  have H := Lib.hid h
  have H' := Lib.hid h'
  clear h h'
  go_enter Try.func24, Try.ntmps24
  go_wp2_with fail
  go_loopw [5] (fun i wr => ∃ k : Nat, i = .int .i64 k ∧ k ≤ n ∧ Below w.heap.size w wr) (fun i _ => n - (intOf i).toNat)
  case atStart => exact ⟨0, rfl, Nat.zero_le _, Below.refl _ _⟩
  case round =>
    obtain ⟨k, rfl, hk, hB⟩ := hrel
    have HB := Lib.hid hB
    clear hB
    by_cases hlt : k < n
    · obtain ⟨g, off, rfl, hc⟩ := H.out.2.resolve_left (by omega)
      obtain ⟨g', off', rfl, hc'⟩ := H'.out.2.resolve_left (by omega)
      have c0 := bkeep HB.out (hc k hlt)
      have d0 := bkeep HB.out (hc' k hlt)
      have hw1 : IntKind.i64.wrap ((k : Int) + 1) = (k : Int) + 1 := by rw [IntKind.wrap_i64]; omega
      clear hc hc'
      generalize ts.getD k 0 = t at *
      go_wp2_with fail
      go_quiet (fail)
      go_wp2_with fail
      exact ⟨⟨k + 1, by go_num, by omega, below_drewN HB.out _⟩, by simp [intOf]; omega⟩
    · go_wp2_with fail
      go_ret
      exact ⟨rfl, HB.out⟩
set_option maxHeartbeats 6400000 in
theorem right_law {H : Type} (enc : TypeId × Value → H) (w : World) (a : Option Addr) (len cap : Nat) (h : Fits enc Try.prog w 22 [.slice a len cap]) (s : Int) (hs : (Lit.int .u8 s).wf = true) :
    Calls Try.prog 7 #[.slice a len cap, .int .u8 s] w fun e w' => e = .returned (.bool true) ∧ Below w.heap.size w w' := by
  obtain ⟨l, hl, hok, hfew⟩ := evs_of h
  have hm60 : min len 60 ≤ 60 := Nat.min_le_right _ _
  obtain ⟨n, hn⟩ : ∃ n, min len 60 = n := ⟨_, rfl⟩
  rw [hn] at hl hfew hm60
  have HF := Lib.hid (hfew w)
  have LL0 := Lib.hid (Below.refl w.heap.size w)
  have HE0 := Lib.hid hl
  have hn6 : n ≤ 1000000 := by omega
  have HOK := Lib.hid hok
  have HAL := Lib.hid (show (attL l).length ≤ 1000000 from by
    have h2 := attL_len l []
    simp at h2
    have := hl.1
    unfold attL
    omega)
  have HIL := Lib.hid (show (inL l s).length ≤ 1000000 from by
    have h2 := inL_len l s
    have := hl.1
    omega)
  obtain ⟨r, hr⟩ : ∃ r, goodL l = r := ⟨_, rfl⟩
  have HR := Lib.hid hr
  clear h hs hok hfew hn hl hr
  go_enter Try.func7, Try.ntmps7
  go_wp2_with fail
  refine HF.out.mono ?_
  rintro e w0 ⟨rfl, rfl⟩
  go_wp2_with fail
  refine (live_any _).mono ?_
  rintro e w1 ⟨rfl, l1⟩
  have HE1 := Lib.hid (HE0.out.below l1); have LL1 := Lib.hid (btrans LL0.out (Nat.le_refl _) l1)
  clear l1
  go_wp2_with fail
  refine (right_t _ a n cap l HE1.out HOK.out (by omega) _ HR.out).mono ?_
  rintro e w2 ⟨rfl, l2⟩
  have HE2 := Lib.hid (HE1.out.below l2); have LL2 := Lib.hid (btrans LL1.out (Nat.le_refl _) l2)
  clear l2
  go_wp2_with fail
  refine (rright_any _ a n cap l HE2.out HOK.out (by omega) _ HR.out).mono ?_
  rintro e w3 ⟨rfl, l3⟩
  have HE3 := Lib.hid (HE2.out.below l3); have LL3 := Lib.hid (btrans LL2.out (Nat.le_refl _) l3)
  clear l3
  have hrr : (r == r) = true := by simp
  go_wp2_with fail
  refine (attempts_any _ a n cap l HE3.out hn6).mono ?_
  rintro e w4 ⟨v4, rfl, hv4, l4⟩
  obtain ⟨a4, c4, rfl, i4⟩ := IntsAt.open hv4
  have HE4 := Lib.hid (HE3.out.below l4); have LL4 := Lib.hid (btrans LL3.out (Nat.le_refl _) l4)
  have I4 := Lib.hid i4
  clear l4 i4 hv4
  go_wp2_with fail
  refine (rattempts_any _ a n cap l HE4.out hn6).mono ?_
  rintro e w5 ⟨v5, rfl, hv5, l5⟩
  obtain ⟨a5, c5, rfl, i5⟩ := IntsAt.open hv5
  have HE5 := Lib.hid (HE4.out.below l5); have LL5 := Lib.hid (btrans LL4.out (Nat.le_refl _) l5)
  have I5 := Lib.hid i5; have I45 := Lib.hid (I4.out.below l5)
  clear l5 i5 hv5
  go_wp2_with fail
  refine (sameInts_any _ a4 a5 _ c4 c5 _ I45.out I5.out HAL.out).mono ?_
  rintro e w6 ⟨rfl, l6⟩
  have HE6 := Lib.hid (HE5.out.below l6); have LL6 := Lib.hid (btrans LL5.out (Nat.le_refl _) l6)
  clear l6
  go_wp2_with fail
  refine (in_any _ a n cap l HE6.out hn6 s).mono ?_
  rintro e w7 ⟨v7, rfl, hv7, l7⟩
  obtain ⟨a7, c7, rfl, i7⟩ := IntsAt.open hv7
  have HE7 := Lib.hid (HE6.out.below l7); have LL7 := Lib.hid (btrans LL6.out (Nat.le_refl _) l7)
  have I7 := Lib.hid i7
  clear l7 i7 hv7
  go_wp2_with fail
  refine (rin_any _ a n cap l HE7.out hn6 s).mono ?_
  rintro e w8 ⟨v8, rfl, hv8, l8⟩
  obtain ⟨a8, c8, rfl, i8⟩ := IntsAt.open hv8
  have HE8 := Lib.hid (HE7.out.below l8); have LL8 := Lib.hid (btrans LL7.out (Nat.le_refl _) l8)
  have I8 := Lib.hid i8; have I78 := Lib.hid (I7.out.below l8)
  clear l8 i8 hv8
  go_wp2_with fail
  refine (sameInts_any _ a7 a8 _ c7 c8 _ I78.out I8.out HIL.out).mono ?_
  rintro e w9 ⟨rfl, l9⟩
  have HE9 := Lib.hid (HE8.out.below l9); have LL9 := Lib.hid (btrans LL8.out (Nat.le_refl _) l9)
  clear l9
  go_wp2_with fail
  go_ret
  exact ⟨rfl, LL9.out⟩
end Go.Proofs.Ytfpiecnbnoinnaa.His
