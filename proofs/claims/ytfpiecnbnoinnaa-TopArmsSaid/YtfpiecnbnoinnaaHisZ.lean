/- A beginning of right events is right, and so are one attempt's. -/
import Derived.Test.YtfpiecnbnoinnaaHisY
namespace Go.Proofs.Ytfpiecnbnoinnaa.His
open Go.RowKit Go.Proofs.Ytfpiecnbnoinnaa.Wri Go.ChangeShapes Go.WideShapes Go.ChangeAt
set_option linter.unusedSimpArgs false
set_option linter.unusedVariables false
set_option maxRecDepth 50000

theorem pairs_cell {B : Nat} {w : World} {g cap n : Nat} {f : Frm} (h : w.ownsRow B 61 2 (.slice (some ⟨g, 0, none⟩) n cap) n (pairVals f)) {i : Nat} {p : Int × Int} (hi : f[i]? = some p) :
    w.cell? ⟨g, i * 2, none⟩ = some (.int .i64 p.1) ∧ w.cell? ⟨g, i * 2 + 1, none⟩ = some (.int .u64 p.2) := by
  obtain ⟨h0, h1⟩ := pairVals_get f i p hi
  have hc := h.cells (g := g) rfl
  have e0 := hc _ _ h0
  have e1 := hc _ _ h1
  rw [Addr.add_lit, Nat.zero_add] at e0 e1
  exact ⟨e0, e1⟩
theorem samePairs_any {w : World} {v v' : Value} {b0 b0' n : Nat} {f : Frm} (h : w.ownsRow b0 61 2 v n (pairVals f)) (h' : w.ownsRow b0' 61 2 v' n (pairVals f)) (hn : n ≤ 1000) :
    Calls Try.prog 14 #[v, v'] w fun e w' => e = .returned (.bool true) ∧ Below w.heap.size w w' := by
  have hl : f.length = n := by have := h.1; rw [pairVals_length] at this; omega
  rcases h.2 with ⟨rfl, rfl⟩ | ⟨g, cap, cur, rfl, _⟩
  · rcases h'.2 with ⟨rfl, _⟩ | ⟨g', cap', cur', rfl, _⟩
    all_goals
      clear h h' hl
      go_enter Try.func14, Try.ntmps14
      go_wp2_with fail
      go_loopw [5] (fun i wr => i = .int .i64 0 ∧ wr = w) (fun _ _ => 0)
      case atStart => exact ⟨rfl, rfl⟩
      case round =>
        obtain ⟨rfl, rfl⟩ := hrel
        go_wp2_with fail
        go_ret
        exact ⟨rfl, Below.refl _ _⟩
  · rcases h'.2 with ⟨rfl, rfl⟩ | ⟨g', cap', cur', rfl, _⟩
    · clear h h' hl
      go_enter Try.func14, Try.ntmps14
      go_wp2_with fail
      go_loopw [5] (fun i wr => i = .int .i64 0 ∧ wr = w) (fun _ _ => 0)
      case atStart => exact ⟨rfl, rfl⟩
      case round =>
        obtain ⟨rfl, rfl⟩ := hrel
        go_wp2_with fail
        go_ret
        exact ⟨rfl, Below.refl _ _⟩
    · have hc : ∀ i, i < n → ∃ p : Int × Int, (w.cell? ⟨g, i * 2, none⟩ = some (.int .i64 p.1) ∧ w.cell? ⟨g, i * 2 + 1, none⟩ = some (.int .u64 p.2)) ∧ (w.cell? ⟨g', i * 2, none⟩ = some (.int .i64 p.1) ∧ w.cell? ⟨g', i * 2 + 1, none⟩ = some (.int .u64 p.2)) := by
        intro i hi
        have hp : f[i]? = some (f[i]'(by omega)) := List.getElem?_eq_getElem _
        exact ⟨_, pairs_cell h hp, pairs_cell h' hp⟩
      have HC := Lib.hid hc
      clear h h' hl hc
      go_enter Try.func14, Try.ntmps14
      go_wp2_with fail
      go_loopw [5] (fun i wr => ∃ k : Nat, i = .int .i64 k ∧ k ≤ n ∧ Below w.heap.size w wr) (fun i _ => n - (intOf i).toNat)
      case atStart => exact ⟨0, rfl, Nat.zero_le _, Below.refl _ _⟩
      case round =>
        obtain ⟨k, rfl, hk, hL⟩ := hrel
        have HL := Lib.hid hL; clear hL
        by_cases hlt : k < n
        · obtain ⟨⟨pt, pv⟩, ⟨c0, c1⟩, e0, e1⟩ := HC.out k hlt
          replace c0 := bkeep HL.out c0; replace c1 := bkeep HL.out c1
          replace e0 := bkeep HL.out e0; replace e1 := bkeep HL.out e1
          simp only at c0 c1 e0 e1
          go_wp2_with fail
          go_quiet (fail)
          go_wp2_with fail
          exact ⟨⟨k + 1, by go_num, by omega, below_drewN HL.out _⟩, by simp [intOf]; omega⟩
        · go_wp2_with fail
          go_ret
          exact ⟨rfl, HL.out⟩
theorem right_t (w : World) (p : Option Addr) (n c : Nat) (l : List Ev) (h : EvsIn w p n l) (hok : EvsOk l) (hn : n ≤ 400) (r : Bool) (hr : goodL l = r) :
    Calls Try.prog 10 #[.slice p n c] w fun e w' => e = .returned (.bool r) ∧ Below w.heap.size w w' := by
  rw [← hr]; exact right_any w p n c l h hok hn
theorem stateH_r (w : World) (p : Option Addr) (n c : Nat) (l : List Ev) (h : EvsIn w p n l) (hn : n ≤ 1000000) (a r : Int) (hr : stateL l a = r) :
    Calls Try.prog 13 #[.slice p n c, .int .i64 a] w fun e w' => e = .returned (.int .u8 r) ∧ Below w.heap.size w w' := by
  rw [← hr]; exact state_any w p n c l h hn a
theorem writesH_r (w : World) (a : Option Addr) (n c : Nat) (l : List Ev) (h : EvsIn w a n l) (hok : ∀ x ∈ l, 0 ≤ x.v ∧ x.v < 18446744073709551616) (hn : n ≤ 1000000) (t : Int) (f : Frm) (hf : allK (getL (ownL l t)) 12 = f) :
    Calls Try.prog 15 #[.slice a n c, .int .i64 t] w (PairsPost w f) := by
  rw [← hf]; exact writesH_any w a n c l h hok hn t
theorem EvsOk.cut {l : List Ev} (h : EvsOk l) (n : Int) : EvsOk (cutL l n) := fun x hx => h x (List.mem_filter.1 hx).1
theorem EvsOk.take {l : List Ev} (h : EvsOk l) (n : Nat) : EvsOk (l.take n) := fun x hx => h x (List.mem_of_mem_take hx)
set_option maxHeartbeats 6400000 in
theorem begins_law {H : Type} (enc : TypeId × Value → H) (w : World) (a : Option Addr) (len cap : Nat) (h : Fits enc Try.prog w 22 [.slice a len cap]) (x0 : Int) (hx0 : (Lit.int .u8 x0).wf = true) (y : Int) (hy : (Lit.int .i64 y).wf = true) :
    Calls Try.prog 3 #[.slice a len cap, .int .u8 x0, .int .i64 y] w fun e w' => e = .returned (.bool true) ∧ Below w.heap.size w w' := by
  have hb := bounds_u8 hx0
  have hcap := fits_cap h Try.underlying22
  obtain ⟨l, hl, hok, hfew⟩ := evs_of h
  have hm60 : min len 60 ≤ 60 := Nat.min_le_right _ _
  have hmc : min len 60 ≤ cap := Nat.le_trans (Nat.min_le_left _ _) hcap
  obtain ⟨n, hn⟩ : ∃ n, min len 60 = n := ⟨_, rfl⟩
  rw [hn] at hl hfew hm60 hmc
  have HF := Lib.hid (hfew w)
  have LL0 := Lib.hid (Below.refl w.heap.size w)
  have HE0 := Lib.hid hl
  have hn6 : n ≤ 1000000 := by omega
  have HOK := Lib.hid hok
  clear h hx0 hok hfew hn hl hcap hy
  cases hg : goodL l with
  | false =>
    have HR3 := Lib.hid (right_t w a n cap l HE0.out HOK.out (by omega) _ hg)
    clear hg
    go_enter Try.func3, Try.ntmps3
    go_wp2_with fail
    refine HF.out.mono ?_
    rintro e w0 ⟨rfl, rfl⟩
    go_wp2_with fail
    refine HR3.out.mono ?_
    rintro e w1 ⟨rfl, l1⟩
    have HE1 := Lib.hid (HE0.out.below l1)
    have LL1 := Lib.hid (btrans LL0.out (Nat.le_refl _) l1)
    clear l1
    go_wp2_with fail
    refine (live_any _).mono ?_; rintro e w2 ⟨rfl, l2⟩; have HE2 := Lib.hid (HE1.out.below l2); have LL2 := Lib.hid (btrans LL1.out (Nat.le_refl _) l2); clear l2; go_wp2_with fail
    go_ret
    exact ⟨rfl, LL2.out⟩
  | true =>
    have HR3 := Lib.hid (right_t w a n cap l HE0.out HOK.out (by omega) _ hg)
    have HG := Lib.hid ((goodL_iff l).1 hg)
    clear hg
    go_enter Try.func3, Try.ntmps3
    go_wp2_with fail
    refine HF.out.mono ?_
    rintro e w0 ⟨rfl, rfl⟩
    go_wp2_with fail
    refine HR3.out.mono ?_
    rintro e w1 ⟨rfl, l1⟩
    have HE1 := Lib.hid (HE0.out.below l1)
    have LL1 := Lib.hid (btrans LL0.out (Nat.le_refl _) l1)
    clear l1
    go_wp2_with fail
    obtain ⟨kk, hkk, hkn⟩ : ∃ kk : Nat, x0 % ((n : Int) + 1) = kk ∧ kk ≤ n := ⟨(x0 % ((n : Int) + 1)).toNat, by
      have h1 := Int.emod_nonneg x0 (show ((n : Int) + 1) ≠ 0 by omega)
      omega, by
      have h1 := Int.emod_nonneg x0 (show ((n : Int) + 1) ≠ 0 by omega)
      have h2 := Int.emod_lt_of_pos x0 (show 0 < ((n : Int) + 1) by omega)
      omega⟩
    rw [hkk]
    clear hkk
    refine (cut_any _ a n cap l HE1.out hn6 y).mono ?_
    rintro e w2 ⟨v, rfl, hv, l2⟩
    obtain ⟨va, vc, rfl, hin⟩ := EvsAt.open hv
    have HC2 := Lib.hid hin
    obtain ⟨m, hm⟩ : ∃ m, (cutL l y).length = m := ⟨_, rfl⟩
    have hmn : m ≤ n := by
      have h2 := cutL_len l y n
      rw [← HE0.out.1, List.take_length] at h2
      have := HE0.out.1
      omega
    rw [hm] at HC2 ⊢
    have HE2 := Lib.hid (HE1.out.below l2)
    have LL2 := Lib.hid (btrans LL1.out (Nat.le_refl _) l2)
    clear hv hin hm l2
    go_wp2_with fail
    refine (live_any _).mono ?_
    rintro e w3 ⟨rfl, l3⟩
    have HE3 := Lib.hid (HE2.out.below l3); have LL3 := Lib.hid (btrans LL2.out (Nat.le_refl _) l3); have HC3 := Lib.hid (HC2.out.below l3); clear l3; go_wp2_with fail
    have hgk : goodL (l.take kk) = true := (goodL_iff _).2 (HG.out.take kk)
    have hgc : goodL (cutL l y) = true := (goodL_iff _).2 (HG.out.cut y)
    have hsc : stateL (cutL l y) y = stateL l y := stateL_cut l y
    have hoc : ownL (cutL l y) y = ownL l y := ownL_cut l y
    obtain ⟨s, hs⟩ : ∃ s, stateL l y = s := ⟨_, rfl⟩
    obtain ⟨f, hf⟩ : ∃ f, allK (getL (ownL l y)) 12 = f := ⟨_, rfl⟩
    rw [hs] at hsc
    have hf2 : allK (getL (ownL (cutL l y) y)) 12 = f := by rw [hoc]; exact hf
    have HGK := Lib.hid hgk; have HGC := Lib.hid hgc; have HSC := Lib.hid hsc; have HS := Lib.hid hs; have HFF := Lib.hid hf; have HF2 := Lib.hid hf2
    have hfl : f.length ≤ 1000 := by rw [← hf]; exact Nat.le_trans (allK_len _ 12) (by decide)
    clear hgk hgc hsc hoc hs hf hf2
    refine (right_t _ a kk cap _ (HE3.out.take hkn) (HOK.out.take kk) (by omega) _ HGK.out).mono ?_
    rintro e w4 ⟨rfl, l4⟩
    have HE4 := Lib.hid (HE3.out.below l4); have LL4 := Lib.hid (btrans LL3.out (Nat.le_refl _) l4); have HC4 := Lib.hid (HC3.out.below l4); clear l4; go_wp2_with fail
    refine (right_t _ va m vc _ HC4.out (HOK.out.cut y) (by omega) _ HGC.out).mono ?_
    rintro e w5 ⟨rfl, l5⟩
    have HE5 := Lib.hid (HE4.out.below l5); have LL5 := Lib.hid (btrans LL4.out (Nat.le_refl _) l5); have HC5 := Lib.hid (HC4.out.below l5); clear l5; go_wp2_with fail
    refine (stateH_r _ va m vc _ HC5.out (by omega) y _ HSC.out).mono ?_
    rintro e w6 ⟨rfl, l6⟩
    have HE6 := Lib.hid (HE5.out.below l6); have LL6 := Lib.hid (btrans LL5.out (Nat.le_refl _) l6); have HC6 := Lib.hid (HC5.out.below l6); clear l6; go_wp2_with fail
    refine (stateH_r _ a n cap _ HE6.out hn6 y _ HS.out).mono ?_
    rintro e w7 ⟨rfl, l7⟩
    have HE7 := Lib.hid (HE6.out.below l7); have LL7 := Lib.hid (btrans LL6.out (Nat.le_refl _) l7); have HC7 := Lib.hid (HC6.out.below l7); clear l7; go_wp2_with fail
    refine (writesH_r _ va m vc _ HC7.out (fun x hx => (HOK.out.cut y x hx).2) (by omega) y _ HF2.out).mono ?_
    rintro e w8 ⟨v1, rfl, hv1, l8⟩
    have HV1 := Lib.hid hv1
    clear hv1
    have HE8 := Lib.hid (HE7.out.below l8); have LL8 := Lib.hid (btrans LL7.out (Nat.le_refl _) l8); have HC8 := Lib.hid (HC7.out.below l8); clear l8; go_wp2_with fail
    refine (writesH_r _ a n cap _ HE8.out (fun x hx => (HOK.out x hx).2) hn6 y _ HFF.out).mono ?_
    rintro e w9 ⟨v2, rfl, hv2, l9⟩
    have HV2 := Lib.hid hv2
    have HV19 := Lib.hid (pairs_grow HV1.out l9)
    clear hv2
    have HE9 := Lib.hid (HE8.out.below l9); have LL9 := Lib.hid (btrans LL8.out (Nat.le_refl _) l9); have HC9 := Lib.hid (HC8.out.below l9); clear l9; go_wp2_with fail
    refine (samePairs_any HV19.out HV2.out hfl).mono ?_
    rintro e w10 ⟨rfl, l10⟩
    have LF := Lib.hid (btrans LL9.out (Nat.le_refl _) l10)
    clear l10
    go_wp2_with fail
    go_ret
    exact ⟨rfl, LF.out⟩
end Go.Proofs.Ytfpiecnbnoinnaa.His
