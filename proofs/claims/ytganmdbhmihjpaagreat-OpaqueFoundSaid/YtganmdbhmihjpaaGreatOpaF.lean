/- The real side: whether numbers are some others, each once. -/
import Derived.Test.YtganmdbhmihjpaaGreatOpaE
import Derived.Test.YtganmdbhmihjpaaGreatMgf
namespace Go.Proofs.YtganmdbhmihjpaaGreat.Opa
open Go.RowKit Go.Proofs.YtganmdbhmihjpaaGreat.Wri Go.Proofs.YtganmdbhmihjpaaGreat.His Go.Proofs.YtganmdbhmihjpaaGreat.Tgu
set_option linter.unusedSimpArgs false
set_option linter.unusedVariables false
set_option maxRecDepth 50000

theorem list_ext_getD {xs ys : List Int} {n : Nat} (hx : xs.length = n) (hy : ys.length = n) (h : ∀ i, i < n → xs.getD i 0 = ys.getD i 0) : xs = ys := by
  apply List.ext_getElem (by omega)
  intro i h1 h2
  have := h i (by omega)
  rwa [List.getD_eq_getElem?_getD, List.getD_eq_getElem?_getD, List.getElem?_eq_getElem h1, List.getElem?_eq_getElem h2] at this
set_option maxHeartbeats 1600000 in
theorem equal_any (w : World) (a1 a2 : Option Addr) (n1 n2 c1 c2 : Nat) (xs ys : List Int) (h1 : IntsIn w a1 n1 xs) (h2 : IntsIn w a2 n2 ys) (hn : n1 ≤ 1000000) (hn2 : n2 ≤ 1000000) :
    Calls Tryz.prog 70 #[.slice a1 n1 c1, .slice a2 n2 c2] w fun e w' => e = .returned (.bool (decide (xs = ys))) ∧ Below w.heap.size w w' := by
  have H1 := Lib.hid h1; have H2 := Lib.hid h2
  have hl1 := h1.1; have hl2 := h2.1
  obtain ⟨r, hr⟩ : ∃ r, decide (xs = ys) = r := ⟨_, rfl⟩
  rw [hr]
  clear h1 h2
  by_cases hne : n1 = n2
  · subst hne
    have HR := Lib.hid hr; have HL1 := Lib.hid hl1; have HL2 := Lib.hid hl2
    clear hr hl1 hl2
    have hnn : ((n1 : Int) != n1) = false := by simp
    go_enter Tryz.func70, Tryz.ntmps70
    go_wp2_with fail
    go_loopw [13] (fun i wr => ∃ k : Nat, i = .int .i64 k ∧ k ≤ n1 ∧ (∀ i, i < k → xs.getD i 0 = ys.getD i 0) ∧ Below w.heap.size w wr) (fun i _ => n1 - (intOf i).toNat)
    case atStart => exact ⟨0, rfl, Nat.zero_le _, fun i hi => by omega, Below.refl _ _⟩
    case round =>
      obtain ⟨k, rfl, hk, hE, hB⟩ := hrel
      have HE := Lib.hid hE; have HB := Lib.hid hB
      clear hE hB
      by_cases hlt : k < n1
      · obtain ⟨b1, o1, rfl, hc1⟩ := H1.out.2.resolve_left (by omega)
        obtain ⟨b2, o2, rfl, hc2⟩ := H2.out.2.resolve_left (by omega)
        have e1 := bkeep HB.out (hc1 k hlt)
        have e2 := bkeep HB.out (hc2 k hlt)
        have hlt' : (k : Int) < n1 := by omega
        have hw1 : IntKind.i64.wrap ((k : Int) + 1) = (k : Int) + 1 := by rw [IntKind.wrap_i64]; omega
        clear hc1 hc2
        obtain ⟨x, hx⟩ : ∃ x, xs.getD k 0 = x := ⟨_, rfl⟩
        obtain ⟨y, hy⟩ : ∃ y, ys.getD k 0 = y := ⟨_, rfl⟩
        rw [hx] at e1; rw [hy] at e2
        have HXY := Lib.hid (And.intro hx hy)
        clear hx hy
        cases hxy : (x == y)
        · have hne : (x != y) = true := by simp only [bne, hxy]; rfl
          have hrf : r = false := by
            rw [← HR.out]
            simp only [decide_eq_false_iff_not]
            intro e
            have h3 := HXY.out
            rw [e] at h3
            have : x = y := h3.1.symm.trans h3.2
            simp [this] at hxy
          subst hrf
          clear hxy
          go_wp2_with fail
          go_quiet (fail)
          go_wp2_with fail
          go_ret
          exact ⟨rfl, below_drewN HB.out _⟩
        · have hne : (x != y) = false := by simp only [bne, hxy]; rfl
          have HE2 := Lib.hid (show ∀ i, i < k + 1 → xs.getD i 0 = ys.getD i 0 from fun i hi => by
            by_cases h : i = k
            · subst h
              rw [HXY.out.1, HXY.out.2]
              simpa using hxy
            · exact HE.out i (by omega))
          clear hxy
          go_wp2_with fail
          go_quiet (fail)
          go_wp2_with fail
          exact ⟨⟨k + 1, by go_num, by omega, HE2.out, below_drewN HB.out _⟩, by simp [intOf]; omega⟩
      · obtain rfl : k = n1 := by omega
        have hrt : r = true := by
          rw [← HR.out]
          simp only [decide_eq_true_eq]
          exact list_ext_getD HL1.out HL2.out HE.out
        subst hrt
        go_wp2_with fail
        go_ret
        exact ⟨rfl, HB.out⟩
  · have hrf : r = false := by
      rw [← hr]
      simp only [decide_eq_false_iff_not]
      intro e
      exact hne (by rw [← hl1, ← hl2, e])
    subst hrf
    have hnn : ((n1 : Int) != n2) = true := by
      simp only [bne_iff_ne, ne_eq]; omega
    clear hr hl1 hl2
    go_enter Tryz.func70, Tryz.ntmps70
    go_wp2_with fail
    go_ret
    exact ⟨rfl, Below.refl _ _⟩
set_option maxHeartbeats 3200000 in
theorem cmp_strict (w : World) (g n cap : Nat) (c : List Int) (h : Tgu.RowI w g n cap c) (hs : Strict c n) (hn : n ≤ 1000) :
    Calls Tryz.prog 71 #[.slice (some ⟨g, 0, none⟩) n cap] w fun e w' => e = .returned (.slice (some ⟨g, 0, none⟩) n cap) ∧ Below w.heap.size w w' := by
  have H := Lib.hid h; have HS := Lib.hid hs
  clear h hs
  by_cases h2 : n < 2
  · have h2' : (n : Int) < 2 := by omega
    go_enter Tryz.func71, Tryz.ntmps71
    go_wp2_with fail
    go_ret
    exact ⟨rfl, Below.refl _ _⟩
  have h2' : ¬ (n : Int) < 2 := by omega
  go_enter Tryz.func71, Tryz.ntmps71
  go_wp2_with fail
  go_loopw [3] (fun i wr => ∃ k : Nat, i = .int .i64 k ∧ 1 ≤ k ∧ k ≤ n ∧ Below w.heap.size w wr) (fun i _ => n - (intOf i).toNat)
  case atStart => exact ⟨1, rfl, Nat.le_refl _, by omega, Below.refl _ _⟩
  case round =>
    obtain ⟨k, rfl, hk1, hk, hB⟩ := hrel
    have HB := Lib.hid hB
    clear hB
    by_cases hlt : k < n
    · obtain ⟨r, hr⟩ : ∃ r, k = r + 1 := ⟨k - 1, by omega⟩
      have hrn : r < n := by omega
      have e0 := bkeep HB.out (H.out.cell hlt)
      have e1 := bkeep HB.out (H.out.cell hrn)
      have hwq : IntKind.i64.wrap ((k : Int) - 1) = (r : Int) := by rw [IntKind.wrap_i64]; omega
      have hw1 : IntKind.i64.wrap ((k : Int) + 1) = (k : Int) + 1 := by rw [IntKind.wrap_i64]; omega
      have hlt' : (k : Int) < n := by omega
      have hrn' : (r : Int) < n := by omega
      have hcs := HS.out r k (by omega) hlt
      obtain ⟨x, hx⟩ : ∃ x, c.getD k 0 = x := ⟨_, rfl⟩
      obtain ⟨y, hy⟩ : ∃ y, c.getD r 0 = y := ⟨_, rfl⟩
      rw [hx] at e0 hcs; rw [hy] at e1 hcs
      have hxy : (x == y) = false := by simp; omega
      clear hx hy hr hcs
      go_wp2_with fail
      go_quiet (fail)
      go_wp2_with fail
      exact ⟨⟨k + 1, by go_num, by omega, by omega, below_drewN HB.out _⟩, by simp [intOf]; omega⟩
    · obtain rfl : k = n := by omega
      go_wp2_with fail
      go_ret
      exact ⟨rfl, HB.out⟩
theorem pairwise_getD {R : Int → Int → Prop} {c : List Int} (h : c.Pairwise R) (p q : Nat) (hpq : p < q) (hq : q < c.length) : R (c.getD p 0) (c.getD q 0) := by
  have := List.pairwise_iff_getElem.1 h p q (by omega) hq hpq
  rwa [List.getD_eq_getElem?_getD, List.getD_eq_getElem?_getD, List.getElem?_eq_getElem (by omega), List.getElem?_eq_getElem hq]
theorem pairwise_of_getD {R : Int → Int → Prop} {c : List Int} (h : ∀ p q, p < q → q < c.length → R (c.getD p 0) (c.getD q 0)) : c.Pairwise R := by
  refine List.pairwise_iff_getElem.2 fun p q hp hq hpq => ?_
  have := h p q hpq hq
  rwa [List.getD_eq_getElem?_getD, List.getD_eq_getElem?_getD, List.getElem?_eq_getElem hp, List.getElem?_eq_getElem hq] at this
theorem sortL_le (zs : List Int) : (sortL zs).Pairwise (fun x y => x ≤ y) := by
  have := List.pairwise_mergeSort (le := fun x y : Int => decide (x ≤ y)) (fun a b c h1 h2 => by simp at *; omega) (fun a b => by simp; omega) zs
  exact this.imp (by simp)
theorem strict_nodup {c : List Int} (h : Strict c c.length) : c.Nodup :=
  (pairwise_of_getD (R := fun x y => x < y) h).imp fun h => by omega
theorem nodup_strict {c : List Int} (hs : c.Pairwise (fun x y => x ≤ y)) (h : c.Nodup) : Strict c c.length := by
  intro p q hpq hq
  have h1 := pairwise_getD hs p q hpq hq
  have h2 := pairwise_getD (R := fun x y => x ≠ y) h p q hpq hq
  omega
theorem perm_of_sub : ∀ (c ts : List Int), c.Nodup → (∀ x ∈ c, x ∈ ts) → c.length = ts.length → c.Perm ts := by
  intro c
  induction c with
  | nil =>
    intro ts _ _ hl
    rw [List.length_eq_zero_iff.1 hl.symm]
  | cons x c ih =>
    intro ts hc hm hl
    have hx := hm x (List.mem_cons_self ..)
    have hn := List.nodup_cons.1 hc
    have hp := ih (ts.erase x) hn.2 (fun y hy => (List.mem_erase_of_ne (fun e => hn.1 (by rw [← e]; exact hy))).2 (hm y (List.mem_cons_of_mem _ hy))) (by rw [List.length_erase_of_mem hx]; simp at hl; omega)
    exact (hp.cons x).trans (List.perm_cons_erase hx).symm
theorem nodup_of_len {c ts : List Int} (hc : c.Nodup) (hm : ∀ x ∈ c, x ∈ ts) (hl : c.length = ts.length) : ts.Nodup := (perm_of_sub c ts hc hm hl).nodup_iff.1 hc
theorem compact_any (B : Nat) (w : World) (v : Value) (ts : List Int) (h : IntsAt B w v ts) (hs : ts.Pairwise (fun x y => x ≤ y)) (hn : ts.length ≤ 1000) :
    Calls Tryz.prog 71 #[v] w fun e w' => ∃ (a : Option Addr) (k cap : Nat), e = .returned (.slice a k cap) ∧ decide (k = ts.length) = decide ts.Nodup ∧ Only (fun k => v.ownBlock = some k) w w' := by
  have h0 : w.ownsRow 0 3 1 v ts.length (ts.map fun t => .int .i64 t) := ownsRow_base h fun _ _ => Nat.zero_le _
  by_cases hst : ts.Nodup
  · have hS := nodup_strict hs hst
    rcases h0.2 with ⟨rfl, hz⟩ | ⟨g, cap, cur, rfl, _⟩
    · refine (cmp_nil w).mono ?_
      rintro e w' ⟨rfl, rfl⟩
      exact ⟨none, 0, 0, rfl, by simp [hst, hz], Only.refl _ _⟩
    · refine (cmp_strict w g ts.length cap ts h0 hS hn).mono ?_
      rintro e w' ⟨rfl, l⟩
      exact ⟨_, _, _, rfl, by simp [hst], Only.of_below l fun k hk hk2 => absurd hk (Nat.not_lt.2 hk2)⟩
  · refine (cmp_row w v ts.length ts ts h0 (fun p q hpq hq => pairwise_getD hs p q hpq hq) (fun _ h => h) hn).mono ?_
    rintro e w' ⟨a, cap, c, rfl, h1, h2, h3, h4, h5⟩
    refine ⟨a, c.length, cap, rfl, ?_, h4⟩
    have : ¬ c.length = ts.length := fun e => hst (nodup_of_len (strict_nodup h2) h3 e)
    simp [this, hst]
def alikeB (xs ys : List Int) : Bool := decide (sortL xs = sortL ys) && decide xs.Nodup
theorem sortL_nodup (zs : List Int) : decide (sortL zs).Nodup = decide zs.Nodup := by
  congr 1
  exact propext (sortL_perm zs).nodup_iff
set_option maxHeartbeats 3200000 in
theorem alike_any (w : World) (a1 a2 : Option Addr) (n1 n2 c1 c2 : Nat) (xs ys : List Int) (h1 : IntsIn w a1 n1 xs) (h2 : IntsIn w a2 n2 ys) (hn : n1 ≤ 1000) (hn2 : n2 ≤ 1000) :
    Calls Tryz.prog 50 #[.slice a1 n1 c1, .slice a2 n2 c2] w fun e w' => e = .returned (.bool (alikeB xs ys)) ∧ Below w.heap.size w w' := by
  have l1 : Below w.heap.size w (w.alloc (.cells #[.slice a1 n1 c1] 24)) := by repeat (first | (with_reducible exact Below.refl _ _) | (with_reducible apply Below.drew) | (with_reducible refine below_drewN ?_ _) | (with_reducible refine below_alloc' ?_ ?_ _; (focus ((try simp) <;> omega))) | (with_reducible refine below_set' ?_ ?_ _; (focus ((try simp) <;> omega))))
  have hbx : (w.alloc (.cells #[.slice a1 n1 c1] 24)).cell? ⟨w.heap.size, 0, none⟩ = some (.slice a1 n1 c1) := by
    have : (w.alloc (.cells #[.slice a1 n1 c1] 24)).heap[w.heap.size]? = some (.cells #[.slice a1 n1 c1] 24 (0, 0)) := by simp [↓heap_alloc_eq, ↓heap_set_eq, ↓heap_drew_eq, ↓heap_drewN_eq, setObj, size_drewN]
    rw [blk_cell this]; rfl
  have HS1 := Lib.hid (sorted_any _ w.heap.size (by simp) a1 n1 c1 xs (by omega) hbx (h1.below l1))
  have H2 := Lib.hid h2
  have HL := Lib.hid h1.1; have HL2 := Lib.hid h2.1
  have L1 := Lib.hid l1
  obtain ⟨r, hr⟩ : ∃ r, alikeB xs ys = r := ⟨_, rfl⟩
  rw [hr]
  have HR := Lib.hid hr
  clear h1 h2 hbx l1 hr
  go_enter Tryz.func50, Tryz.ntmps50
  go_wp2_with fail
  refine (values_any a1 n1 c1 w).mono ?_
  rintro e w0 ⟨rfl, rfl⟩
  go_wp2_with fail
  refine HS1.out.mono ?_
  rintro e w1 ⟨v1, rfl, hv1, l1⟩
  have HV1 := Lib.hid hv1
  have LB1 := Lib.hid (btrans L1.out (Nat.le_refl _) l1)
  have l2 : Below w1.heap.size w1 (w1.alloc (.cells #[.slice a2 n2 c2] 24)) := by repeat (first | (with_reducible exact Below.refl _ _) | (with_reducible apply Below.drew) | (with_reducible refine below_drewN ?_ _) | (with_reducible refine below_alloc' ?_ ?_ _; (focus ((try simp) <;> omega))) | (with_reducible refine below_set' ?_ ?_ _; (focus ((try simp) <;> omega))))
  have hbx : (w1.alloc (.cells #[.slice a2 n2 c2] 24)).cell? ⟨w1.heap.size, 0, none⟩ = some (.slice a2 n2 c2) := by
    have : (w1.alloc (.cells #[.slice a2 n2 c2] 24)).heap[w1.heap.size]? = some (.cells #[.slice a2 n2 c2] 24 (0, 0)) := by simp [↓heap_alloc_eq, ↓heap_set_eq, ↓heap_drew_eq, ↓heap_drewN_eq, setObj, size_drewN]
    rw [blk_cell this]; rfl
  have HS2 := Lib.hid (sorted_any _ w1.heap.size (by simp) a2 n2 c2 ys (by omega) hbx ((H2.out.below LB1.out).below l2))
  have L2 := Lib.hid l2
  clear hv1 l1 l2 hbx
  go_wp2_with fail
  refine (values_any a2 n2 c2 w1).mono ?_
  rintro e w0 ⟨rfl, rfl⟩
  go_wp2_with fail
  refine HS2.out.mono ?_
  rintro e w2 ⟨v2, rfl, hv2, l2⟩
  have hl12 := btrans L2.out (Nat.le_refl _) l2
  have hv1 : IntsAt w.heap.size w2 v1 (sortL xs) := by
    have := HV1.out
    refine ownsRow_only (ownsRow_base this fun k hk => ?_) (Only.empty hl12 (Nat.le_refl _)) fun _ _ h => h
    have := (this.lt k hk).1
    simp at this
    omega
  have HV1' := Lib.hid hv1
  obtain ⟨p1, d1, rfl, hi1⟩ := hv1.open
  obtain ⟨p2, d2, rfl, hi2⟩ := hv2.open
  have HE := Lib.hid (equal_any w2 p1 p2 _ _ d1 d2 _ _ hi1 hi2 (by rw [sortL_len, HL.out]; omega) (by rw [sortL_len, HL2.out]; omega))
  have LB2 := Lib.hid (btrans LB1.out (Nat.le_refl _) hl12)
  clear hv1 hv2 hi1 hi2 l2 hl12 HV1
  obtain ⟨m1, hm1⟩ : ∃ m, (sortL xs).length = m := ⟨_, rfl⟩
  obtain ⟨m2, hm2⟩ : ∃ m, (sortL ys).length = m := ⟨_, rfl⟩
  rw [hm1] at HE ⊢
  rw [hm2] at HE ⊢
  have HM1 := Lib.hid hm1
  clear hm1 hm2
  go_wp2_with fail
  refine HE.out.mono ?_
  rintro e w3 ⟨rfl, l3⟩
  have LB3 := Lib.hid (btrans LB2.out (Nat.le_refl _) l3)
  have HV3 := Lib.hid (show IntsAt w.heap.size w3 (.slice p1 m1 d1) (sortL xs) from by
    have := HV1'.out
    rw [HM1.out] at this
    exact ownsRow_only this (Only.empty l3 (Nat.le_refl _)) fun _ _ h => h)
  clear l3
  cases hq : decide (sortL xs = sortL ys) with
  | false =>
    have hx : r = false := by rw [← HR.out]; unfold alikeB; rw [hq]; rfl
    subst hx
    clear hq
    go_wp2_with fail
    go_ret
    exact ⟨rfl, LB3.out⟩
  | true =>
    have hx : r = decide (sortL xs).Nodup := by rw [← HR.out]; unfold alikeB; rw [hq, sortL_nodup]; rfl
    have HX := Lib.hid hx
    have HC := Lib.hid (compact_any _ w3 _ _ HV3.out (sortL_le xs) (by rw [sortL_len, HL.out]; exact hn))
    clear hq hx
    go_wp2_with fail
    refine HC.out.mono ?_
    rintro e w4 ⟨p3, k, d3, rfl, hk, ho⟩
    have hkq : ((k : Int) == (n1 : Int)) = r := by
      rw [HX.out, ← hk, sortL_len, HL.out]
      rw [Bool.eq_iff_iff]
      simp
      omega
    have LB4 := Lib.hid (LB3.out.trans (ho.below (B := w.heap.size) LB3.out.size fun j hj hj2 => by
      have := (HV3.out.lt j hj2).1
      omega))
    clear hk ho
    go_wp2_with fail
    go_ret
    exact ⟨rfl, LB4.out⟩
end Go.Proofs.YtganmdbhmihjpaaGreat.Opa
