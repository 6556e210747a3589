/- The real side: Legal and Heap. -/
import Derived.Test.YtganmdbhmihjpaaGreatOpaL
namespace Go.Proofs.YtganmdbhmihjpaaGreat.Opa
open Go.RowKit Go.Proofs.YtganmdbhmihjpaaGreat.Wri Go.Proofs.YtganmdbhmihjpaaGreat.His
set_option linter.unusedSimpArgs false
set_option linter.unusedVariables false
set_option maxRecDepth 50000

theorem read_ok {l : List Ev} (h : His.Good l) {x : Ev} (hx : x ∈ l) (hk : x.k = 2) : okT x.t := by
  obtain ⟨i, hi⟩ := List.mem_iff_getElem?.1 hx
  have h1 := h i x hi
  generalize stA (l.take i) x.a = o at h1
  refine Decidable.byContradiction fun hn => ?_
  have e : stepA o x = none := by
    unfold stepA
    by_cases ha : 0 ≤ x.a ∧ x.a < 64
    · rw [if_neg (by simpa using ha), if_neg (by rw [hk]; decide)]
      cases o with
      | none => rfl
      | some a =>
        show (if a.ended = true then none else _) = none
        split
        · rfl
        · rw [if_neg (by rw [hk]; decide), if_neg (by rw [hk]; decide)]
          split
          · rfl
          · rw [if_neg (fun e => hn e.1)]
    · rw [if_pos ha]
  rw [e] at h1
  cases h1
theorem readsG_mem : ∀ (evs : List Ev) (fs : List Frm) (p : Int × Int), p ∈ readsG fs evs → ∃ x ∈ evs, x.k = 2 ∧ p = (x.t, x.v) := by
  intro evs
  induction evs with
  | nil => intro fs p h; simp [readsG] at h
  | cons y evs ih =>
    intro fs p h
    rw [readsG, List.mem_append] at h
    rcases h with h | h
    · split at h
      · rename_i hc
        simp only [Bool.and_eq_true, beq_iff_eq] at hc
        simp at h
        exact ⟨y, by simp, hc.1, h⟩
      · simp at h
    · obtain ⟨x, hx, h1, h2⟩ := ih _ p h
      exact ⟨x, List.mem_cons_of_mem _ hx, h1, h2⟩
theorem allK_mem (g : Int → Option Int) : ∀ (k : Nat) (p : Int × Int), p ∈ allK g k → 0 ≤ p.1 ∧ p.1 < k ∧ g p.1 = some p.2 := by
  intro k
  induction k with
  | zero => intro p h; simp [allK] at h
  | succ k ih =>
    intro p h
    rw [allK, List.mem_append] at h
    rcases h with h | h
    · obtain ⟨h1, h2, h3⟩ := ih p h
      exact ⟨h1, by omega, h3⟩
    · split at h
      · rename_i v hv
        simp at h
        subst h
        exact ⟨by simp, by simp; omega, hv⟩
      · simp at h
theorem cutL_sub {l : List Ev} {n : Int} {x : Ev} (h : x ∈ cutL l n) : x ∈ l := (List.mem_filter.1 h).1
theorem oneOf_ok {l : List Ev} (h : His.Good l) (hl : l.length ≤ 1000000) (C : List Int) (t : Int) : OneOk (oneOf l C t) where
  rk p hp := by
    obtain ⟨x, hx, hk, rfl⟩ := readsG_mem _ _ _ hp
    exact read_ok h (cutL_sub hx) hk
  wk p hp := by
    obtain ⟨h1, h2, _⟩ := allK_mem _ _ _ hp
    exact ⟨h1, by omega⟩
  rl := by
    have h1 := readsG_len (cutL l t) [[]]
    have h2 : (cutL l t).length ≤ l.length := List.length_filter_le _ _
    show (readsG [[]] (cutL l t)).length ≤ 1000000
    omega
  wl := by
    have := allK_len (getL (ownL l t)) 12
    show (allK (getL (ownL l t)) 12).length ≤ 1000000
    omega
/-- what Legal and Heap are asked with -/
structure Asked (w : World) (p : Option Addr) (n c : Nat) (l : List Ev) (a : Option Addr) (m d : Nat) (vs : List Int) (a2 : Option Addr) (m2 d2 : Nat) (C : List Int) : Prop where
  evs : EvsIn w p n l
  ok : EvsOk l
  hn : n ≤ 400
  vals : ValsIn w a m vs
  u64 : ∀ v ∈ vs, U64 v
  hm : m ≤ 1000
  hz : a = none → m = 0 ∧ d = 0
  com : IntsIn w a2 m2 C
  hm2 : m2 ≤ 9223372036854775807
  hmd2 : m2 ≤ d2
section
variable {w w' : World} {p : Option Addr} {n c : Nat} {l : List Ev} {a : Option Addr} {m d : Nat} {vs : List Int} {a1 a2 : Option Addr} {m1 d1 m2 d2 : Nat} {order C : List Int}
theorem Asked.below (h : Asked w p n c l a m d vs a2 m2 d2 C) (lw : Below w.heap.size w w') : Asked w' p n c l a m d vs a2 m2 d2 C :=
  ⟨h.evs.below lw, h.ok, h.hn, h.vals.below lw, h.u64, h.hm, h.hz, h.com.below lw, h.hm2, h.hmd2⟩
end
theorem formE_or (l : List Ev) (vs : List Int) : (formE l vs = 0 ∧ His.Good l ∧ vs.length ≤ 12) ∨ formE l vs = 3 := by
  unfold formE
  split
  · rename_i h
    simp only [Bool.and_eq_true, decide_eq_true_eq] at h
    exact .inl ⟨rfl, (goodL_iff l).1 h.1.1, h.1.2⟩
  · exact .inr rfl
theorem pendE_or (l : List Ev) (C : List Int) : pendE l C = 0 ∨ pendE l C = 2 := by
  unfold pendE
  split
  · exact .inl rfl
  · exact .inr rfl
theorem pend_few {w : World} {p : Option Addr} {n c : Nat} {l : List Ev} {a : Option Addr} {m d : Nat} {vs : List Int} {a2 : Option Addr} {m2 d2 : Nat} {C : List Int} (h : Asked w p n c l a m d vs a2 m2 d2 C)
    (hp : pendE l C = 0) : m2 ≤ 1000000 := by
  have h1 : pendOk l C = true := by
    unfold pendE at hp
    split at hp
    · assumption
    · cases hp
  have h2 := pend_len h1
  rw [h.com.1, h.evs.1] at h2
  have := h.hn
  omega
/-- the error of what is asked -/
def checkE (l : List Ev) (vs order C : List Int) : Int := if formE l vs = 3 then 3 else if alikeB order (attL l) then pendE l C else 2
def CheckPost (w : World) (p : Option Addr) (n c : Nat) (l : List Ev) (C : List Int) (vs : List Int) (E : Int) (e : Ending) (w' : World) : Prop :=
  Below w.heap.size w w' ∧ ((E ≠ 0 ∧ e = .returned (.tuple #[.pointer none, .int .i64 E])) ∨
    (E = 0 ∧ ∃ q av hv, e = .returned (.tuple #[ptr q, .int .i64 0]) ∧ Game w' q p n c l av hv (onesOf l C) vs ∧ ∀ k, hv.ownBlock = some k → w.heap.size ≤ k))
set_option maxHeartbeats 6400000 in
theorem checked_any {w : World} {p : Option Addr} {n c : Nat} {l : List Ev} {a : Option Addr} {m d : Nat} {vs : List Int} {a2 : Option Addr} {m2 d2 : Nat} {C : List Int} (h : Asked w p n c l a m d vs a2 m2 d2 C)
    (a1 : Option Addr) (m1 d1 : Nat) (order : List Int) (ho : IntsIn w a1 m1 order) (hm1 : m1 ≤ 1000) :
    Calls Tryz.prog 25 #[.slice p n c, .slice a m d, .slice a1 m1 d1, .slice a2 m2 d2] w (CheckPost w p n c l C vs (checkE l vs order C)) := by
  obtain ⟨E, hE⟩ : ∃ E, checkE l vs order C = E := ⟨_, rfl⟩
  rw [hE]
  have HE := Lib.hid hE; have H := Lib.hid h; have HO := Lib.hid ho
  have HF := Lib.hid (form_any w p n c l h.evs h.ok h.hn a m d vs h.vals h.u64 (by have := h.hm; omega))
  clear hE h ho
  unfold CheckPost
  go_enter Tryz.func25, Tryz.ntmps25
  rcases formE_or l vs with ⟨hf, hgood, h12⟩ | hf
  · rw [hf] at HF
    have HFE := Lib.hid hf
    clear hf
    go_wp2_with fail
    refine HF.out.mono ?_
    rintro e w1 ⟨rfl, l1⟩
    have HAT := Lib.hid (attempts_any w1 p n c l (H.out.evs.below l1) (by have := H.out.hn; omega))
    have L1 := Lib.hid l1
    clear l1
    go_wp2_with fail
    refine HAT.out.mono ?_
    rintro e w2 ⟨v, rfl, hv, l2⟩
    obtain ⟨a3, c3, rfl, hi3⟩ := hv.open
    have L2 := Lib.hid (btrans L1.out (Nat.le_refl _) l2)
    have HAL := Lib.hid (alike_any w2 a1 a3 m1 _ d1 c3 order (attL l) (HO.out.below L2.out) hi3 hm1 (by have := attL_le l; rw [H.out.evs.1] at this; have := H.out.hn; omega))
    clear hv hi3 l2
    go_wp2_with fail
    refine HAL.out.mono ?_
    rintro e w3 ⟨rfl, l3⟩
    have L3 := Lib.hid (btrans L2.out (Nat.le_refl _) l3)
    clear l3
    cases hal : alikeB order (attL l) with
    | false =>
      have hx : E = 2 := by rw [← HE.out]; unfold checkE; rw [HFE.out, hal]; rfl
      subst hx
      clear hal
      go_wp2_with fail
      refine bodyPost_ret (v := .tuple #[.pointer none, .int .i64 2]) ?_ rfl ?_; (focus (simp [results, Tryz.results25, go_sem, Nat.zero_le]; done))
      exact ⟨L3.out, .inl ⟨by decide, rfl⟩⟩
    | true =>
      have hx : E = pendE l C := by rw [← HE.out]; unfold checkE; rw [HFE.out, hal]; rfl
      have HX := Lib.hid hx
      have hA3 := H.out.below L3.out
      have HPE := Lib.hid (pending_any w3 p n c l hA3.evs (by have := hA3.hn; omega) a2 m2 d2 C hA3.com hA3.hm2 hA3.hmd2)
      rw [← hx] at HPE
      clear hal hx hA3
      go_wp2_with fail
      refine HPE.out.mono ?_
      rintro e w4 ⟨rfl, l4⟩
      have L4 := Lib.hid (btrans L3.out (Nat.le_refl _) l4)
      clear l4
      rcases pendE_or l C with hp | hp
      · have hm2 : m2 ≤ 1000000 := pend_few H.out hp
        rw [← HX.out] at hp
        subst hp
        have hA4 := H.out.below L4.out
        have HB := Lib.hid (begin_any w4 p n c l hA4.evs hA4.ok hA4.hn a m d vs hA4.vals hA4.hm hA4.hz a2 m2 d2 C hA4.com hm2)
        clear hA4 hm2
        go_wp2_with fail
        refine HB.out.mono ?_
        rintro e w5 ⟨q, av, hv, rfl, hG, hq, hlo, l5⟩
        have L5 := Lib.hid (btrans L4.out (Nat.le_refl _) l5)
        have hlo2 : ∀ k, hv.ownBlock = some k → w.heap.size ≤ k := fun k hk => Nat.le_trans L4.out.size (hlo k hk)
        have HG := Lib.hid (game_of H.out.evs hG hlo2 L5.out)
        have HLO := Lib.hid hlo2
        clear hG hq hlo l5 hlo2
        go_wp2_with fail
        refine bodyPost_ret (v := .tuple #[ptr q, .int .i64 0]) ?_ rfl ?_; (focus (simp [results, Tryz.results25, go_sem, Nat.zero_le]; done))
        exact ⟨L5.out, q, rfl, av, hv, HG.out, HLO.out⟩
      · rw [← HX.out] at hp
        subst hp
        go_wp2_with fail
        refine bodyPost_ret (v := .tuple #[.pointer none, .int .i64 2]) ?_ rfl ?_; (focus (simp [results, Tryz.results25, go_sem, Nat.zero_le]; done))
        exact ⟨L4.out, .inl ⟨by decide, rfl⟩⟩
  · have hx : E = 3 := by rw [← HE.out]; unfold checkE; rw [if_pos hf]
    subst hx
    rw [hf] at HF
    clear hf
    go_wp2_with fail
    refine HF.out.mono ?_
    rintro e w1 ⟨rfl, l1⟩
    have L1 := Lib.hid l1
    clear l1
    go_wp2_with fail
    refine bodyPost_ret (v := .tuple #[.pointer none, .int .i64 3]) ?_ rfl ?_; (focus (simp [results, Tryz.results25, go_sem, Nat.zero_le]; done))
    exact ⟨L1.out, .inl ⟨by decide, rfl⟩⟩
/-- what Legal tells -/
def legalL (l : List Ev) (vs order C : List Int) : Int × Int × List Int :=
  if checkE l vs order C ≠ 0 then (0, checkE l vs order C, []) else firstL l (oneOf l C) order 0 vs
theorem sortL_eq_perm {xs ys : List Int} (h : sortL xs = sortL ys) : xs.Perm ys := (sortL_perm xs).symm.trans (h ▸ sortL_perm ys)
theorem check_ok {l : List Ev} {vs order C : List Int} (h : checkE l vs order C = 0) : formE l vs = 0 ∧ His.Good l ∧ vs.length ≤ 12 ∧ order.Perm (attL l) ∧ order.Nodup ∧ pendOk l C = true := by
  unfold checkE at h
  split at h
  · cases h
  · rename_i hf
    split at h
    · rename_i ha
      unfold alikeB at ha
      simp only [Bool.and_eq_true, decide_eq_true_eq] at ha
      rcases formE_or l vs with ⟨h1, h2, h3⟩ | h1
      · refine ⟨h1, h2, h3, sortL_eq_perm ha.1, ha.2, ?_⟩
        unfold pendE at h
        split at h
        · assumption
        · cases h
      · exact absurd h1 hf
    · cases h
def LegalPost (w : World) (R : Int × Int × List Int) (e : Ending) (w' : World) : Prop := e = .returned (.tuple #[.int .i64 R.1, .int .i64 R.2.1]) ∧ Below w.heap.size w w'
set_option maxHeartbeats 6400000 in
theorem legal_any {w : World} {p : Option Addr} {n c : Nat} {l : List Ev} {a : Option Addr} {m d : Nat} {vs : List Int} {a2 : Option Addr} {m2 d2 : Nat} {C : List Int} (h : Asked w p n c l a m d vs a2 m2 d2 C)
    (a1 : Option Addr) (m1 d1 : Nat) (order : List Int) (ho : IntsIn w a1 m1 order) (hm1 : m1 ≤ 1000) (hmd1 : m1 ≤ d1) :
    Calls Tryz.prog 12 #[.slice p n c, .slice a m d, .slice a1 m1 d1, .slice a2 m2 d2] w (LegalPost w (legalL l vs order C)) := by
  obtain ⟨R, hR⟩ : ∃ R, legalL l vs order C = R := ⟨_, rfl⟩
  rw [hR]
  obtain ⟨E, hE⟩ : ∃ E, checkE l vs order C = E := ⟨_, rfl⟩
  have HC := Lib.hid (checked_any h a1 m1 d1 order ho hm1)
  rw [hE] at HC
  have HR := Lib.hid hR; have HE := Lib.hid hE; have H := Lib.hid h; have HO := Lib.hid ho
  clear hR hE h ho
  unfold LegalPost
  go_enter Tryz.func12, Tryz.ntmps12
  go_wp2_with fail
  refine HC.out.mono ?_
  rintro e w1 ⟨l1, ⟨hne, rfl⟩ | ⟨hz, q, av, hv, rfl, hG, hlo⟩⟩
  · have hx : R = (0, E, []) := by rw [← HR.out]; unfold legalL; rw [HE.out, if_pos hne]
    subst hx
    have hq : (E != 0) = true := by simpa using hne
    have L1 := Lib.hid l1
    clear hne l1
    go_wp2_with fail
    refine bodyPost_ret (v := .tuple #[.int .i64 0, .int .i64 E]) ?_ rfl ?_; (focus (simp [results, Tryz.results12, go_sem, Nat.zero_le]; done))
    exact ⟨rfl, L1.out⟩
  · subst hz
    obtain ⟨_, hgood, h12, hperm, hnd, _⟩ := check_ok HE.out
    have hx : firstL l (oneOf l C) order 0 vs = R := by rw [← HR.out]; unfold legalL; rw [HE.out]; rfl
    have hal : (attL l).length ≤ 1000 := by have := attL_le l; rw [H.out.evs.1] at this; have := H.out.hn; omega
    have HFI := Lib.hid (first_any hG H.out.hn (fun t _ => oneOf_ok hgood (by rw [H.out.evs.1]; have := H.out.hn; omega) C t) (by omega) hal a1 m1 d1 order
      (fun W o => HO.out.below (l1.trans (o.below l1.size fun k hk e => by have := hlo k e; omega))) hm1 hmd1 (fun t ht => hperm.mem_iff.1 ht))
    rw [hx] at HFI
    have L1 := Lib.hid l1; have HLO := Lib.hid hlo
    clear hgood h12 hperm hnd hx hal hG l1 hlo
    go_wp2_with fail
    refine HFI.out.mono ?_
    rintro e w2 ⟨rfl, hG2, o2⟩
    have L2 := Lib.hid (L1.out.trans (o2.below L1.out.size fun k hk e => by have := HLO.out k e; omega))
    clear hG2 o2
    go_wp2_with fail
    refine bodyPost_ret (v := .tuple #[.int .i64 R.1, .int .i64 R.2.1]) ?_ rfl ?_; (focus (simp [results, Tryz.results12, go_sem, Nat.zero_le]; done))
    exact ⟨rfl, L2.out⟩
/-- what Heap hands back -/
def heapE (l : List Ev) (vs order C : List Int) : Int := (legalL l vs order C).2.1
def HeapPost (w : World) (R : Int × Int × List Int) (e : Ending) (w' : World) : Prop :=
  Below w.heap.size w w' ∧ ((R.2.1 ≠ 0 ∧ e = .returned (.tuple #[.slice none 0 0, .int .i64 R.2.1])) ∨ (R.2.1 = 0 ∧ ∃ v, e = .returned (.tuple #[v, .int .i64 0]) ∧ ValsAt 0 w' v R.2.2 ∧ ∀ k, v.ownBlock = some k → w.heap.size ≤ k))
set_option maxHeartbeats 6400000 in
theorem heap_any {w : World} {p : Option Addr} {n c : Nat} {l : List Ev} {a : Option Addr} {m d : Nat} {vs : List Int} {a2 : Option Addr} {m2 d2 : Nat} {C : List Int} (h : Asked w p n c l a m d vs a2 m2 d2 C)
    (a1 : Option Addr) (m1 d1 : Nat) (order : List Int) (ho : IntsIn w a1 m1 order) (hm1 : m1 ≤ 1000) (hmd1 : m1 ≤ d1) :
    Calls Tryz.prog 14 #[.slice p n c, .slice a m d, .slice a1 m1 d1, .slice a2 m2 d2] w (HeapPost w (legalL l vs order C)) := by
  obtain ⟨R, hR⟩ : ∃ R, legalL l vs order C = R := ⟨_, rfl⟩
  rw [hR]
  obtain ⟨E, hE⟩ : ∃ E, checkE l vs order C = E := ⟨_, rfl⟩
  have HC := Lib.hid (checked_any h a1 m1 d1 order ho hm1)
  rw [hE] at HC
  have HR := Lib.hid hR; have HE := Lib.hid hE; have H := Lib.hid h; have HO := Lib.hid ho
  clear hR hE h ho
  unfold HeapPost
  go_enter Tryz.func14, Tryz.ntmps14
  go_wp2_with fail
  refine HC.out.mono ?_
  rintro e w1 ⟨l1, ⟨hne, rfl⟩ | ⟨hz, q, av, hv, rfl, hG, hlo⟩⟩
  · have hx : R = (0, E, []) := by rw [← HR.out]; unfold legalL; rw [HE.out, if_pos hne]
    subst hx
    have hq : (E != 0) = true := by simpa using hne
    have hq2 : (E == 0) = false := by simpa using hne
    have L1 := Lib.hid l1; have HNE := Lib.hid hne
    clear hne l1
    go_wp2_with fail
    refine bodyPost_ret (v := .tuple #[.slice none 0 0, .int .i64 E]) ?_ rfl ?_; (focus (simp [results, Tryz.results14, go_sem, Nat.zero_le]; done))
    exact ⟨L1.out, .inl ⟨HNE.out, rfl⟩⟩
  · subst hz
    obtain ⟨_, hgood, h12, hperm, hnd, _⟩ := check_ok HE.out
    have hx : firstL l (oneOf l C) order 0 vs = R := by rw [← HR.out]; unfold legalL; rw [HE.out]; rfl
    have hal : (attL l).length ≤ 1000 := by have := attL_le l; rw [H.out.evs.1] at this; have := H.out.hn; omega
    have HFI := Lib.hid (first_any hG H.out.hn (fun t _ => oneOf_ok hgood (by rw [H.out.evs.1]; have := H.out.hn; omega) C t) (by omega) hal a1 m1 d1 order
      (fun W o => HO.out.below (l1.trans (o.below l1.size fun k hk e => by have := hlo k e; omega))) hm1 hmd1 (fun t ht => hperm.mem_iff.1 ht))
    rw [hx] at HFI
    have L1 := Lib.hid l1; have HLO := Lib.hid hlo
    clear hgood h12 hperm hnd hx hal hG l1 hlo
    go_wp2_with fail
    refine HFI.out.mono ?_
    rintro e w2 ⟨rfl, hG2, o2⟩
    have L2 := Lib.hid (L1.out.trans (o2.below L1.out.size fun k hk e => by have := HLO.out k e; omega))
    have HG2 := Lib.hid hG2
    have hob := hG2.obj
    have x2 := blk_cell hob 2
    simp only [List.getElem?_toArray, List.getElem?_cons_zero, List.getElem?_cons_succ] at x2
    obtain ⟨ha, hc, rfl⟩ := ownsRow_slice hG2.heap
    obtain ⟨R1, R2, R3⟩ := R
    simp only at x2 HG2 ⊢
    clear hG2 o2 hob
    by_cases hne : R2 = 0
    · subst hne
      go_wp2_with fail
      refine bodyPost_ret (v := .tuple #[.slice ha R3.length hc, .int .i64 0]) ?_ rfl ?_; (focus (simp [results, Tryz.results14, go_sem, Nat.zero_le]; done))
      exact ⟨L2.out, _, rfl, HG2.out.heap, HLO.out⟩
    · have hq : (R2 != 0) = true := by simpa using hne
      have HNE := Lib.hid hne
      clear hne
      go_wp2_with fail
      refine bodyPost_ret (v := .tuple #[.slice none 0 0, .int .i64 R2]) ?_ rfl ?_; (focus (simp [results, Tryz.results14, go_sem, Nat.zero_le]; done))
      exact ⟨L2.out, .inl ⟨HNE.out, rfl⟩⟩
end Go.Proofs.YtganmdbhmihjpaaGreat.Opa
