/- The real side: those that are told; a heap's copy. -/
import Derived.Test.YtganmdbhmihjpaaGreatOpaF
namespace Go.Proofs.YtganmdbhmihjpaaGreat.Opa
open Go.RowKit Go.Proofs.YtganmdbhmihjpaaGreat.Wri Go.Proofs.YtganmdbhmihjpaaGreat.His
set_option linter.unusedSimpArgs false
set_option linter.unusedVariables false
set_option maxRecDepth 50000

def pendOk (l : List Ev) (C : List Int) : Bool := C.all (fun n => stateL l n == 2) && decide C.Nodup
theorem nodup_snoc (C : List Int) (t : Int) : (C ++ [t]).Nodup ↔ C.Nodup ∧ t ∉ C := by
  rw [List.nodup_append]
  constructor
  · rintro ⟨h1, _, h3⟩
    exact ⟨h1, fun h => h3 t h t (by simp) rfl⟩
  · rintro ⟨h1, h2⟩
    exact ⟨h1, by simp, fun a ha b hb e => h2 (by simp at hb; rw [← hb, ← e]; exact ha)⟩
theorem pendOk_snoc (l : List Ev) (C : List Int) (t : Int) : pendOk l (C ++ [t]) = (pendOk l C && (stateL l t == 2) && !decide (t ∈ C)) := by
  unfold pendOk
  rw [List.all_append, show decide (C ++ [t]).Nodup = (decide C.Nodup && !decide (t ∈ C)) by
    rw [Bool.eq_iff_iff]; simp [nodup_snoc]]
  simp only [List.all_cons, List.all_nil, Bool.and_true]
  cases C.all (fun n => stateL l n == 2) <;> cases (stateL l t == 2) <;> simp
theorem pendOk_take {l : List Ev} {C : List Int} (h : pendOk l C = true) (k : Nat) : pendOk l (C.take k) = true := by
  unfold pendOk at h ⊢
  simp only [Bool.and_eq_true, List.all_eq_true, decide_eq_true_eq] at h ⊢
  exact ⟨fun x hx => h.1 x (List.mem_of_mem_take hx), h.2.sublist (List.take_sublist _ _)⟩
def pendE (l : List Ev) (C : List Int) : Int := if pendOk l C then 0 else 2
theorem len_of_sub : ∀ (c ts : List Int), c.Nodup → (∀ x ∈ c, x ∈ ts) → c.length ≤ ts.length := by
  intro c
  induction c with
  | nil => intro ts _ _; exact Nat.zero_le _
  | cons x c ih =>
    intro ts hc hm
    have hx := hm x (List.mem_cons_self ..)
    have hn := List.nodup_cons.1 hc
    have hp := ih (ts.erase x) hn.2 (fun y hy => (List.mem_erase_of_ne (fun e => hn.1 (by rw [← e]; exact hy))).2 (hm y (List.mem_cons_of_mem _ hy)))
    rw [List.length_erase_of_mem hx] at hp
    have := List.length_pos_of_mem hx
    rw [List.length_cons]
    omega
theorem state_mem {l : List Ev} {n : Int} (h : stateL l n = 2) : n ∈ l.map (·.a) := by
  unfold stateL at h
  split at h
  · rename_i hk
    unfold hasK at hk
    obtain ⟨x, hx, he⟩ := List.any_eq_true.1 hk
    simp only [Bool.and_eq_true, beq_iff_eq] at he
    exact List.mem_map.2 ⟨x, hx, he.1⟩
  · cases h
theorem pend_len {l : List Ev} {C : List Int} (h : pendOk l C = true) : C.length ≤ l.length := by
  unfold pendOk at h
  simp only [Bool.and_eq_true, List.all_eq_true, decide_eq_true_eq, beq_iff_eq] at h
  have := len_of_sub C (l.map (·.a)) h.2 (fun x hx => state_mem (h.1 x hx))
  rwa [List.length_map] at this
theorem ints_take {w : World} {a : Option Addr} {n : Nat} {ts : List Int} (h : IntsIn w a n ts) {k : Nat} (hk : k ≤ n) : IntsIn w a k (ts.take k) := by
  refine ⟨by rw [List.length_take, h.1]; omega, ?_⟩
  rcases h.2 with h0 | ⟨b, off, e, hc⟩
  · exact .inl (by omega)
  · refine .inr ⟨b, off, e, fun i hi => ?_⟩
    rw [hc i (by omega), List.getD_eq_getElem?_getD, List.getD_eq_getElem?_getD, List.getElem?_take, if_pos hi]
set_option maxHeartbeats 3200000 in
theorem pending_any (w : World) (p : Option Addr) (n c : Nat) (l : List Ev) (h : EvsIn w p n l) (hn : n ≤ 1000000)
    (a : Option Addr) (m d : Nat) (C : List Int) (hC : IntsIn w a m C) (hm : m ≤ 9223372036854775807) (hmd : m ≤ d) :
    Calls Tryz.prog 18 #[.slice p n c, .slice a m d] w fun e w' => e = .returned (.int .i64 (pendE l C)) ∧ Below w.heap.size w w' := by
  have H := Lib.hid h; have HC := Lib.hid hC; have HL := Lib.hid hC.1
  obtain ⟨r, hr⟩ : ∃ r, pendE l C = r := ⟨_, rfl⟩
  rw [hr]
  have HR := Lib.hid hr
  clear h hC hr
  go_enter Tryz.func18, Tryz.ntmps18
  go_wp2_with fail
  go_loopw [9] (fun i wr => ∃ k : Nat, i = .int .i64 k ∧ k ≤ m ∧ pendOk l (C.take k) = true ∧ Below w.heap.size w wr) (fun i _ => m - (intOf i).toNat)
  case atStart => exact ⟨0, rfl, Nat.zero_le _, by simp [pendOk], Below.refl _ _⟩
  case round =>
    obtain ⟨k, rfl, hk, hP, hB⟩ := hrel
    have HP := Lib.hid hP; have HB := Lib.hid hB
    clear hP hB
    by_cases hlt : k < m
    · obtain ⟨b, off, rfl, hc⟩ := HC.out.2.resolve_left (by omega)
      have c0 := bkeep HB.out (hc k hlt)
      have hT := take_snoc C k (by rw [HL.out]; exact hlt)
      have hw1 : IntKind.i64.wrap ((k : Int) + 1) = (k : Int) + 1 := by rw [IntKind.wrap_i64]; omega
      have hlt' : (k : Int) < m := by omega
      have hkd : (k : Int) ≤ d := by omega
      have hkd2 : k ≤ d := by omega
      clear hc
      obtain ⟨t, ht⟩ : ∃ t, C.getD k 0 = t := ⟨_, rfl⟩
      rw [ht] at c0 hT
      have hS := pendOk_snoc l (C.take k) t
      rw [← hT, HP.out, Bool.true_and] at hS
      have HS := Lib.hid (state_any wr p n c l (H.out.below HB.out) hn t)
      clear ht hT
      have hbad : pendOk l (C.take (k + 1)) = false → r = 2 := fun hf => by
        rw [← HR.out]
        unfold pendE
        rw [if_neg (fun h => by rw [pendOk_take h (k + 1)] at hf; cases hf)]
      have HBAD := Lib.hid hbad
      clear hbad
      cases hq : (stateL l t == 2) with
      | false =>
        have hx : r = 2 := HBAD.out (by rw [hS, hq]; rfl)
        subst hx
        have hq2 : (stateL l t != 2) = true := by simp only [bne, hq]; rfl
        clear hS hq
        go_wp2_with fail
        refine HS.out.mono ?_
        rintro e w1 ⟨rfl, l1⟩
        have HB1 := Lib.hid (btrans HB.out (Nat.le_refl _) l1)
        clear l1
        go_wp2_with fail
        go_ret
        exact ⟨rfl, HB1.out⟩
      | true =>
        have hq2 : (stateL l t != 2) = false := by simp only [bne, hq]; rfl
        rw [hq, Bool.true_and] at hS
        have HSS := Lib.hid hS
        clear hS hq
        go_wp2_with fail
        refine HS.out.mono ?_
        rintro e w1 ⟨rfl, l1⟩
        have HB1 := Lib.hid (btrans HB.out (Nat.le_refl _) l1)
        have HCT := Lib.hid (contains_any w1 _ k d (C.take k) t ((ints_take HC.out hk).below HB1.out) (by
          have h1 := pend_len HP.out
          have h2 := H.out.1
          rw [List.length_take, HL.out] at h1
          omega))
        clear l1
        cases hin : decide (t ∈ C.take k) with
        | true =>
          have hx : r = 2 := HBAD.out (by rw [HSS.out, hin]; rfl)
          subst hx
          rw [hin] at HCT
          clear hin
          go_wp2_with fail
          refine HCT.out.mono ?_
          rintro e w2 ⟨rfl, rfl⟩
          go_wp2_with fail
          go_ret
          exact ⟨rfl, HB1.out⟩
        | false =>
          have HN := Lib.hid (show pendOk l (C.take (k + 1)) = true by rw [HSS.out, hin]; rfl)
          rw [hin] at HCT
          clear hin
          go_wp2_with fail
          refine HCT.out.mono ?_
          rintro e w2 ⟨rfl, rfl⟩
          go_wp2_with fail
          exact ⟨⟨k + 1, by go_num, by omega, HN.out, HB1.out⟩, by simp [intOf]; omega⟩
    · obtain rfl : k = m := by omega
      rw [List.take_of_length_le (by rw [HL.out]; exact Nat.le_refl _)] at HP
      have hx : r = 0 := by rw [← HR.out]; unfold pendE; rw [if_pos HP.out]
      subst hx
      go_wp2_with fail
      go_ret
      exact ⟨rfl, HB.out⟩
/-! ### a copy of values -/
theorem infoV : (Tryz.prog.info? 58).map (fun i => (i.zero, i.size, i.bytes)) = some (some (.int .u64 0), 1, 8) := by kernel_rfl
abbrev valVals (vs : List Int) : List Value := vs.map fun v => .int .u64 v
def ValsAt (B : Nat) (w : World) (v : Value) (vs : List Int) : Prop := w.ownsRow B 58 1 v vs.length (valVals vs)
theorem valVals_one (vs : List Int) : ∀ u ∈ valVals vs, u.oneCell' = true := by
  intro u hu
  obtain ⟨x, _, rfl⟩ := List.mem_map.1 hu
  rfl
theorem valVals_get (vs : List Int) (i : Nat) (h : i < vs.length) : (valVals vs)[i]? = some (.int .u64 (vs.getD i 0)) := by
  rw [List.getElem?_map, List.getElem?_eq_getElem h, List.getD_eq_getElem?_getD, List.getElem?_eq_getElem h]; rfl
theorem ValsAt.open {B : Nat} {w : World} {v : Value} {vs : List Int} (h : ValsAt B w v vs) : ∃ a c, v = .slice a vs.length c ∧ ValsIn w a vs.length vs := by
  rcases h.2 with ⟨rfl, h0⟩ | ⟨g, cap, cur, rfl, _⟩
  · exact ⟨none, 0, by rw [h0], rfl, .inl h0⟩
  · refine ⟨_, _, rfl, rfl, .inr ⟨g, 0, rfl, fun i hi => ?_⟩⟩
    rw [Nat.zero_add]
    exact row_cell1 (v := .nilFunc) h (valVals_get vs i hi)
set_option maxHeartbeats 1600000 in
theorem cloneV_any (w : World) (a : Option Addr) (n c : Nat) (vs : List Int) (h : ValsIn w a n vs) (hn : n ≤ 1000) (hz : a = none → n = 0 ∧ c = 0) :
    Calls Tryz.prog 35 #[.slice a n c] w fun e w' => ∃ v', e = .returned v' ∧ ValsAt w.heap.size w' v' vs ∧ Below w.heap.size w w' := by
  obtain ⟨i0, hi, hz0, hz1, hz2⟩ := info_parts infoV
  have hnil : ∀ (a : Option Addr) (l c : Nat) (w : World), (binOp .eql 23 (.slice a l c) (.slice none 0 0)).run Tryz.prog w = .ok (.bool a.isNone) w := fun a l c w => Lib.run_eql_slice_nil (P := Tryz.prog) w 23 58 a l c 0 0 Tryz.underlying23
  have hl := h.1
  cases a with
  | none =>
    obtain ⟨rfl, rfl⟩ := hz rfl
    have : vs = [] := List.length_eq_zero_iff.1 hl
    subst this
    have H := Lib.hid (show ValsAt w.heap.size w (.slice none 0 0) [] from World.ownsRow_nil _ _ _ _)
    clear h
    go_enter Tryz.func35, Tryz.ntmps35
    go_wp2
    go_ret
    exact ⟨_, rfl, H.out, Below.refl _ _⟩
  | some p =>
    have hE : (w.alloc (.cells #[] 58)).ownsRow w.heap.size 58 1 (.slice (some ⟨w.heap.size, 0, none⟩) 0 0) 0 [] := by
      have := World.ownsRow_lit (base := w.heap.size) (e := 58) (size := 1) w #[] 0 (Nat.le_refl _) (by decide) (by simp)
      simpa using this
    have hs : ∀ j u, (valVals vs)[j]? = some u → w.cell? (p.add j) = some u := by
      intro j u hu
      rcases h.2 with rfl | ⟨b, off, e, hc⟩
      · rw [List.length_eq_zero_iff.1 hl] at hu; simp at hu
      · have hj : j < n := by
          have := (List.getElem?_eq_some_iff.1 hu).1
          rw [List.length_map] at this
          omega
        injection e with e
        subst e
        rw [valVals_get vs j (by omega)] at hu
        injection hu with hu
        rw [Addr.add_lit, ← hu]
        exact hc j hj
    have HS := Lib.hid hs; have HE := Lib.hid hE; have HL := Lib.hid hl
    have H1 := Lib.hid (valVals_one vs)
    have HL2 := Lib.hid (show (valVals vs).length = n * 1 by rw [List.length_map]; omega)
    clear hs hE hl h hz
    go_enter Tryz.func35, Tryz.ntmps35
    go_wp2_with (at_builtin; refine wpList_append_own _ rfl _ _ 23 rfl w.heap.size 58 i0 (.int .u64 0) 1 8 Tryz.underlying23 hi hz0 hz1 hz2 rfl (by decide) _ 0 [] rfl HE.out p n c (valVals vs) rfl HL2.out ?c1 H1.out ?c3 ?c4 ?c5 ?_)
    case c1 =>
      intro j u hu
      have := HS.out j u hu
      exact bkeep ((Below.refl _ _).alloc (Nat.le_refl _) _) this
    case c3 => unfold maxLen; omega
    case c4 => omega
    case c5 => simp
    intro v' w1 hown hgr _
    have hB : Below w.heap.size w w1 := ((Below.refl _ w).alloc (Nat.le_refl _) (.cells #[] 58)).grown hgr (by simp) (by simp [Value.ownBlock])
    have hW := Lib.hid hown; have HB := Lib.hid hB
    clear hown hgr hB HS HE
    go_wp2
    go_ret
    refine ⟨_, rfl, ?_, HB.out⟩
    unfold ValsAt
    rw [HL.out]
    simpa using hW.out
end Go.Proofs.YtganmdbhmihjpaaGreat.Opa
