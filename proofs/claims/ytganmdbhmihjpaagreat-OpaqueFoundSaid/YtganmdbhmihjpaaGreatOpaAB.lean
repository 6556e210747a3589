/- The document's side: whether an attempt read its own; among some, each once. -/
import Derived.Test.YtganmdbhmihjpaaGreatOpaAA
import Derived.Test.YtganmdbhmihjpaaGreatOpaG
namespace Go.Proofs.YtganmdbhmihjpaaGreat.Opa
open Go.RowKit Go.Proofs.YtganmdbhmihjpaaGreat.Wri Go.Proofs.YtganmdbhmihjpaaGreat.His
set_option linter.unusedSimpArgs false
set_option linter.unusedVariables false
set_option maxRecDepth 50000

set_option maxHeartbeats 6400000 in
theorem rowns_any (w : World) (p : Option Addr) (n c : Nat) (l : List Ev) (h : EvsIn w p n l) (hok : ∀ x ∈ l, 0 ≤ x.v ∧ x.v < 18446744073709551616) (hn : n ≤ 1000000) (t : Int) :
    Calls Tryz.prog 67 #[.slice p n c, .int .i64 t] w fun e w' => e = .returned (.bool (ownOk l t)) ∧ Below w.heap.size w w' := by
  have H := Lib.hid h; have HOK := Lib.hid hok
  obtain ⟨r, hr⟩ : ∃ r, ownOk l t = r := ⟨_, rfl⟩
  rw [hr]
  have HR := Lib.hid hr
  clear h hok hr
  go_enter Tryz.func67, Tryz.ntmps67
  go_wp2_with fail
  go_loopw [5] (fun i wr => ∃ k : Nat, i = .int .i64 k ∧ k ≤ n ∧ ownOk (l.take k) t = true ∧ Below w.heap.size w wr) (fun i _ => n - (intOf i).toNat)
  case atStart => exact ⟨0, rfl, Nat.zero_le _, rfl, Below.refl _ _⟩
  case round =>
    obtain ⟨k, rfl, hk, hV, hB⟩ := hrel
    have HV := Lib.hid hV; have HB := Lib.hid hB
    clear hV hB
    by_cases hlt : k < n
    · obtain ⟨g, off, rfl, hc⟩ := H.out.2.resolve_left (by omega)
      obtain ⟨x, hx, c0, c1, c2, c3⟩ := hc k hlt
      replace c0 := bkeep HB.out c0; replace c1 := bkeep HB.out c1; replace c2 := bkeep HB.out c2; replace c3 := bkeep HB.out c3
      have hw1 : IntKind.i64.wrap ((k : Int) + 1) = (k : Int) + 1 := by rw [IntKind.wrap_i64]; omega
      have hkn : (k : Int) < n := by omega
      have HT := Lib.hid (own_take hx t)
      obtain ⟨xk, xa, xt, xv⟩ := x
      simp only at c0 c1 c2 c3 HT
      clear hc hx
      cases e1 : (xa == t) with
      | false =>
        have HT2 := Lib.hid (show ownOk (l.take (k + 1)) t = true by rw [HT.out, e1, HV.out]; simp)
        have e1' : (xa != t) = true := by simp only [bne, e1]; rfl
        clear e1
        go_wp2_with fail
        exact ⟨⟨k + 1, by go_num, by omega, HT2.out, HB.out⟩, by simp [intOf]; omega⟩
      | true =>
        have e1' : (xa != t) = false := by simp only [bne, e1]; rfl
        cases e2 : (xk == 2) with
        | false =>
          have HT2 := Lib.hid (show ownOk (l.take (k + 1)) t = true by rw [HT.out, e1, e2, HV.out]; simp)
          have e2' : (xk != 2) = true := by simp only [bne, e2]; rfl
          clear e1 e2
          go_wp2_with fail
          exact ⟨⟨k + 1, by go_num, by omega, HT2.out, HB.out⟩, by simp [intOf]; omega⟩
        | true =>
          have e2' : (xk != 2) = false := by simp only [bne, e2]; rfl
          have HT2 := Lib.hid (show ownOk (l.take (k + 1)) t = (!(getL (ownL (l.take k) t) xt).isSome || (getL (ownL (l.take k) t) xt).getD 0 == xv) by rw [HT.out, e1, e2, HV.out]; simp)
          have HO := Lib.hid (rown_any wr.drew _ n c l (H.out.below HB.out.drew) HOK.out hn k (by omega) t)
          obtain ⟨fs, hfs⟩ : ∃ fs, ownL (l.take k) t = fs := ⟨_, rfl⟩
          have HWF := Lib.hid (show WellS fs from hfs ▸ ownL_well _ _)
          rw [hfs] at HO HT2
          have Q0 : wr.drew.cell? ⟨g, off + k * 4 + 2, none⟩ = some (.int .i64 xt) := c2
          have HC := Lib.hid c3
          clear e1 e2 hfs HT
          go_wp2_with fail
          clear c0 c1
          refine wp_region_held_drew (S := fun w' => w'.cell? ⟨g, off + k * 4 + 2, none⟩ = some (.int .i64 xt)) (by kernel_rfl) Q0 (fun hS9 => ?_)
          refine wpAnyH_take2 (i := 0) (v := ?_) rfl (by kernel_rfl) (by kernel_rfl) (by kernel_rfl) (fun _ _ _ h => h) (Or.inl ⟨by rfl, ?_⟩) (by assumption) ?_; rotate_left; (focus (intro w hSw; (skip); (first | (go_simp; done) | (go_simp; with_reducible rfl)))); (try simp only [Act.put, List.setIfInBounds_toArray, List.set_cons_zero, List.set_cons_succ])
          refine wpAnyH_take2 (i := 1) (v := ?_) rfl (by kernel_rfl) (by kernel_rfl) (by kernel_rfl) (fun _ _ _ h => h) (Or.inl ⟨by rfl, ?_⟩) (by assumption) ?_; rotate_left; (focus (intro w hSw; (skip); (first | (go_simp; done) | (go_simp; with_reducible rfl)))); (try simp only [Act.put, List.setIfInBounds_toArray, List.set_cons_zero, List.set_cons_succ])
          refine wpAnyH_take2 (i := 2) (v := ?_) rfl (by kernel_rfl) (by kernel_rfl) (by kernel_rfl) (fun _ _ _ h => h) (Or.inl ⟨by rfl, ?_⟩) (by assumption) ?_; rotate_left; (focus (intro w hSw; (skip); (first | (go_simp; done) | (go_simp; with_reducible rfl)))); (try simp only [Act.put, List.setIfInBounds_toArray, List.set_cons_zero, List.set_cons_succ])
          refine wpAnyH_take2 (i := 4) (v := ?_) rfl (by kernel_rfl) (by kernel_rfl) (by kernel_rfl) (fun _ _ _ h => h) (Or.inl ⟨by rfl, ?_⟩) (by assumption) ?_; rotate_left; (focus (intro w hSw; (skip); (first | (go_simp; done) | (go_simp; with_reducible rfl)))); (try simp only [Act.put, List.setIfInBounds_toArray, List.set_cons_zero, List.set_cons_succ])
          refine wpAnyH_take2 (i := 5) (v := ?_) rfl (by kernel_rfl) (by kernel_rfl) (by kernel_rfl) (fun _ _ _ h => h) (Or.inl ⟨by rfl, ?_⟩) (by assumption) ?_; rotate_left; (focus (intro w hSw; (skip); (first | (go_simp; done) | (go_simp; with_reducible rfl)))); (try simp only [Act.put, List.setIfInBounds_toArray, List.set_cons_zero, List.set_cons_succ])
          refine wpAnyH_take2 (i := 6) (v := ?_) rfl (by kernel_rfl) (by kernel_rfl) (by kernel_rfl) (fun _ _ _ h => h) (Or.inl ⟨by rfl, ?_⟩) (by assumption) ?_; rotate_left; (focus (intro w hSw; (skip); (first | (go_simp; done) | (go_simp; with_reducible rfl)))); (try simp only [Act.put, List.setIfInBounds_toArray, List.set_cons_zero, List.set_cons_succ])
          refine wpAnyH_take2 (i := 7) (v := ?_) rfl (by kernel_rfl) (by kernel_rfl) (by kernel_rfl) (fun _ _ _ h => h) (Or.inl ⟨by rfl, ?_⟩) (by assumption) ?_; rotate_left; (focus (intro w hSw; (skip); (first | (go_simp; done) | (go_simp; with_reducible rfl)))); (try simp only [Act.put, List.setIfInBounds_toArray, List.set_cons_zero, List.set_cons_succ])
          refine wpAnyH_take2 (i := 8) (v := ?_) rfl (by kernel_rfl) (by kernel_rfl) (by kernel_rfl) (fun _ _ _ h => h) (Or.inl ⟨by rfl, ?_⟩) (by assumption) ?_; rotate_left; (focus (intro w hSw; (skip); (first | (go_simp; done) | (go_simp; with_reducible rfl)))); (try simp only [Act.put, List.setIfInBounds_toArray, List.set_cons_zero, List.set_cons_succ])
          refine wpAnyH_ready (rs := [3]) (by kernel_rfl) (by simp) ?_; refine AllReadyH_cons2 rfl (fun K hK => ?_) AllReadyH.nil
          go_simp
          refine HO.out.mono ?_
          rintro e w2 ⟨q, rfl, hq, hqs, l2⟩
          have HB2 := Lib.hid (show Below w.heap.size w w2 from btrans HB.out.drew (Nat.le_refl _) l2)
          have c2' : w2.cell? ⟨g, off + k * 4 + 2, none⟩ = some (.int .i64 xt) := bkeep l2 Q0
          have HC2 := Lib.hid (show w2.cell? ⟨g, off + k * 4 + 3, none⟩ = some (.int .u64 xv) from bkeep l2 (show wr.drew.cell? _ = _ from HC.out))
          have HG := Lib.hid (rget_p hq HWF.out xt)
          clear hq hqs l2 HO HC HV Q0 c2 c3
          dsimp only
          refine hK.out _ _ c2' (fun hS9 => ?_); clear hK K; (try simp only [Act.put, List.setIfInBounds_toArray, List.set_cons_zero, List.set_cons_succ])
          refine wpAnyH_ready (rs := [9]) (by kernel_rfl) (by simp) ?_; refine AllReadyH_cons2 rfl (fun K hK => ?_) AllReadyH.nil
          go_simp
          refine HG.out.mono ?_
          rintro e w3 ⟨rfl, rfl⟩
          dsimp only
          refine hK.out _ _ c2' (fun hS9 => ?_); clear hK K; (try simp only [Act.put, List.setIfInBounds_toArray, List.set_cons_zero, List.set_cons_succ])
          refine wpAnyH_take2 (i := 10) (v := ?_) rfl (by kernel_rfl) (by kernel_rfl) (by kernel_rfl) (fun _ _ _ h => h) (Or.inl ⟨by rfl, ?_⟩) (by assumption) ?_; rotate_left; (focus (intro w hSw; (skip); (first | (go_simp; done) | (go_simp; with_reducible rfl)))); (try simp only [Act.put, List.setIfInBounds_toArray, List.set_cons_zero, List.set_cons_succ])
          refine wpAnyH_take2 (i := 11) (v := ?_) rfl (by kernel_rfl) (by kernel_rfl) (by kernel_rfl) (fun _ _ _ h => h) (Or.inl ⟨by rfl, ?_⟩) (by assumption) ?_; rotate_left; (focus (intro w hSw; (skip); (first | (go_simp; done) | (go_simp; with_reducible rfl)))); (try simp only [Act.put, List.setIfInBounds_toArray, List.set_cons_zero, List.set_cons_succ])
          refine wpAnyH_take2 (i := 12) (v := ?_) rfl (by kernel_rfl) (by kernel_rfl) (by kernel_rfl) (fun _ _ _ h => h) (Or.inl ⟨by rfl, ?_⟩) (by assumption) ?_; rotate_left; (focus (intro w hSw; (skip); (first | (go_simp; done) | (go_simp; with_reducible rfl)))); (try simp only [Act.put, List.setIfInBounds_toArray, List.set_cons_zero, List.set_cons_succ])
          refine wpAnyH_take2 (i := 13) (v := ?_) rfl (by kernel_rfl) (by kernel_rfl) (by kernel_rfl) (fun _ _ _ h => h) (Or.inl ⟨by rfl, ?_⟩) (by assumption) ?_; rotate_left; (focus (intro w hSw; (skip); (first | (go_simp; done) | (go_simp; with_reducible rfl)))); (try simp only [Act.put, List.setIfInBounds_toArray, List.set_cons_zero, List.set_cons_succ])
          refine wpAnyH_take2 (i := 14) (v := ?_) rfl (by kernel_rfl) (by kernel_rfl) (by kernel_rfl) (fun _ _ _ h => h) (Or.inl ⟨by rfl, ?_⟩) (by assumption) ?_; rotate_left; (focus (intro w hSw; (skip); (first | (go_simp; done) | (go_simp; with_reducible rfl)))); (try simp only [Act.put, List.setIfInBounds_toArray, List.set_cons_zero, List.set_cons_succ])
          refine wpAnyH_done (by kernel_rfl) ?_ _
          clear HG
          cases hg : getL fs xt with
          | none =>
            have HT3 := Lib.hid (show ownOk (l.take (k + 1)) t = true by rw [HT2.out, hg]; rfl)
            clear hg
            simp only [Option.isSome_none, Option.getD_none]
            go_wp2_with fail
            exact ⟨⟨k + 1, by go_num, by omega, HT3.out, HB2.out⟩, by simp [intOf]; omega⟩
          | some v =>
            simp only [Option.isSome_some, Option.getD_some]
            have c3' := HC2.out
            cases hv : (v == xv) with
            | true =>
              have HT3 := Lib.hid (show ownOk (l.take (k + 1)) t = true by rw [HT2.out, hg]; simpa using hv)
              have hv' : (v != xv) = false := by simp only [bne, hv]; rfl
              clear hg hv
              go_wp2_with fail
              exact ⟨⟨k + 1, by go_num, by omega, HT3.out, HB2.out⟩, by simp [intOf]; omega⟩
            | false =>
              have hx : r = false := by
                rw [← HR.out]
                refine own_pre (k + 1) ?_
                rw [HT2.out, hg]
                simpa using hv
              subst hx
              have hv' : (v != xv) = true := by simp only [bne, hv]; rfl
              clear hg hv
              go_wp2_with fail
              go_ret
              exact ⟨rfl, HB2.out⟩
    · obtain rfl : k = n := by omega
      have hv := HV.out
      rw [List.take_of_length_le (by rw [H.out.1]; exact Nat.le_refl _), HR.out] at hv
      subst hv
      go_wp2_with fail
      go_ret
      exact ⟨rfl, HB.out⟩
theorem mem_snoc_iff {ts : List Int} {k : Nat} (h : k < ts.length) {x : Int} : x ∈ ts.take (k + 1) ↔ x ∈ ts.take k ∨ x = ts.getD k 0 := by
  rw [take_snoc ts k h, List.mem_append, List.mem_singleton]
set_option maxHeartbeats 1600000 in
theorem rin_o (w : World) (a : Option Addr) (n c : Nat) (ts : List Int) (x : Int) (h : IntsIn w a n ts) (hn : n ≤ 1000000) :
    Calls Tryz.prog 28 #[.slice a n c, .int .i64 x] w fun e w' => e = .returned (.bool (decide (x ∈ ts))) ∧ w = w' := by
  have H := Lib.hid h
  obtain ⟨r, hr⟩ : ∃ r, decide (x ∈ ts) = r := ⟨_, rfl⟩
  rw [hr]
  have HR := Lib.hid hr
  clear h hr
  go_enter Tryz.func28, Tryz.ntmps28
  go_wp2_with fail
  go_loopw [5] (fun i wr => ∃ k : Nat, i = .int .i64 k ∧ k ≤ n ∧ x ∉ ts.take k ∧ w = wr) (fun i _ => n - (intOf i).toNat)
  case atStart => exact ⟨0, rfl, Nat.zero_le _, by simp, rfl⟩
  case round =>
    obtain ⟨k, rfl, hk, hno, rfl⟩ := hrel
    have HNO := Lib.hid hno
    clear hno
    by_cases hlt : k < n
    · obtain ⟨b, off, rfl, hc⟩ := H.out.2.resolve_left (by omega)
      have c0 := hc k hlt
      have HM := Lib.hid (mem_snoc_iff (ts := ts) (k := k) (by rw [H.out.1]; exact hlt) (x := x))
      have hmem : ts.getD k 0 ∈ ts := by
        rw [List.getD_eq_getElem?_getD, List.getElem?_eq_getElem (by rw [H.out.1]; exact hlt)]
        exact List.getElem_mem _
      have HMEM := Lib.hid hmem
      obtain ⟨t, ht⟩ : ∃ t, ts.getD k 0 = t := ⟨_, rfl⟩
      rw [ht] at c0 HM HMEM
      have hw1 : IntKind.i64.wrap ((k : Int) + 1) = (k : Int) + 1 := by rw [IntKind.wrap_i64]; omega
      have hkn : (k : Int) < n := by omega
      clear hc hmem ht
      cases e1 : (t == x) with
      | true =>
        have hx : r = true := by
          rw [← HR.out]
          have : t = x := by simpa using e1
          rw [← this]
          simpa using HMEM.out
        subst hx
        go_wp2_with fail
        go_ret
        exact ⟨rfl, rfl⟩
      | false =>
        have HN := Lib.hid (show x ∉ ts.take (k + 1) from fun h => by
          rcases HM.out.1 h with h | h
          · exact HNO.out h
          · rw [h] at e1; simp at e1)
        go_wp2_with fail
        exact ⟨⟨k + 1, by go_num, by omega, HN.out, by first | exact rfl | exact trivial⟩, by simp [intOf]; omega⟩
    · obtain rfl : k = n := by omega
      have hv := HNO.out
      rw [List.take_of_length_le (by rw [H.out.1]; exact Nat.le_refl _)] at hv
      have hx : r = false := by rw [← HR.out]; simpa using hv
      subst hx
      clear hv
      go_wp2_with fail
      go_ret
      exact ⟨rfl, rfl⟩
set_option maxHeartbeats 1600000 in
theorem reach_any (w : World) (a : Option Addr) (n c : Nat) (ts : List Int) (h : IntsIn w a n ts) (hn : n ≤ 1000000) (hnc : n ≤ c) :
    Calls Tryz.prog 27 #[.slice a n c] w fun e w' => e = .returned (.bool (decide ts.Nodup)) ∧ Below w.heap.size w w' := by
  have H := Lib.hid h
  obtain ⟨r, hr⟩ : ∃ r, decide ts.Nodup = r := ⟨_, rfl⟩
  rw [hr]
  have HR := Lib.hid hr
  clear h hr
  go_enter Tryz.func27, Tryz.ntmps27
  go_wp2_with fail
  go_loopw [3] (fun i wr => ∃ k : Nat, i = .int .i64 k ∧ k ≤ n ∧ (ts.take k).Nodup ∧ Below w.heap.size w wr) (fun i _ => n - (intOf i).toNat)
  case atStart => exact ⟨0, rfl, Nat.zero_le _, by simp, Below.refl _ _⟩
  case round =>
    obtain ⟨k, rfl, hk, hno, hB⟩ := hrel
    have HNO := Lib.hid hno; have HB := Lib.hid hB
    clear hno hB
    by_cases hlt : k < n
    · obtain ⟨b, off, rfl, hc⟩ := H.out.2.resolve_left (by omega)
      have c0 := bkeep HB.out (hc k hlt)
      have hT := take_snoc ts k (by rw [H.out.1]; exact hlt)
      obtain ⟨t, ht⟩ : ∃ t, ts.getD k 0 = t := ⟨_, rfl⟩
      rw [ht] at c0 hT
      have HT := Lib.hid hT
      have hw1 : IntKind.i64.wrap ((k : Int) + 1) = (k : Int) + 1 := by rw [IntKind.wrap_i64]; omega
      have hkn : (k : Int) < n := by omega
      have hkc : (k : Int) ≤ c := by omega
      have hkc2 : k ≤ c := by omega
      have HIN := Lib.hid (rin_o wr.drew _ k c (ts.take k) t ((ints_take H.out hk).below HB.out.drew) (by omega))
      have Q0 : wr.drew.cell? ⟨b, off + k, none⟩ = some (.int .i64 t) := c0
      clear hc hT ht c0
      go_wp2_with fail
      refine wp_region_held_drew (S := fun w' => w'.cell? ⟨b, off + k, none⟩ = some (.int .i64 t)) (by kernel_rfl) Q0 (fun hS9 => ?_)
      refine wpAnyH_take2 (i := 0) (v := ?_) rfl (by kernel_rfl) (by kernel_rfl) (by kernel_rfl) (fun _ _ _ h => h) (Or.inl ⟨by rfl, ?_⟩) (by assumption) ?_; rotate_left; (focus (intro w hSw; (skip); (first | (go_simp; done) | (go_simp; with_reducible rfl)))); (try simp only [Act.put, List.setIfInBounds_toArray, List.set_cons_zero, List.set_cons_succ])
      refine wpAnyH_take2 (i := 1) (v := ?_) rfl (by kernel_rfl) (by kernel_rfl) (by kernel_rfl) (fun _ _ _ h => h) (Or.inl ⟨by rfl, ?_⟩) (by assumption) ?_; rotate_left; (focus (intro w hSw; (skip); (first | (go_simp; done) | (go_simp; with_reducible rfl)))); (try simp only [Act.put, List.setIfInBounds_toArray, List.set_cons_zero, List.set_cons_succ])
      refine wpAnyH_take2 (i := 2) (v := ?_) rfl (by kernel_rfl) (by kernel_rfl) (by kernel_rfl) (fun _ _ _ h => h) (Or.inl ⟨by rfl, ?_⟩) (by assumption) ?_; rotate_left; (focus (intro w hSw; (skip); (first | (go_simp; done) | (go_simp; with_reducible rfl)))); (try simp only [Act.put, List.setIfInBounds_toArray, List.set_cons_zero, List.set_cons_succ])
      refine wpAnyH_take2 (i := 3) (v := ?_) rfl (by kernel_rfl) (by kernel_rfl) (by kernel_rfl) (fun _ _ _ h => h) (Or.inl ⟨by rfl, ?_⟩) (by assumption) ?_; rotate_left; (focus (intro w hSw; (skip); (first | (go_simp; done) | (go_simp; with_reducible rfl)))); (try simp only [Act.put, List.setIfInBounds_toArray, List.set_cons_zero, List.set_cons_succ])
      refine wpAnyH_take2 (i := 4) (v := ?_) rfl (by kernel_rfl) (by kernel_rfl) (by kernel_rfl) (fun _ _ _ h => h) (Or.inl ⟨by rfl, ?_⟩) (by assumption) ?_; rotate_left; (focus (intro w hSw; (skip); (first | (go_simp; done) | (go_simp; with_reducible rfl)))); (try simp only [Act.put, List.setIfInBounds_toArray, List.set_cons_zero, List.set_cons_succ])
      refine wpAnyH_take2 (i := 5) (v := ?_) rfl (by kernel_rfl) (by kernel_rfl) (by kernel_rfl) (fun _ _ _ h => h) (Or.inl ⟨by rfl, ?_⟩) (by assumption) ?_; rotate_left; (focus (intro w hSw; (skip); (first | (go_simp; done) | (go_simp; with_reducible rfl)))); (try simp only [Act.put, List.setIfInBounds_toArray, List.set_cons_zero, List.set_cons_succ])
      refine wpAnyH_take2 (i := 6) (v := ?_) rfl (by kernel_rfl) (by kernel_rfl) (by kernel_rfl) (fun _ _ _ h => h) (Or.inl ⟨by rfl, ?_⟩) (by assumption) ?_; rotate_left; (focus (intro w hSw; (skip); (first | (go_simp; done) | (go_simp; with_reducible rfl)))); (try simp only [Act.put, List.setIfInBounds_toArray, List.set_cons_zero, List.set_cons_succ])
      refine wpAnyH_ready (rs := [7]) (by kernel_rfl) (by simp) ?_; refine AllReadyH_cons2 rfl (fun K hK => ?_) AllReadyH.nil
      go_simp
      refine HIN.out.mono ?_
      rintro e w1 ⟨rfl, rfl⟩
      dsimp only
      refine hK.out _ _ Q0 (fun hS9 => ?_); clear hK K; (try simp only [Act.put, List.setIfInBounds_toArray, List.set_cons_zero, List.set_cons_succ])
      refine wpAnyH_done (by kernel_rfl) ?_ _
      cases e1 : decide (t ∈ ts.take k) with
      | true =>
        have hx : r = false := by
          rw [← HR.out, decide_eq_false_iff_not]
          intro hnd
          have h1 : (ts.take (k + 1)).Nodup := hnd.sublist (List.take_sublist _ _)
          rw [HT.out, nodup_snoc] at h1
          exact h1.2 (by simpa using e1)
        subst hx
        go_wp2_with fail
        go_ret
        exact ⟨rfl, HB.out.drew⟩
      | false =>
        have HN := Lib.hid (show (ts.take (k + 1)).Nodup by rw [HT.out, nodup_snoc]; exact ⟨HNO.out, by simpa using e1⟩)
        go_wp2_with fail
        exact ⟨⟨k + 1, by go_num, by omega, HN.out, HB.out.drew⟩, by simp [intOf]; omega⟩
    · obtain rfl : k = n := by omega
      have hv := HNO.out
      rw [List.take_of_length_le (by rw [H.out.1]; exact Nat.le_refl _)] at hv
      have hx : r = true := by rw [← HR.out]; simpa using hv
      subst hx
      clear hv
      go_wp2_with fail
      go_ret
      exact ⟨rfl, HB.out⟩
end Go.Proofs.YtganmdbhmihjpaaGreat.Opa
