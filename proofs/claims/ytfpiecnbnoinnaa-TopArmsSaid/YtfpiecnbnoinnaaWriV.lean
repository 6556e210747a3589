/- The other side: Merge. -/
import Derived.Test.YtfpiecnbnoinnaaWriU
import Derived.Deep.CutBlock
namespace Go.Proofs.Ytfpiecnbnoinnaa.Wri
open Go.RowKit
set_option linter.unusedSimpArgs false
set_option linter.unusedVariables false
set_option maxRecDepth 50000

/-- the values of f over those of e, of the first k variables -/
def mrgK (e f : Frm) : Nat → Frm
  | 0 => e
  | k + 1 => match getF f k with | some v => putF (mrgK e f k) k v | none => mrgK e f k
theorem rc_congr {f g : Frm} (h : ∀ k : Nat, k < 12 → getF f k = getF g k) : rc f = rc g := by
  unfold rc
  congr 1 <;> refine List.map_congr_left fun t ht => ?_ <;> rw [h t (List.mem_range.1 ht)]
theorem getF_mrgK (e f : Frm) (k : Nat) (t : Nat) : getF (mrgK e f k) t = if t < k then (getF f t).or (getF e t) else getF e t := by
  induction k with
  | zero => simp [mrgK]
  | succ k ih =>
    unfold mrgK
    by_cases htk : t = k
    · subst htk
      rw [if_pos (Nat.lt_succ_self _)]
      cases hg : getF f t with
      | none => simp only [hg]; rw [ih, if_neg (Nat.lt_irrefl _)]; rfl
      | some v => simp only [hg]; rw [getF_put, if_pos rfl]; rfl
    · have hlt : (t < k + 1) = (t < k) := by simp; omega
      simp only [hlt]
      rw [← ih]
      cases hg : getF f k with
      | none => rfl
      | some v => simp only; rw [getF_put, if_neg (by omega)]
theorem below_setRow {B g : Nat} {w w1 : World} {A : Array Value} (h : Below B w w1) (hg : B ≤ g) : Below B w (w1.setRow g A) :=
  ⟨h.os, h.tape, h.output, by simpa using h.size, fun k hk => (setRow_other w1 g k A (by omega)).trans (h.block k hk)⟩
structure Two (w wc : World) (p4 p5 : Nat) (A B : Array Value) : Prop where
  lo : Below w.heap.size w wc
  ne : p4 ≠ p5
  h4 : w.heap.size ≤ p4
  h5 : w.heap.size ≤ p5
  b4 : wc.heap[p4]? = some (.cells A 115 (0, 0))
  b5 : wc.heap[p5]? = some (.cells B 115 (0, 0))
def RMergePost (w : World) (b : Nat) (gs : List Frm) (e : Ending) (w' : World) : Prop :=
  if gs.length ≤ 1 then e = .returned (.int .i64 8) ∧ w = w' else ∃ ys g f, gs = ys ++ [g, f] ∧ e = .returned (.int .i64 0) ∧ Only (fun k => k = b) w w' ∧ RLogAt w' b (ys ++ [mrgK g f 12])
theorem rmerge_no (w : World) (b : Nat) (gs : List Frm) (h : RLogAt w b gs) (h1 : gs.length ≤ 1) : Calls Try.prog 74 #[ptr b] w fun e w' => e = .returned (.int .i64 8) ∧ w = w' := by
  have HD := Lib.hid (rdepth_any w b gs h)
  obtain ⟨n, hn⟩ : ∃ n, gs.length = n := ⟨_, rfl⟩
  have hx1 := h
  obtain ⟨_, _, _, _, hx1, _⟩ := hx1
  rw [hn] at HD h1 hx1
  have hd : ((n : Int) - 1 == 0) = true := by (try simp); omega
  clear h hn
  go_enter Try.func74, Try.ntmps74
  go_wp2_with fail; refine (HD.out).mono ?_; rintro e w0 ⟨rfl, rfl⟩
  go_wp2_with fail
  go_ret
  exact ⟨rfl, rfl⟩
theorem two_last (gs : List Frm) (h : ¬ gs.length ≤ 1) : ∃ ys g f, gs = ys ++ [g, f] := by
  obtain ⟨f, hf⟩ : ∃ f, gs.getLast? = some f := by
    cases hg : gs.getLast? with
    | none => rw [List.getLast?_eq_none_iff] at hg; subst hg; simp at h
    | some f => exact ⟨f, rfl⟩
  obtain ⟨zs, rfl⟩ := List.getLast?_eq_some_iff.1 hf
  obtain ⟨g, hg⟩ : ∃ g, zs.getLast? = some g := by
    cases hg : zs.getLast? with
    | none => rw [List.getLast?_eq_none_iff] at hg; subst hg; simp at h
    | some f => exact ⟨f, rfl⟩
  obtain ⟨ys, rfl⟩ := List.getLast?_eq_some_iff.1 hg
  exact ⟨ys, g, f, by simp⟩
set_option maxRecDepth 50000 in
set_option maxHeartbeats 3200000 in
theorem rmerge_yes (w : World) (b : Nat) (ys : List Frm) (e f : Frm) (h : RLogAt w b (ys ++ [e, f])) : Calls Try.prog 74 #[ptr b] w fun r w' => r = .returned (.int .i64 0) ∧ Only (fun k => k = b) w w' ∧ RLogAt w' b (ys ++ [mrgK e f 12]) := by
  have HLOG := Lib.hid h
  have HD := Lib.hid (rdepth_any w b _ h)
  obtain ⟨g, cap, hb, hS, hx1, hx5⟩ := h
  have hblt := blk_lt hb
  obtain ⟨n, hn⟩ : ∃ n, (ys ++ [e, f]).length = n := ⟨_, rfl⟩
  have HN := Lib.hid hn
  rw [hn] at hb hS hx1 hx5 HD
  have b0 := blk_cell hb 0
  simp only [List.getElem?_toArray, List.getElem?_cons_zero, List.getElem?_cons_succ] at b0
  have hn1 : n = ys.length + 2 := by simpa using hn.symm
  have hfe : (ys ++ [e, f])[ys.length]? = some e := by simp
  have hff : (ys ++ [e, f])[ys.length + 1]? = some f := by simp
  obtain ⟨m, hm⟩ : ∃ m, ys.length = m := ⟨_, rfl⟩
  rw [hm] at hn1 hfe
  obtain ⟨m1, hm1⟩ : ∃ m1, ys.length + 1 = m1 := ⟨_, rfl⟩
  rw [hm1] at hff
  have HM := Lib.hid hm; have HM1 := Lib.hid hm1
  have HRE := Lib.hid (range_row hS hfe); have HRF := Lib.hid (range_row hS hff)
  obtain ⟨E, hE⟩ : ∃ E, (rc e).toArray = E := ⟨_, rfl⟩
  obtain ⟨A, hA⟩ : ∃ A, (rc f).toArray = A := ⟨_, rfl⟩
  have HEE := Lib.hid hE; have HEA := Lib.hid hA
  have HEL := Lib.hid (show E.toList = rc e by rw [← hE]); have HAL := Lib.hid (show A.toList = rc f by rw [← hA])
  have HES := Lib.hid (show E.size = 24 by (rw [← hE]; simp [rc_len])); have HAS := Lib.hid (show A.size = 24 by (rw [← hA]; simp [rc_len]))
  have HE1 := Lib.hid (show E.all (·.oneCell') = true from Array.all_eq_true_iff_forall_mem.2 (fun v hv => rc_one e v (by rw [← hE] at hv; simpa using hv)))
  have HA1 := Lib.hid (show A.all (·.oneCell') = true from Array.all_eq_true_iff_forall_mem.2 (fun v hv => rc_one f v (by rw [← hA] at hv; simpa using hv)))
  have hw1 : IntKind.i64.wrap ((n : Int) - 1) = (m1 : Int) := by rw [IntKind.wrap_i64]; omega
  have hw2 : IntKind.i64.wrap ((n : Int) - 2) = (m : Int) := by rw [IntKind.wrap_i64]; omega
  have hmn : (m : Int) < n := by omega
  have hm1n : (m1 : Int) < n := by omega
  have hd : ((n : Int) - 1 == 0) = false := by (try simp); omega
  have HN1 := Lib.hid hn1
  have KW := Lib.hid (show ∀ w', Below w.heap.size w w' → (w'.cell? ⟨b, 0, none⟩ = some (.slice (some ⟨g, 0, none⟩) n cap) ∧ w'.rangeAt g (m1 * 24) (rc f) ∧ w'.rangeAt g (m * 24) (rc e)) from fun w' h => ⟨bkeep h b0, fun j v hv => bkeep h (HRF.out j v hv), fun j v hv => bkeep h (HRE.out j v hv)⟩)
  clear hb hS hn hn1 hfe hff hm hm1 hE hA
  go_enter Try.func74, Try.ntmps74
  go_wp2_with fail
  refine (HD.out).mono ?_
  rintro r w0 ⟨rfl, hw0⟩
  subst hw0
  go_upto_region 6 with (fail)
  go_cut [4, 5] (fun s4 s5 wc => ∃ p4 p5, s4 = ptr p4 ∧ s5 = ptr p5 ∧ Two w wc p4 p5 A E)
  case first =>
    refine wp_region_F (fun w' => w'.cell? ⟨b, 0, none⟩ = some (.slice (some ⟨g, 0, none⟩) n cap) ∧ w'.rangeAt g (m1 * 24) (rc f) ∧ w'.rangeAt g (m * 24) (rc e)) 19 (by kernel_rfl) ?_
    have hS0 := KW.out w.drew (Below.refl _ _).drew
    refine wpAnyF_take (i := 0) (v := ?_) rfl (by kernel_rfl) (by kernel_rfl) (by kernel_rfl) (by kernel_rfl) (fun _ _ _ h => h) (Or.inl ⟨by rfl, ?_⟩) (by assumption) ?_; rotate_left; (focus (intro w hSw; (obtain ⟨q0, q1⟩ := hSw); (first | (go_simp; done) | (go_simp; with_reducible rfl)))); (try simp only [Act.put, List.setIfInBounds_toArray, List.set_cons_zero, List.set_cons_succ])
    refine wpAnyF_take (i := 1) (v := ?_) rfl (by kernel_rfl) (by kernel_rfl) (by kernel_rfl) (by kernel_rfl) (fun _ _ _ h => h) (Or.inl ⟨by rfl, ?_⟩) (by assumption) ?_; rotate_left; (focus (intro w hSw; (obtain ⟨q0, q1⟩ := hSw); (first | (go_simp; done) | (go_simp; with_reducible rfl)))); (try simp only [Act.put, List.setIfInBounds_toArray, List.set_cons_zero, List.set_cons_succ])
    refine wpAnyF_take (i := 2) (v := ?_) rfl (by kernel_rfl) (by kernel_rfl) (by kernel_rfl) (by kernel_rfl) (fun _ _ _ h => h) (Or.inl ⟨by rfl, ?_⟩) (by assumption) ?_; rotate_left; (focus (intro w hSw; (obtain ⟨q0, q1⟩ := hSw); (first | (go_simp; done) | (go_simp; with_reducible rfl)))); (try simp only [Act.put, List.setIfInBounds_toArray, List.set_cons_zero, List.set_cons_succ])
    refine wpAnyF_take (i := 3) (v := ?_) rfl (by kernel_rfl) (by kernel_rfl) (by kernel_rfl) (by kernel_rfl) (fun _ _ _ h => h) (Or.inl ⟨by rfl, ?_⟩) (by assumption) ?_; rotate_left; (focus (intro w hSw; (obtain ⟨q0, q1⟩ := hSw); (first | (go_simp; done) | (go_simp; with_reducible rfl)))); (try simp only [Act.put, List.setIfInBounds_toArray, List.set_cons_zero, List.set_cons_succ])
    refine wpAnyF_take (i := 4) (v := ?_) rfl (by kernel_rfl) (by kernel_rfl) (by kernel_rfl) (by kernel_rfl) (fun _ _ _ h => h) (Or.inl ⟨by rfl, ?_⟩) (by assumption) ?_; rotate_left; (focus (intro w hSw; (obtain ⟨q0, q1⟩ := hSw); (first | (go_simp; done) | (go_simp; with_reducible rfl)))); (try simp only [Act.put, List.setIfInBounds_toArray, List.set_cons_zero, List.set_cons_succ])
    refine wpAnyF_take (i := 5) (v := ?_) rfl (by kernel_rfl) (by kernel_rfl) (by kernel_rfl) (by kernel_rfl) (fun _ _ _ h => h) (Or.inl ⟨by rfl, ?_⟩) (by assumption) ?_; rotate_left; (focus (intro w hSw; (obtain ⟨q0, q1⟩ := hSw); (first | (go_simp; done) | (go_simp; with_reducible rfl)))); (try simp only [Act.put, List.setIfInBounds_toArray, List.set_cons_zero, List.set_cons_succ])
    refine wpAnyF_take (i := 6) (v := ?_) rfl (by kernel_rfl) (by kernel_rfl) (by kernel_rfl) (by kernel_rfl) (fun _ _ _ h => h) (Or.inl ⟨by rfl, ?_⟩) (by assumption) ?_; rotate_left; (focus (intro w hSw; (obtain ⟨q0, q1⟩ := hSw); (first | (go_simp; done) | (go_simp; with_reducible rfl)))); (try simp only [Act.put, List.setIfInBounds_toArray, List.set_cons_zero, List.set_cons_succ])
    refine wpAnyF_take (i := 7) (v := .agg (rc f).toArray) rfl (by kernel_rfl) (by kernel_rfl) (by kernel_rfl) (by kernel_rfl) (fun _ _ _ h => h) (yieldsIf_load_mid ?_ 115 _ rfl g (m1 * 24) rfl (rc f) _ ?_ Try.underlying115 rfl (by rw [sizeR, rc_len])) (by assumption) ?_; (focus (rfl)); (focus (exact fun w h => h.2.1)); (try simp only [Act.put, List.setIfInBounds_toArray, List.set_cons_zero, List.set_cons_succ]); rw [HEA.out]
    refine wpAnyF_take (i := 8) (v := ?_) rfl (by kernel_rfl) (by kernel_rfl) (by kernel_rfl) (by kernel_rfl) (fun _ _ _ h => h) (Or.inl ⟨by rfl, ?_⟩) (by assumption) ?_; rotate_left; (focus (intro w hSw; (obtain ⟨q0, q1⟩ := hSw); (first | (go_simp; done) | (go_simp; with_reducible rfl)))); (try simp only [Act.put, List.setIfInBounds_toArray, List.set_cons_zero, List.set_cons_succ])
    refine wpAnyF_take (i := 9) (v := ?_) rfl (by kernel_rfl) (by kernel_rfl) (by kernel_rfl) (by kernel_rfl) (fun _ _ _ h => h) (Or.inl ⟨by rfl, ?_⟩) (by assumption) ?_; rotate_left; (focus (intro w hSw; (obtain ⟨q0, q1⟩ := hSw); (first | (go_simp; done) | (go_simp; with_reducible rfl)))); (try simp only [Act.put, List.setIfInBounds_toArray, List.set_cons_zero, List.set_cons_succ])
    refine wpAnyF_take (i := 10) (v := ?_) rfl (by kernel_rfl) (by kernel_rfl) (by kernel_rfl) (by kernel_rfl) (fun _ _ _ h => h) (Or.inl ⟨by rfl, ?_⟩) (by assumption) ?_; rotate_left; (focus (intro w hSw; (obtain ⟨q0, q1⟩ := hSw); (first | (go_simp; done) | (go_simp; with_reducible rfl)))); (try simp only [Act.put, List.setIfInBounds_toArray, List.set_cons_zero, List.set_cons_succ])
    refine wpAnyF_take (i := 11) (v := ?_) rfl (by kernel_rfl) (by kernel_rfl) (by kernel_rfl) (by kernel_rfl) (fun _ _ _ h => h) (Or.inl ⟨by rfl, ?_⟩) (by assumption) ?_; rotate_left; (focus (intro w hSw; (obtain ⟨q0, q1⟩ := hSw); (first | (go_simp; done) | (go_simp; with_reducible rfl)))); (try simp only [Act.put, List.setIfInBounds_toArray, List.set_cons_zero, List.set_cons_succ])
    refine wpAnyF_take (i := 12) (v := ?_) rfl (by kernel_rfl) (by kernel_rfl) (by kernel_rfl) (by kernel_rfl) (fun _ _ _ h => h) (Or.inl ⟨by rfl, ?_⟩) (by assumption) ?_; rotate_left; (focus (intro w hSw; (obtain ⟨q0, q1⟩ := hSw); (first | (go_simp; done) | (go_simp; with_reducible rfl)))); (try simp only [Act.put, List.setIfInBounds_toArray, List.set_cons_zero, List.set_cons_succ])
    refine wpAnyF_take (i := 13) (v := ?_) rfl (by kernel_rfl) (by kernel_rfl) (by kernel_rfl) (by kernel_rfl) (fun _ _ _ h => h) (Or.inl ⟨by rfl, ?_⟩) (by assumption) ?_; rotate_left; (focus (intro w hSw; (obtain ⟨q0, q1⟩ := hSw); (first | (go_simp; done) | (go_simp; with_reducible rfl)))); (try simp only [Act.put, List.setIfInBounds_toArray, List.set_cons_zero, List.set_cons_succ])
    refine wpAnyF_take (i := 14) (v := ?_) rfl (by kernel_rfl) (by kernel_rfl) (by kernel_rfl) (by kernel_rfl) (fun _ _ _ h => h) (Or.inl ⟨by rfl, ?_⟩) (by assumption) ?_; rotate_left; (focus (intro w hSw; (obtain ⟨q0, q1⟩ := hSw); (first | (go_simp; done) | (go_simp; with_reducible rfl)))); (try simp only [Act.put, List.setIfInBounds_toArray, List.set_cons_zero, List.set_cons_succ])
    refine wpAnyF_take (i := 15) (v := .agg (rc e).toArray) rfl (by kernel_rfl) (by kernel_rfl) (by kernel_rfl) (by kernel_rfl) (fun _ _ _ h => h) (yieldsIf_load_mid ?_ 115 _ rfl g (m * 24) rfl (rc e) _ ?_ Try.underlying115 rfl (by rw [sizeR, rc_len])) (by assumption) ?_; (focus (rfl)); (focus (exact fun w h => h.2.2)); (try simp only [Act.put, List.setIfInBounds_toArray, List.set_cons_zero, List.set_cons_succ]); rw [HEE.out]
    have hz1 : ∀ Z Z', ((w.alloc (.cells Z 115)).alloc (.cells Z' 115)).drew.heap[w.heap.size]? = some (.cells Z 115 (0, 0)) := fun Z Z' => by simp [↓heap_alloc_eq, ↓heap_set_eq, ↓heap_drew_eq, ↓heap_drewN_eq, setObj, size_drewN]
    have hz2 : ∀ Z Z', ((w.alloc (.cells Z 115)).alloc (.cells Z' 115)).drew.heap[w.heap.size + 1]? = some (.cells Z' 115 (0, 0)) := fun Z Z' => by simp [↓heap_alloc_eq, ↓heap_set_eq, ↓heap_drew_eq, ↓heap_drewN_eq, setObj, size_drewN]
    have l3 : ∀ Z Z', Below w.heap.size w ((w.alloc (.cells Z 115)).alloc (.cells Z' 115)).drew := fun Z Z' => by repeat (first | (with_reducible exact Below.refl _ _) | (with_reducible apply Below.drew) | (with_reducible refine below_drewN ?_ _) | (with_reducible refine below_alloc' ?_ ?_ _; (focus ((try simp) <;> omega))) | (with_reducible refine below_set' ?_ ?_ _; (focus ((try simp) <;> omega))))
    have l1 : ∀ Z, Below w.heap.size w (w.alloc (.cells Z 115)).drew := fun Z => by repeat (first | (with_reducible exact Below.refl _ _) | (with_reducible apply Below.drew) | (with_reducible refine below_drewN ?_ _) | (with_reducible refine below_alloc' ?_ ?_ _; (focus ((try simp) <;> omega))) | (with_reducible refine below_set' ?_ ?_ _; (focus ((try simp) <;> omega))))
    have l2 : ∀ o o', Below w.heap.size w ((w.drew.alloc o).alloc o') := fun o o' => by repeat (first | (with_reducible exact Below.refl _ _) | (with_reducible apply Below.drew) | (with_reducible refine below_drewN ?_ _) | (with_reducible refine below_alloc' ?_ ?_ _; (focus ((try simp) <;> omega))) | (with_reducible refine below_set' ?_ ?_ _; (focus ((try simp) <;> omega))))
    refine wpAnyF_ready (rs := [16, 17]) (by kernel_rfl) (by simp) ?_
    refine AllF.cons rfl (fun K hK => ?_) ?_
    · go_simp
      refine hK.out _ _ (fun _ => KW.out _ (l1 _)) ?_; clear hK K; (try simp only [Act.put, List.setIfInBounds_toArray, List.set_cons_zero, List.set_cons_succ])
      refine wpAnyF_ready (rs := [17]) (by kernel_rfl) (by simp) ?_
      refine AllF.cons rfl (fun K hK => ?_) AllF.nil
      go_simp
      refine hK.out _ _ (fun _ => KW.out _ (l3 _ _)) ?_; clear hK K; (try simp only [Act.put, List.setIfInBounds_toArray, List.set_cons_zero, List.set_cons_succ])
      refine wpAnyF_ready (rs := [18]) (by kernel_rfl) (by simp) ?_; refine AllF.cons rfl (fun K hK => ?_) AllF.nil; rw [if_pos (by rfl)]; refine wp_store_row 115 _ _ rfl (w.heap.size) A rfl rfl 115 _ (hz1 _ _) (by rw [sizeR, HAS.out]) (by simp [HAS.out]) HA1.out ?_; have lA := below_setRow (g := w.heap.size) (A := A) (l3 (rc []).toArray (rc []).toArray) (by omega); refine hK.out _ _ (fun _ => KW.out _ lA) ?_; clear hK K; (try simp only [Act.put, List.setIfInBounds_toArray, List.set_cons_zero, List.set_cons_succ]); refine wpAnyF_ready (rs := [19]) (by kernel_rfl) (by simp) ?_; refine AllF.cons rfl (fun K hK => ?_) AllF.nil; rw [if_pos (by rfl)]; refine wp_store_row 115 _ _ rfl (w.heap.size + 1) E rfl rfl 115 _ ((setRow_other _ _ _ _ (by omega)).trans (hz2 _ _)) (by rw [sizeR, HES.out]) (by simp [HES.out]) HE1.out ?_; refine hK.out _ _ (fun h => absurd rfl h) ?_; clear hK K; (try simp only [Act.put, List.setIfInBounds_toArray, List.set_cons_zero, List.set_cons_succ]); refine wpAnyF_done (by kernel_rfl) ?_ _; go_wp2_with fail; go_meet; (case rel => exact ⟨w.heap.size, w.heap.size + 1, rfl, rfl, below_setRow (below_setRow (l3 _ _) (by omega)) (by omega), by omega, by omega, by omega, (setRow_other _ _ _ _ (by omega)).trans (setRow_heap _ _ _ _ _ _ (hz1 _ _)), setRow_heap _ _ _ _ _ _ ((setRow_other _ _ _ _ (by omega)).trans (hz2 _ _))⟩)
    refine AllF.cons rfl (fun K hK => ?_) AllF.nil
    go_simp
    refine hK.out _ _ (fun _ => KW.out _ (l1 _)) ?_; clear hK K; (try simp only [Act.put, List.setIfInBounds_toArray, List.set_cons_zero, List.set_cons_succ])
    refine wpAnyF_ready (rs := [16]) (by kernel_rfl) (by simp) ?_
    refine AllF.cons rfl (fun K hK => ?_) AllF.nil
    go_simp
    refine hK.out _ _ (fun _ => KW.out _ (l3 _ _)) ?_; clear hK K; (try simp only [Act.put, List.setIfInBounds_toArray, List.set_cons_zero, List.set_cons_succ])
    refine wpAnyF_ready (rs := [18]) (by kernel_rfl) (by simp) ?_; refine AllF.cons rfl (fun K hK => ?_) AllF.nil; rw [if_pos (by rfl)]; refine wp_store_row 115 _ _ rfl (w.heap.size + 1) A rfl rfl 115 _ (hz2 _ _) (by rw [sizeR, HAS.out]) (by simp [HAS.out]) HA1.out ?_; have lA := below_setRow (g := w.heap.size + 1) (A := A) (l3 (rc []).toArray (rc []).toArray) (by omega); refine hK.out _ _ (fun _ => KW.out _ lA) ?_; clear hK K; (try simp only [Act.put, List.setIfInBounds_toArray, List.set_cons_zero, List.set_cons_succ]); refine wpAnyF_ready (rs := [19]) (by kernel_rfl) (by simp) ?_; refine AllF.cons rfl (fun K hK => ?_) AllF.nil; rw [if_pos (by rfl)]; refine wp_store_row 115 _ _ rfl (w.heap.size) E rfl rfl 115 _ ((setRow_other _ _ _ _ (by omega)).trans (hz1 _ _)) (by rw [sizeR, HES.out]) (by simp [HES.out]) HE1.out ?_; refine hK.out _ _ (fun h => absurd rfl h) ?_; clear hK K; (try simp only [Act.put, List.setIfInBounds_toArray, List.set_cons_zero, List.set_cons_succ]); refine wpAnyF_done (by kernel_rfl) ?_ _; go_wp2_with fail; go_meet; (case rel => exact ⟨w.heap.size + 1, w.heap.size, rfl, rfl, below_setRow (below_setRow (l3 _ _) (by omega)) (by omega), by omega, by omega, by omega, (setRow_other _ _ _ _ (by omega)).trans (setRow_heap _ _ _ _ _ _ (hz2 _ _)), setRow_heap _ _ _ _ _ _ ((setRow_other _ _ _ _ (by omega)).trans (hz1 _ _))⟩)
  case rest =>
    obtain ⟨p4, p5, rfl, rfl, hT⟩ := hcut
    have HT := Lib.hid hT
    clear hT
    go_wp2_with fail
    go_loopw [6] (fun i wr => ∃ k : Nat, i = .int .i64 k ∧ k ≤ 12 ∧ ∃ B : Array Value, B.toList = rc (mrgK e f k) ∧ Two w wr p4 p5 A B) (fun i _ => 12 - (intOf i).toNat)
    case atStart => exact ⟨0, rfl, by decide, E, HEL.out, HT.out⟩
    case round =>
      obtain ⟨k, rfl, hk, B, hB, hT⟩ := hrel
      have HTr := Lib.hid hT; have HBr := Lib.hid hB
      have hlo := hT.lo.size
      have hb4 := blk_lt hT.b4
      have hb5 := blk_lt hT.b5
      have hne : ¬ p4 = p5 := hT.ne
      have hne' : ¬ p5 = p4 := fun h => hne h.symm
      by_cases hlt : k < 12
      · have c0 := blk_cell hT.b4 k
        have c1 := blk_cell hT.b4 (12 + k)
        rw [← Array.getElem?_toList, HAL.out, rc_has f k hlt] at c0
        rw [← Array.getElem?_toList, HAL.out, rc_val f k hlt] at c1
        have hk12 : (k : Int) < 12 := by omega
        cases hg : getF f k with
        | none =>
          have HK := Lib.hid (show mrgK e f (k + 1) = mrgK e f k by simp [mrgK, hg])
          rw [hg] at c0 c1
          simp only [Option.isSome_none] at c0
          clear hg hT hB
          go_wp2_with fail
          exact ⟨⟨k + 1, by go_num, by omega, B, by rw [HK.out]; exact HBr.out, HTr.out⟩, by simp [intOf]; omega⟩
        | some v =>
          have HK := Lib.hid (show mrgK e f (k + 1) = putF (mrgK e f k) k v by simp [mrgK, hg])
          rw [hg] at c0 c1
          simp only [Option.isSome_some, Option.getD_some] at c0 c1
          have d0 := blk_cell hT.b5 k
          have d1 := blk_cell hT.b5 (12 + k)
          rw [← Array.getElem?_toList, hB, rc_has _ k hlt] at d0
          rw [← Array.getElem?_toList, hB, rc_val _ k hlt] at d1
          have hfz := blk_free hT.b5
          have HG := Lib.hid hg
          clear hg hT hB
          go_wp2_with fail
          refine wp_region_F (fun w' => w'.cell? ⟨p4, 12 + k, none⟩ = some (.int .u64 v)) 11 (by kernel_rfl) ?_
          have hS0 : wr.drew.cell? ⟨p4, 12 + k, none⟩ = some (.int .u64 v) := c1
          have hS1 : ∀ u, (wr.drew.setCell ⟨p5, k, none⟩ u).cell? ⟨p4, 12 + k, none⟩ = some (.int .u64 v) := fun u => (blk_cell (blk_other (w := wr.drew) HTr.out.b4 (p := ⟨p5, k, none⟩) hne u) (12 + k)).trans (by rw [← Array.getElem?_toList, HAL.out, rc_val f k hlt, HG.out]; rfl)
          refine wpAnyF_take (i := 0) (v := ?_) rfl (by kernel_rfl) (by kernel_rfl) (by kernel_rfl) (by kernel_rfl) (fun _ _ _ h => h) (Or.inl ⟨by rfl, ?_⟩) (by assumption) ?_; rotate_left; (focus (intro w hSw; (skip); (first | (go_simp; done) | (go_simp; with_reducible rfl)))); (try simp only [Act.put, List.setIfInBounds_toArray, List.set_cons_zero, List.set_cons_succ])
          refine wpAnyF_take (i := 1) (v := ?_) rfl (by kernel_rfl) (by kernel_rfl) (by kernel_rfl) (by kernel_rfl) (fun _ _ _ h => h) (Or.inl ⟨by rfl, ?_⟩) (by assumption) ?_; rotate_left; (focus (intro w hSw; (skip); (first | (go_simp; done) | (go_simp; with_reducible rfl)))); (try simp only [Act.put, List.setIfInBounds_toArray, List.set_cons_zero, List.set_cons_succ])
          refine wpAnyF_take (i := 2) (v := ?_) rfl (by kernel_rfl) (by kernel_rfl) (by kernel_rfl) (by kernel_rfl) (fun _ _ _ h => h) (Or.inl ⟨by rfl, ?_⟩) (by assumption) ?_; rotate_left; (focus (intro w hSw; (skip); (first | (go_simp; done) | (go_simp; with_reducible rfl)))); (try simp only [Act.put, List.setIfInBounds_toArray, List.set_cons_zero, List.set_cons_succ])
          refine wpAnyF_take (i := 3) (v := ?_) rfl (by kernel_rfl) (by kernel_rfl) (by kernel_rfl) (by kernel_rfl) (fun _ _ _ h => h) (Or.inl ⟨by rfl, ?_⟩) (by assumption) ?_; rotate_left; (focus (intro w hSw; (skip); (first | (go_simp; done) | (go_simp; with_reducible rfl)))); (try simp only [Act.put, List.setIfInBounds_toArray, List.set_cons_zero, List.set_cons_succ])
          refine wpAnyF_take (i := 4) (v := ?_) rfl (by kernel_rfl) (by kernel_rfl) (by kernel_rfl) (by kernel_rfl) (fun _ _ _ h => h) (Or.inl ⟨by rfl, ?_⟩) (by assumption) ?_; rotate_left; (focus (intro w hSw; (skip); (first | (go_simp; done) | (go_simp; with_reducible rfl)))); (try simp only [Act.put, List.setIfInBounds_toArray, List.set_cons_zero, List.set_cons_succ])
          refine wpAnyF_take (i := 5) (v := ?_) rfl (by kernel_rfl) (by kernel_rfl) (by kernel_rfl) (by kernel_rfl) (fun _ _ _ h => h) (Or.inl ⟨by rfl, ?_⟩) (by assumption) ?_; rotate_left; (focus (intro w hSw; (skip); (first | (go_simp; done) | (go_simp; with_reducible rfl)))); (try simp only [Act.put, List.setIfInBounds_toArray, List.set_cons_zero, List.set_cons_succ])
          refine wpAnyF_take (i := 6) (v := ?_) rfl (by kernel_rfl) (by kernel_rfl) (by kernel_rfl) (by kernel_rfl) (fun _ _ _ h => h) (Or.inl ⟨by rfl, ?_⟩) (by assumption) ?_; rotate_left; (focus (intro w hSw; (skip); (first | (go_simp; done) | (go_simp; with_reducible rfl)))); (try simp only [Act.put, List.setIfInBounds_toArray, List.set_cons_zero, List.set_cons_succ])
          refine wpAnyF_take (i := 7) (v := ?_) rfl (by kernel_rfl) (by kernel_rfl) (by kernel_rfl) (by kernel_rfl) (fun _ _ _ h => h) (Or.inl ⟨by rfl, ?_⟩) (by assumption) ?_; rotate_left; (focus (intro w hSw; (skip); (first | (go_simp; done) | (go_simp; with_reducible rfl)))); (try simp only [Act.put, List.setIfInBounds_toArray, List.set_cons_zero, List.set_cons_succ])
          have hX : Two w ((wr.drew.setCell ⟨p5, k, none⟩ (.bool true)).setCell ⟨p5, 12 + k, none⟩ (.int .u64 v)) p4 p5 A ((B.setIfInBounds k (.bool true)).setIfInBounds (12 + k) (.int .u64 v)) :=
            ⟨below_set' (p := ⟨p5, 12 + k, none⟩) HTr.out.h5 (below_set' (p := ⟨p5, k, none⟩) HTr.out.h5 HTr.out.lo.drew _) _, hne, HTr.out.h4, HTr.out.h5, blk_other (p := ⟨p5, 12 + k, none⟩) (blk_other (w := wr.drew) (p := ⟨p5, k, none⟩) HTr.out.b4 hne _) hne _, blk_set (blk_set (w := wr.drew) HTr.out.b5 k _) (12 + k) _⟩
          have HX := Lib.hid hX
          clear hX
          refine wpAnyF_ready (rs := [8, 9]) (by kernel_rfl) (by simp) ?_
          refine AllF.cons rfl (fun K hK => ?_) ?_
          · go_simp
            refine hK.out _ _ (fun _ => hS1 _) ?_; clear hK K; (try simp only [Act.put, List.setIfInBounds_toArray, List.set_cons_zero, List.set_cons_succ])
            refine wpAnyF_ready (rs := [9]) (by kernel_rfl) (by simp) ?_
            refine AllF.cons rfl (fun K hK => ?_) AllF.nil
            go_simp
            refine hK.out _ _ (fun _ => hS1 _) ?_; clear hK K; (try simp only [Act.put, List.setIfInBounds_toArray, List.set_cons_zero, List.set_cons_succ])
            refine wpAnyF_ready (rs := [10]) (by kernel_rfl) (by simp) ?_
            refine AllF.cons rfl (fun K hK => ?_) AllF.nil
            go_simp
            refine hK.out _ _ (fun _ => hS1 _) ?_; clear hK K; (try simp only [Act.put, List.setIfInBounds_toArray, List.set_cons_zero, List.set_cons_succ])
            refine wpAnyF_ready (rs := [11]) (by kernel_rfl) (by simp) ?_
            refine AllF.cons rfl (fun K hK => ?_) AllF.nil
            go_simp
            refine hK.out _ _ (fun h => absurd rfl h) ?_; clear hK K; (try simp only [Act.put, List.setIfInBounds_toArray, List.set_cons_zero, List.set_cons_succ]); refine wpAnyF_done (by kernel_rfl) ?_ _
            clear hS0 hS1
            go_wp2_with fail
            exact ⟨⟨k + 1, by go_num, by omega, _, by rw [HK.out, ← rc_put _ _ _ hlt, ← HBr.out]; simp, HX.out⟩, by simp [intOf]; omega⟩
          refine AllF.cons rfl (fun K hK => ?_) AllF.nil
          go_simp
          refine hK.out _ _ (fun _ => hS0) ?_; clear hK K; (try simp only [Act.put, List.setIfInBounds_toArray, List.set_cons_zero, List.set_cons_succ])
          refine wpAnyF_ready (rs := [8]) (by kernel_rfl) (by simp) ?_
          refine AllF.cons rfl (fun K hK => ?_) AllF.nil
          go_simp
          refine hK.out _ _ (fun _ => hS1 _) ?_; clear hK K; (try simp only [Act.put, List.setIfInBounds_toArray, List.set_cons_zero, List.set_cons_succ])
          refine wpAnyF_ready (rs := [10]) (by kernel_rfl) (by simp) ?_
          refine AllF.cons rfl (fun K hK => ?_) AllF.nil
          go_simp
          refine hK.out _ _ (fun _ => hS1 _) ?_; clear hK K; (try simp only [Act.put, List.setIfInBounds_toArray, List.set_cons_zero, List.set_cons_succ])
          refine wpAnyF_ready (rs := [11]) (by kernel_rfl) (by simp) ?_
          refine AllF.cons rfl (fun K hK => ?_) AllF.nil
          go_simp
          refine hK.out _ _ (fun h => absurd rfl h) ?_; clear hK K; (try simp only [Act.put, List.setIfInBounds_toArray, List.set_cons_zero, List.set_cons_succ]); refine wpAnyF_done (by kernel_rfl) ?_ _
          clear hS0 hS1
          go_wp2_with fail
          exact ⟨⟨k + 1, by go_num, by omega, _, by rw [HK.out, ← rc_put _ _ _ hlt, ← HBr.out]; simp, HX.out⟩, by simp [intOf]; omega⟩
      · obtain rfl : k = 12 := by omega
        have hDr := rdrop_any wr b _ (HLOG.out.below hT.lo)
        unfold RDropPost at hDr
        simp only [if_neg (show ¬ (ys ++ [e, f]).length ≤ 1 by rw [HN.out]; have := HN1.out; omega), show (ys ++ [e, f]).dropLast = ys ++ [e] by simp [List.dropLast_append]] at hDr
        have HDR := Lib.hid hDr
        clear hDr hT
        go_wp2_with fail
        refine (HDR.out).mono ?_
        rintro r w2 ⟨rfl, o2, h2⟩
        have h5w := HTr.out.h5
        have hb5' := o2.blk HTr.out.b5 (by omega)
        have hle := HTr.out.lo
        have hB24 : (Try.prog.info? 115).map (·.size) = some B.size := by have h24 := congrArg List.length HBr.out; rw [rc_len] at h24; rw [sizeR, ← h24, Array.length_toList]
        have hset := rset_any w2 b _ h2 m (by simp; have := HM.out; omega) (mrgK e f 12) B HBr.out
        rw [show (ys ++ [e]).set m (mrgK e f 12) = ys ++ [mrgK e f 12] from by rw [← HM.out] <;> simp] at hset
        have HSET := Lib.hid hset; have HB5 := Lib.hid hb5'; have HB24 := Lib.hid hB24
        have O2 := Lib.hid ((Only.of_below (S := fun k => k = b) hle (fun k hk h => by omega)).trans o2)
        clear hset hb5' hB24 o2 h2 hle
        go_wp2_with (refine wpList_load_row rfl 115 _ rfl p5 rfl 115 B (0, 0) _ HB5.out Try.underlying115 rfl HB24.out ?_)
        refine (HSET.out).mono ?_
        rintro r w4 ⟨rfl, o4, h4⟩
        have H4 := Lib.hid h4; have O4 := Lib.hid (O2.out.trans o4)
        clear h4 o4
        go_wp2_with fail
        go_ret
        exact ⟨rfl, O4.out, H4.out⟩
theorem rmerge_any (w : World) (b : Nat) (gs : List Frm) (h : RLogAt w b gs) : Calls Try.prog 74 #[ptr b] w (RMergePost w b gs) := by
  unfold RMergePost
  by_cases h1 : gs.length ≤ 1
  · simp only [if_pos h1]
    exact rmerge_no w b gs h h1
  · simp only [if_neg h1]
    obtain ⟨ys, g, f, rfl⟩ := two_last gs h1
    refine (rmerge_yes w b ys g f h).mono ?_
    rintro r w' ⟨rfl, o, h'⟩
    exact ⟨ys, g, f, rfl, rfl, o, h'⟩
end Go.Proofs.Ytfpiecnbnoinnaa.Wri
