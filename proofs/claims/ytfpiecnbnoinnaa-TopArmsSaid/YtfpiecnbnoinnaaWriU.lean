/- The other side: Put. -/
import Derived.Test.YtfpiecnbnoinnaaWriT
import Derived.Deep.WholeRow
namespace Go.Proofs.Ytfpiecnbnoinnaa.Wri
open Go.RowKit
set_option linter.unusedSimpArgs false
set_option linter.unusedVariables false
set_option maxRecDepth 50000

theorem rput_range (w : World) (b : Nat) (t v : Int) (h : ¬ okT t) : Calls Try.prog 71 #[ptr b, .int .i64 t, .int .u64 v] w fun e w' => e = .returned (.int .i64 2) ∧ w = w' := by
  by_cases h0 : t < 0
  · have hd : decide (t < 0) = true := by simpa using h0
    go_enter Try.func71, Try.ntmps71
    go_wp2
    go_ret
    exact ⟨rfl, rfl⟩
  · have hd : decide (t < 0) = false := by simpa using h0
    have hd2 : decide (12 ≤ t) = true := by simp; unfold okT at h; omega
    go_enter Try.func71, Try.ntmps71
    go_wp2
    go_ret
    exact ⟨rfl, rfl⟩
theorem rput_form (w : World) (b : Nat) (t v : Int) (h : okT t) (hv : 0 ≤ v ∧ v < 18446744073709551616) (hr : rightVal v = false) : Calls Try.prog 71 #[ptr b, .int .i64 t, .int .u64 v] w fun e w' => e = .returned (.int .i64 3) ∧ w = w' := by
  have hd : decide (t < 0) = false := by simp; exact h.1
  have hd2 : decide (12 ≤ t) = false := by simp; exact h.2
  have hR := rRight_any w v hv
  rw [hr] at hR
  have HR := Lib.hid hR
  clear hR hr
  go_enter Try.func71, Try.ntmps71
  go_wp2_with fail; refine (HR.out).mono ?_; rintro e w0 ⟨rfl, rfl⟩
  go_wp2_with fail
  go_ret
  exact ⟨rfl, rfl⟩
theorem still_load_mid {P : Program} {ops : Array Oper} {op : Oper} {rest : List Oper} {a : Act} {w : World} {Q : Act → Prop} (hg : op.guard = none) (ty : TypeId) (x : Operand) (ho : op.op = .load ty x)
    (b o : Nat) (hx : a.eval x = .pointer (some ⟨b, o, none⟩)) (cs : List Value) (d : TypeDesc) (hc : w.rangeAt b o cs)
    (hu : P.underlying ty = some d) (hd : d.isRow = true) (hi : (P.info? ty).map (·.size) = some cs.length) (h : wpStill P ops w Q rest (a.put op.dst (.agg cs.toArray))) : wpStill P ops w Q (op :: rest) a :=
  wpStill_step fun K hK => by
    rw [if_pos (show Region.wanted op _ = true by simp [Region.wanted, hg])]
    unfold Oper.still execOp
    simp only [ho, hx, Instr.loadAt, Instr.sureAddr, Sem.run_bind, Sem.run_pure, Result.andThen_ok, run_loadVar_mid w b o ty cs d hc hu hd hi]
    rw [Oper.stillUpon_value]
    exact hK _ h
theorem range_blk {w : World} {b : Nat} {cs : List Value} {A : Array Value} {t : TypeId} {fr : Nat × Nat} (h : w.heap[b]? = some (.cells A t fr)) (hA : A.toList = cs) : w.rangeAt b 0 cs := by
  intro j v hv
  rw [Nat.zero_add, blk_cell h j, ← hv, ← hA]
  simp
theorem range_row {w : World} {base g cap n : Nat} {gs : List Frm} {i : Nat} {f : Frm} (h : w.ownsRow base 115 24 (.slice (some ⟨g, 0, none⟩) n cap) n (rowV gs)) (hf : gs[i]? = some f) : w.rangeAt g (i * 24) (rc f) := by
  intro j v hv
  have hj : j < 24 := by have := (List.getElem?_eq_some_iff.1 hv).1; rwa [rc_len] at this
  have r := rowV_get gs i j hj
  rw [hf, Option.bind_some, hv] at r
  have := h.cells (g := g) rfl _ _ r
  rwa [Addr.add_lit, Nat.zero_add] at this
def putG (gs : List Frm) (f : Frm) (t v : Int) : Int := if ¬ okT t then 2 else if rightVal v = false then 3 else if getF f t = none ∧ 16 ≤ cntG gs then 4 else 0
set_option maxHeartbeats 1600000 in
theorem rput_space (w : World) (b : Nat) (ys : List Frm) (f : Frm) (h : RLogAt w b (ys ++ [f])) (t : Nat) (v : Int) (ht : t < 12) (hv : 0 ≤ v ∧ v < 18446744073709551616) (hr : rightVal v = true) (hn0 : getF f t = none) (hl : 16 ≤ cntG (ys ++ [f])) :
    Calls Try.prog 71 #[ptr b, .int .i64 t, .int .u64 v] w fun e w' => e = .returned (.int .i64 4) ∧ Below w.heap.size w w' := by
  have hd : decide ((t : Int) < 0) = false := by (try simp) <;> omega
  have hd2 : decide ((12 : Int) ≤ t) = false := by simp; omega
  have hR := rRight_any w v hv
  rw [hr] at hR
  have HR := Lib.hid hR
  have HLOG := Lib.hid h
  obtain ⟨g, cap, hb, hS, hx1, hx5⟩ := h; have hblt := blk_lt hb; obtain ⟨n, hn⟩ : ∃ n, (ys ++ [f]).length = n := ⟨_, rfl⟩; have HN := Lib.hid hn; rw [hn] at hb hS hx1 hx5; have b0 := blk_cell hb 0; simp only [List.getElem?_toArray, List.getElem?_cons_zero, List.getElem?_cons_succ] at b0; have hn1 : n = ys.length + 1 := (by simpa using hn.symm); have hfm : (ys ++ [f])[ys.length]? = some f := by simp
  obtain ⟨m, hm⟩ : ∃ m, ys.length = m := ⟨_, rfl⟩; rw [hm] at hfm hn1; have HM := Lib.hid hm; have hrg := range_row hS hfm; obtain ⟨A, hA⟩ : ∃ A, (rc f).toArray = A := ⟨_, rfl⟩; have HA := Lib.hid (show A.toList = rc f by rw [← hA]); have HAL := Lib.hid (show A.size = 24 by (rw [← hA]; simp [rc_len])); have HA1 := Lib.hid (show A.all (·.oneCell') = true from Array.all_eq_true_iff_forall_mem.2 (fun v hv => rc_one f v (by rw [← hA] at hv; simpa using hv))); have HEA := Lib.hid hA; have hw : IntKind.i64.wrap ((n : Int) - 1) = (m : Int) := (by rw [IntKind.wrap_i64] <;> omega); have hmn : (m : Int) < n := (by omega); have HB := Lib.hid hb; have HS := Lib.hid hS; have HRG := Lib.hid hrg; have HN1 := Lib.hid hn1; have HFM := Lib.hid hfm; clear hb hS hn hA hrg hm hfm hn1; have KW := Lib.hid (show ∀ w', Below w.heap.size w w' → (w'.cell? ⟨b, 0, none⟩ = some (.slice (some ⟨g, 0, none⟩) n cap) ∧ w'.rangeAt g (m * 24) (rc f)) from fun w' h => ⟨bkeep h b0, fun j v hv => bkeep h (HRG.out j v hv)⟩)
  clear hR hr
  go_enter Try.func71, Try.ntmps71
  go_wp2_with fail
  refine (HR.out).mono ?_
  rintro e w0 ⟨rfl, hw0⟩
  subst hw0
  go_wp2_with fail
  refine wp_region_F (fun w' => w'.cell? ⟨b, 0, none⟩ = some (.slice (some ⟨g, 0, none⟩) n cap) ∧ w'.rangeAt g (m * 24) (rc f)) 13 (by kernel_rfl) ?_
  have hS0 := KW.out w.drew (Below.refl _ _).drew
  refine wpAnyF_take (i := 0) (v := ?_) rfl (by kernel_rfl) (by kernel_rfl) (by kernel_rfl) (by kernel_rfl) (fun _ _ _ h => h) (Or.inl ⟨by rfl, ?_⟩) (by assumption) ?_; rotate_left; (focus (intro w hSw; (obtain ⟨q0, q1⟩ := hSw); (first | (go_simp; done) | (go_simp; with_reducible rfl)))); (try simp only [Act.put, List.setIfInBounds_toArray, List.set_cons_zero, List.set_cons_succ])
  refine wpAnyF_take (i := 1) (v := ?_) rfl (by kernel_rfl) (by kernel_rfl) (by kernel_rfl) (by kernel_rfl) (fun _ _ _ h => h) (Or.inl ⟨by rfl, ?_⟩) (by assumption) ?_; rotate_left; (focus (intro w hSw; (obtain ⟨q0, q1⟩ := hSw); (first | (go_simp; done) | (go_simp; with_reducible rfl)))); (try simp only [Act.put, List.setIfInBounds_toArray, List.set_cons_zero, List.set_cons_succ])
  refine wpAnyF_take (i := 2) (v := ?_) rfl (by kernel_rfl) (by kernel_rfl) (by kernel_rfl) (by kernel_rfl) (fun _ _ _ h => h) (Or.inl ⟨by rfl, ?_⟩) (by assumption) ?_; rotate_left; (focus (intro w hSw; (obtain ⟨q0, q1⟩ := hSw); (first | (go_simp; done) | (go_simp; with_reducible rfl)))); (try simp only [Act.put, List.setIfInBounds_toArray, List.set_cons_zero, List.set_cons_succ])
  refine wpAnyF_take (i := 3) (v := ?_) rfl (by kernel_rfl) (by kernel_rfl) (by kernel_rfl) (by kernel_rfl) (fun _ _ _ h => h) (Or.inl ⟨by rfl, ?_⟩) (by assumption) ?_; rotate_left; (focus (intro w hSw; (obtain ⟨q0, q1⟩ := hSw); (first | (go_simp; done) | (go_simp; with_reducible rfl)))); (try simp only [Act.put, List.setIfInBounds_toArray, List.set_cons_zero, List.set_cons_succ])
  refine wpAnyF_take (i := 4) (v := ?_) rfl (by kernel_rfl) (by kernel_rfl) (by kernel_rfl) (by kernel_rfl) (fun _ _ _ h => h) (Or.inl ⟨by rfl, ?_⟩) (by assumption) ?_; rotate_left; (focus (intro w hSw; (obtain ⟨q0, q1⟩ := hSw); (first | (go_simp; done) | (go_simp; with_reducible rfl)))); (try simp only [Act.put, List.setIfInBounds_toArray, List.set_cons_zero, List.set_cons_succ])
  refine wpAnyF_take (i := 5) (v := ?_) rfl (by kernel_rfl) (by kernel_rfl) (by kernel_rfl) (by kernel_rfl) (fun _ _ _ h => h) (Or.inl ⟨by rfl, ?_⟩) (by assumption) ?_; rotate_left; (focus (intro w hSw; (obtain ⟨q0, q1⟩ := hSw); (first | (go_simp; done) | (go_simp; with_reducible rfl)))); (try simp only [Act.put, List.setIfInBounds_toArray, List.set_cons_zero, List.set_cons_succ])
  refine wpAnyF_take (i := 6) (v := ?_) rfl (by kernel_rfl) (by kernel_rfl) (by kernel_rfl) (by kernel_rfl) (fun _ _ _ h => h) (Or.inl ⟨by rfl, ?_⟩) (by assumption) ?_; rotate_left; (focus (intro w hSw; (obtain ⟨q0, q1⟩ := hSw); (first | (go_simp; done) | (go_simp; with_reducible rfl)))); (try simp only [Act.put, List.setIfInBounds_toArray, List.set_cons_zero, List.set_cons_succ])
  refine wpAnyF_take (i := 7) (v := ?_) rfl (by kernel_rfl) (by kernel_rfl) (by kernel_rfl) (by kernel_rfl) (fun _ _ _ h => h) (Or.inl ⟨by rfl, ?_⟩) (by assumption) ?_; rotate_left; (focus (intro w hSw; (obtain ⟨q0, q1⟩ := hSw); (first | (go_simp; done) | (go_simp; with_reducible rfl)))); (try simp only [Act.put, List.setIfInBounds_toArray, List.set_cons_zero, List.set_cons_succ])
  refine wpAnyF_take (i := 8) (v := ?_) rfl (by kernel_rfl) (by kernel_rfl) (by kernel_rfl) (by kernel_rfl) (fun _ _ _ h => h) (Or.inl ⟨by rfl, ?_⟩) (by assumption) ?_; rotate_left; (focus (intro w hSw; (obtain ⟨q0, q1⟩ := hSw); (first | (go_simp; done) | (go_simp; with_reducible rfl)))); (try simp only [Act.put, List.setIfInBounds_toArray, List.set_cons_zero, List.set_cons_succ])
  refine wpAnyF_take (i := 9) (v := ?_) rfl (by kernel_rfl) (by kernel_rfl) (by kernel_rfl) (by kernel_rfl) (fun _ _ _ h => h) (Or.inl ⟨by rfl, ?_⟩) (by assumption) ?_; rotate_left; (focus (intro w hSw; (obtain ⟨q0, q1⟩ := hSw); (first | (go_simp; done) | (go_simp; with_reducible rfl)))); (try simp only [Act.put, List.setIfInBounds_toArray, List.set_cons_zero, List.set_cons_succ])
  refine wpAnyF_take (i := 10) (v := ?_) rfl (by kernel_rfl) (by kernel_rfl) (by kernel_rfl) (by kernel_rfl) (fun _ _ _ h => h) (Or.inl ⟨by rfl, ?_⟩) (by assumption) ?_; rotate_left; (focus (intro w hSw; (obtain ⟨q0, q1⟩ := hSw); (first | (go_simp; done) | (go_simp; with_reducible rfl)))); (try simp only [Act.put, List.setIfInBounds_toArray, List.set_cons_zero, List.set_cons_succ])
  refine wpAnyF_take (i := 11) (v := .agg (rc f).toArray) rfl (by kernel_rfl) (by kernel_rfl) (by kernel_rfl) (by kernel_rfl) (fun _ _ _ h => h) (yieldsIf_load_mid ?_ 115 _ rfl g (m * 24) rfl (rc f) _ ?_ Try.underlying115 rfl (by rw [sizeR, rc_len])) (by assumption) ?_; (focus (rfl)); (focus (exact fun w h => h.2)); (try simp only [Act.put, List.setIfInBounds_toArray, List.set_cons_zero, List.set_cons_succ]); rw [HEA.out]
  refine wpAnyF_ready (rs := [12]) (by kernel_rfl) (by simp) ?_
  refine AllF.cons rfl (fun K hK => ?_) AllF.nil
  go_simp
  have l1 : ∀ o, Below w.heap.size w (w.drew.alloc o) := fun o => by repeat (first | (with_reducible exact Below.refl _ _) | (with_reducible apply Below.drew) | (with_reducible refine below_drewN ?_ _) | (with_reducible refine below_alloc' ?_ ?_ _; (focus ((try simp) <;> omega))) | (with_reducible refine below_set' ?_ ?_ _; (focus ((try simp) <;> omega))))
  refine hK.out _ _ (fun _ => KW.out _ (l1 _)) ?_; clear hK K; (try simp only [Act.put, List.setIfInBounds_toArray, List.set_cons_zero, List.set_cons_succ])
  refine wpAnyF_ready (rs := [13]) (by kernel_rfl) (by simp) ?_
  refine AllF.cons rfl (fun K hK => ?_) AllF.nil
  rw [if_pos (by rfl)]
  refine wp_store_row 115 _ _ rfl w.drew.heap.size A rfl rfl 115 _ (heap_alloc_last _ _) (by rw [sizeR, HAL.out]) (by simp [HAL.out]) HA1.out ?_
  rw [show ∀ cs, (w.alloc (.cells cs 115)).drew.setRow w.drew.heap.size A = w.drew.alloc (.cells A 115) from fun cs => congrArg World.drew (World.setRow_alloc_new w cs A _)]
  refine hK.out _ _ (fun h => absurd rfl h) ?_; clear hK K; (try simp only [Act.put, List.setIfInBounds_toArray, List.set_cons_zero, List.set_cons_succ]); refine wpAnyF_done (by kernel_rfl) ?_ _
  have l2 := l1 (.cells A 115)
  have HT := Lib.hid (blk_new w.drew (.cells A 115))
  have c0 : (w.drew.alloc (.cells A 115)).cell? ⟨w.heap.size, t, none⟩ = _ := blk_cell HT.out t
  rw [← Array.getElem?_toList, HA.out, rc_has f t ht, hn0] at c0
  simp only [Option.isSome_none] at c0
  have LN := rlen_any (w.drew.alloc (.cells A 115)) b (ys ++ [f]) (HLOG.out.below l2)
  have HLN := Lib.hid LN
  obtain ⟨L, hL⟩ : ∃ L, cntG (ys ++ [f]) = L := ⟨_, rfl⟩
  rw [hL] at HLN hl
  have hd3 : decide ((16 : Int) ≤ L) = true := by simp; omega
  have ht12 : (t : Int) < 12 := by omega
  have HL2 := Lib.hid l2
  clear LN l2 l1 hL hl hS0
  generalize w.drew.alloc (.cells A 115) = w2 at *
  go_wp2_with fail
  refine (HLN.out).mono ?_
  rintro e w3 ⟨rfl, hw3⟩
  subst hw3
  go_wp2_with fail
  go_ret
  exact ⟨rfl, HL2.out⟩
set_option maxHeartbeats 3200000 in
theorem rput_done (w : World) (b : Nat) (ys : List Frm) (f : Frm) (h : RLogAt w b (ys ++ [f])) (t : Nat) (v : Int) (ht : t < 12) (hv : 0 ≤ v ∧ v < 18446744073709551616) (hr : rightVal v = true) (hn0 : ¬ (getF f t = none ∧ 16 ≤ cntG (ys ++ [f]))) :
    Calls Try.prog 71 #[ptr b, .int .i64 t, .int .u64 v] w fun e w' => e = .returned (.int .i64 0) ∧ Only (fun k => k = b) w w' ∧ RLogAt w' b (ys ++ [putF f t v]) := by
  have hd : decide ((t : Int) < 0) = false := by (try simp) <;> omega
  have hd2 : decide ((12 : Int) ≤ t) = false := by simp; omega
  have hR := rRight_any w v hv
  rw [hr] at hR
  have HR := Lib.hid hR
  have HLOG := Lib.hid h
  obtain ⟨g, cap, hb, hS, hx1, hx5⟩ := h; have hblt := blk_lt hb; obtain ⟨n, hn⟩ : ∃ n, (ys ++ [f]).length = n := ⟨_, rfl⟩; have HN := Lib.hid hn; rw [hn] at hb hS hx1 hx5; have b0 := blk_cell hb 0; simp only [List.getElem?_toArray, List.getElem?_cons_zero, List.getElem?_cons_succ] at b0; have hn1 : n = ys.length + 1 := (by simpa using hn.symm); have hfm : (ys ++ [f])[ys.length]? = some f := by simp
  obtain ⟨m, hm⟩ : ∃ m, ys.length = m := ⟨_, rfl⟩; rw [hm] at hfm hn1; have HM := Lib.hid hm; have hrg := range_row hS hfm; obtain ⟨A, hA⟩ : ∃ A, (rc f).toArray = A := ⟨_, rfl⟩; have HA := Lib.hid (show A.toList = rc f by rw [← hA]); have HAL := Lib.hid (show A.size = 24 by (rw [← hA]; simp [rc_len])); have HA1 := Lib.hid (show A.all (·.oneCell') = true from Array.all_eq_true_iff_forall_mem.2 (fun v hv => rc_one f v (by rw [← hA] at hv; simpa using hv))); have HEA := Lib.hid hA; have hw : IntKind.i64.wrap ((n : Int) - 1) = (m : Int) := (by rw [IntKind.wrap_i64] <;> omega); have hmn : (m : Int) < n := (by omega); have HB := Lib.hid hb; have HS := Lib.hid hS; have HRG := Lib.hid hrg; have HN1 := Lib.hid hn1; have HFM := Lib.hid hfm; clear hb hS hn hA hrg hm hfm hn1; have KW := Lib.hid (show ∀ w', Below w.heap.size w w' → (w'.cell? ⟨b, 0, none⟩ = some (.slice (some ⟨g, 0, none⟩) n cap) ∧ w'.rangeAt g (m * 24) (rc f)) from fun w' h => ⟨bkeep h b0, fun j v hv => bkeep h (HRG.out j v hv)⟩)
  clear hR hr
  go_enter Try.func71, Try.ntmps71
  go_wp2_with fail
  refine (HR.out).mono ?_
  rintro e w0 ⟨rfl, hw0⟩
  subst hw0
  go_wp2_with fail
  refine wp_region_F (fun w' => w'.cell? ⟨b, 0, none⟩ = some (.slice (some ⟨g, 0, none⟩) n cap) ∧ w'.rangeAt g (m * 24) (rc f)) 13 (by kernel_rfl) ?_
  have hS0 := KW.out w.drew (Below.refl _ _).drew
  refine wpAnyF_take (i := 0) (v := ?_) rfl (by kernel_rfl) (by kernel_rfl) (by kernel_rfl) (by kernel_rfl) (fun _ _ _ h => h) (Or.inl ⟨by rfl, ?_⟩) (by assumption) ?_; rotate_left; (focus (intro w hSw; (obtain ⟨q0, q1⟩ := hSw); (first | (go_simp; done) | (go_simp; with_reducible rfl)))); (try simp only [Act.put, List.setIfInBounds_toArray, List.set_cons_zero, List.set_cons_succ])
  refine wpAnyF_take (i := 1) (v := ?_) rfl (by kernel_rfl) (by kernel_rfl) (by kernel_rfl) (by kernel_rfl) (fun _ _ _ h => h) (Or.inl ⟨by rfl, ?_⟩) (by assumption) ?_; rotate_left; (focus (intro w hSw; (obtain ⟨q0, q1⟩ := hSw); (first | (go_simp; done) | (go_simp; with_reducible rfl)))); (try simp only [Act.put, List.setIfInBounds_toArray, List.set_cons_zero, List.set_cons_succ])
  refine wpAnyF_take (i := 2) (v := ?_) rfl (by kernel_rfl) (by kernel_rfl) (by kernel_rfl) (by kernel_rfl) (fun _ _ _ h => h) (Or.inl ⟨by rfl, ?_⟩) (by assumption) ?_; rotate_left; (focus (intro w hSw; (obtain ⟨q0, q1⟩ := hSw); (first | (go_simp; done) | (go_simp; with_reducible rfl)))); (try simp only [Act.put, List.setIfInBounds_toArray, List.set_cons_zero, List.set_cons_succ])
  refine wpAnyF_take (i := 3) (v := ?_) rfl (by kernel_rfl) (by kernel_rfl) (by kernel_rfl) (by kernel_rfl) (fun _ _ _ h => h) (Or.inl ⟨by rfl, ?_⟩) (by assumption) ?_; rotate_left; (focus (intro w hSw; (obtain ⟨q0, q1⟩ := hSw); (first | (go_simp; done) | (go_simp; with_reducible rfl)))); (try simp only [Act.put, List.setIfInBounds_toArray, List.set_cons_zero, List.set_cons_succ])
  refine wpAnyF_take (i := 4) (v := ?_) rfl (by kernel_rfl) (by kernel_rfl) (by kernel_rfl) (by kernel_rfl) (fun _ _ _ h => h) (Or.inl ⟨by rfl, ?_⟩) (by assumption) ?_; rotate_left; (focus (intro w hSw; (obtain ⟨q0, q1⟩ := hSw); (first | (go_simp; done) | (go_simp; with_reducible rfl)))); (try simp only [Act.put, List.setIfInBounds_toArray, List.set_cons_zero, List.set_cons_succ])
  refine wpAnyF_take (i := 5) (v := ?_) rfl (by kernel_rfl) (by kernel_rfl) (by kernel_rfl) (by kernel_rfl) (fun _ _ _ h => h) (Or.inl ⟨by rfl, ?_⟩) (by assumption) ?_; rotate_left; (focus (intro w hSw; (obtain ⟨q0, q1⟩ := hSw); (first | (go_simp; done) | (go_simp; with_reducible rfl)))); (try simp only [Act.put, List.setIfInBounds_toArray, List.set_cons_zero, List.set_cons_succ])
  refine wpAnyF_take (i := 6) (v := ?_) rfl (by kernel_rfl) (by kernel_rfl) (by kernel_rfl) (by kernel_rfl) (fun _ _ _ h => h) (Or.inl ⟨by rfl, ?_⟩) (by assumption) ?_; rotate_left; (focus (intro w hSw; (obtain ⟨q0, q1⟩ := hSw); (first | (go_simp; done) | (go_simp; with_reducible rfl)))); (try simp only [Act.put, List.setIfInBounds_toArray, List.set_cons_zero, List.set_cons_succ])
  refine wpAnyF_take (i := 7) (v := ?_) rfl (by kernel_rfl) (by kernel_rfl) (by kernel_rfl) (by kernel_rfl) (fun _ _ _ h => h) (Or.inl ⟨by rfl, ?_⟩) (by assumption) ?_; rotate_left; (focus (intro w hSw; (obtain ⟨q0, q1⟩ := hSw); (first | (go_simp; done) | (go_simp; with_reducible rfl)))); (try simp only [Act.put, List.setIfInBounds_toArray, List.set_cons_zero, List.set_cons_succ])
  refine wpAnyF_take (i := 8) (v := ?_) rfl (by kernel_rfl) (by kernel_rfl) (by kernel_rfl) (by kernel_rfl) (fun _ _ _ h => h) (Or.inl ⟨by rfl, ?_⟩) (by assumption) ?_; rotate_left; (focus (intro w hSw; (obtain ⟨q0, q1⟩ := hSw); (first | (go_simp; done) | (go_simp; with_reducible rfl)))); (try simp only [Act.put, List.setIfInBounds_toArray, List.set_cons_zero, List.set_cons_succ])
  refine wpAnyF_take (i := 9) (v := ?_) rfl (by kernel_rfl) (by kernel_rfl) (by kernel_rfl) (by kernel_rfl) (fun _ _ _ h => h) (Or.inl ⟨by rfl, ?_⟩) (by assumption) ?_; rotate_left; (focus (intro w hSw; (obtain ⟨q0, q1⟩ := hSw); (first | (go_simp; done) | (go_simp; with_reducible rfl)))); (try simp only [Act.put, List.setIfInBounds_toArray, List.set_cons_zero, List.set_cons_succ])
  refine wpAnyF_take (i := 10) (v := ?_) rfl (by kernel_rfl) (by kernel_rfl) (by kernel_rfl) (by kernel_rfl) (fun _ _ _ h => h) (Or.inl ⟨by rfl, ?_⟩) (by assumption) ?_; rotate_left; (focus (intro w hSw; (obtain ⟨q0, q1⟩ := hSw); (first | (go_simp; done) | (go_simp; with_reducible rfl)))); (try simp only [Act.put, List.setIfInBounds_toArray, List.set_cons_zero, List.set_cons_succ])
  refine wpAnyF_take (i := 11) (v := .agg (rc f).toArray) rfl (by kernel_rfl) (by kernel_rfl) (by kernel_rfl) (by kernel_rfl) (fun _ _ _ h => h) (yieldsIf_load_mid ?_ 115 _ rfl g (m * 24) rfl (rc f) _ ?_ Try.underlying115 rfl (by rw [sizeR, rc_len])) (by assumption) ?_; (focus (rfl)); (focus (exact fun w h => h.2)); (try simp only [Act.put, List.setIfInBounds_toArray, List.set_cons_zero, List.set_cons_succ]); rw [HEA.out]
  refine wpAnyF_ready (rs := [12]) (by kernel_rfl) (by simp) ?_
  refine AllF.cons rfl (fun K hK => ?_) AllF.nil
  go_simp
  have l1 : ∀ o, Below w.heap.size w (w.drew.alloc o) := fun o => by repeat (first | (with_reducible exact Below.refl _ _) | (with_reducible apply Below.drew) | (with_reducible refine below_drewN ?_ _) | (with_reducible refine below_alloc' ?_ ?_ _; (focus ((try simp) <;> omega))) | (with_reducible refine below_set' ?_ ?_ _; (focus ((try simp) <;> omega))))
  refine hK.out _ _ (fun _ => KW.out _ (l1 _)) ?_; clear hK K; (try simp only [Act.put, List.setIfInBounds_toArray, List.set_cons_zero, List.set_cons_succ])
  refine wpAnyF_ready (rs := [13]) (by kernel_rfl) (by simp) ?_
  refine AllF.cons rfl (fun K hK => ?_) AllF.nil
  rw [if_pos (by rfl)]
  refine wp_store_row 115 _ _ rfl w.drew.heap.size A rfl rfl 115 _ (heap_alloc_last _ _) (by rw [sizeR, HAL.out]) (by simp [HAL.out]) HA1.out ?_
  rw [show ∀ cs, (w.alloc (.cells cs 115)).drew.setRow w.drew.heap.size A = w.drew.alloc (.cells A 115) from fun cs => congrArg World.drew (World.setRow_alloc_new w cs A _)]
  refine hK.out _ _ (fun h => absurd rfl h) ?_; clear hK K; (try simp only [Act.put, List.setIfInBounds_toArray, List.set_cons_zero, List.set_cons_succ]); refine wpAnyF_done (by kernel_rfl) ?_ _
  have l2 := l1 (.cells A 115)
  have HT := Lib.hid (blk_new w.drew (.cells A 115))
  have c0 : (w.drew.alloc (.cells A 115)).cell? ⟨w.heap.size, t, none⟩ = _ := blk_cell HT.out t
  rw [← Array.getElem?_toList, HA.out, rc_has f t ht] at c0
  have c1 : (w.drew.alloc (.cells A 115)).cell? ⟨w.heap.size, 12 + t, none⟩ = _ := blk_cell HT.out (12 + t)
  rw [← Array.getElem?_toList, HA.out, rc_val f t ht] at c1
  have hfz : ∀ i, (w.drew.alloc (.cells A 115)).frozen? ⟨w.heap.size, i, none⟩ = false := fun i => blk_free HT.out i
  have HLN := Lib.hid (rlen_any (w.drew.alloc (.cells A 115)) b (ys ++ [f]) (HLOG.out.below l2))
  obtain ⟨L, hL⟩ : ∃ L, cntG (ys ++ [f]) = L := ⟨_, rfl⟩
  rw [hL] at HLN hn0
  have ht12 : (t : Int) < 12 := by omega
  have HL2 := Lib.hid l2
  have HT2 : Hid ((w.drew.alloc (.cells A 115)).heap[w.heap.size]? = some (.cells A 115 (0, 0))) := Lib.hid HT.out
  have HROW := Lib.hid (show RLogAt (w.drew.alloc (.cells A 115)) b (ys ++ [f]) from HLOG.out.below l2)
  have HFIN := Lib.hid (show ∀ w3 : World, w3 = ((w.drew.alloc (.cells A 115)).setCell ⟨w.heap.size, t, none⟩ (.bool true)).setCell ⟨w.heap.size, 12 + t, none⟩ (.int .u64 v) → (Below w.heap.size w w3 ∧ RLogAt w3 b (ys ++ [f]) ∧ ∃ A2 : Array Value, A2.toList = rc (putF f t v) ∧ w3.heap[w.heap.size]? = some (.cells A2 115 (0, 0))) from by
    rintro w3 rfl
    have hB : Below w.heap.size w (((w.drew.alloc (.cells A 115)).setCell ⟨w.heap.size, t, none⟩ (.bool true)).setCell ⟨w.heap.size, 12 + t, none⟩ (.int .u64 v)) := below_set' (p := ⟨w.heap.size, 12 + t, none⟩) (Nat.le_refl _) (below_set' (p := ⟨w.heap.size, t, none⟩) (Nat.le_refl _) HL2.out _) _
    refine ⟨hB, HLOG.out.below hB, _, ?_, blk_set (blk_set HT2.out t _) (12 + t) _⟩
    simp only [Array.toList_setIfInBounds, HA.out]
    exact rc_put f t v ht)
  clear l2 l1 hL hS0 HT HT2 HL2
  generalize w.drew.alloc (.cells A 115) = w2 at *
  cases hg : getF f t with
  | none =>
    rw [hg] at c0 c1
    simp only [Option.isSome_none, Option.getD_none] at c0 c1
    have hd3 : decide ((16 : Int) ≤ L) = false := by have hL16 : ¬ 16 ≤ L := fun h => hn0 ⟨hg, h⟩; simp; omega
    clear hn0 hg
    go_wp2_with fail
    refine (HLN.out).mono ?_
    rintro e w3 ⟨rfl, hw3⟩
    subst hw3
    go_upto_region 11 with (fail)
    obtain ⟨hB3, hR3, A2, hA2, hT3⟩ := HFIN.out _ rfl; generalize World.setCell (World.setCell w2 ⟨w.heap.size, t, none⟩ (.bool true)) ⟨w.heap.size, 12 + t, none⟩ (.int .u64 v) = w3 at *; have hT3d : w3.drew.heap[w.heap.size]? = _ := hT3; have hR3d : RLogAt w3.drew b (ys ++ [f]) := hR3; have b3 := bkeep hB3 b0; have hset := rset_any w3.drew b _ hR3d m (by (rw [HN.out]; omega)) (putF f t v) A2 hA2; rw [show (ys ++ [f]).set m (putF f t v) = ys ++ [putF f t v] from by (rw [← HM.out]; simp)] at hset; have HSET := Lib.hid hset; have HB3 := Lib.hid hB3; have hsz2 : (Try.prog.info? 115).map (·.size) = some A2.size := (by have h24 := congrArg List.length hA2; rw [rc_len] at h24; rw [sizeR, ← h24, Array.length_toList]); have HSZ2 := Lib.hid hsz2; have HRG3 := Lib.hid (range_blk hT3d hA2); have HEA2 := Lib.hid (show (rc (putF f t v)).toArray = A2 by rw [← hA2]); clear hset hB3 hR3 hR3d hA2 hT3 hT3d hsz2 HFIN; refine wp_region_tail 8 (by kernel_rfl) (by kernel_rfl) ?_; simp only [List.take_succ_cons, List.take_zero, List.drop_succ_cons, List.drop_zero]; with_reducible refine wpStill_step (fun KK hKK => ?_); go_simp; refine hKK _ ?_; clear hKK KK; with_reducible refine wpStill_step (fun KK hKK => ?_); go_simp; refine hKK _ ?_; clear hKK KK; with_reducible refine wpStill_step (fun KK hKK => ?_); go_simp; refine hKK _ ?_; clear hKK KK; with_reducible refine wpStill_step (fun KK hKK => ?_); go_simp; refine hKK _ ?_; clear hKK KK; with_reducible refine wpStill_step (fun KK hKK => ?_); go_simp; refine hKK _ ?_; clear hKK KK; with_reducible refine wpStill_step (fun KK hKK => ?_); go_simp; refine hKK _ ?_; clear hKK KK; with_reducible refine wpStill_step (fun KK hKK => ?_); go_simp; refine hKK _ ?_; clear hKK KK; refine still_load_mid rfl 115 _ rfl w.heap.size 0 rfl (rc (putF f t v)) _ HRG3.out Try.underlying115 rfl (by rw [sizeR, rc_len]) ?_; rw [HEA2.out]; (try simp only [Act.put, List.setIfInBounds_toArray, List.set_cons_zero, List.set_cons_succ]); with_reducible refine wpStill_nil ?_; go_wp2_with fail; refine (HSET.out).mono ?_; rintro e w4 ⟨rfl, o4, h4⟩; have H4 := Lib.hid h4; have O4 := Lib.hid ((Only.of_below (S := fun k => k = b) HB3.out (fun k hk h => (by omega))).drew.trans o4); clear h4 o4; go_wp2_with fail; go_ret; exact ⟨rfl, O4.out, H4.out⟩
  | some u =>
    rw [hg] at c0 c1
    simp only [Option.isSome_some, Option.getD_some] at c0 c1
    clear hn0 hg
    go_upto_region 11 with (fail)
    obtain ⟨hB3, hR3, A2, hA2, hT3⟩ := HFIN.out _ rfl; generalize World.setCell (World.setCell w2 ⟨w.heap.size, t, none⟩ (.bool true)) ⟨w.heap.size, 12 + t, none⟩ (.int .u64 v) = w3 at *; have hT3d : w3.drew.heap[w.heap.size]? = _ := hT3; have hR3d : RLogAt w3.drew b (ys ++ [f]) := hR3; have b3 := bkeep hB3 b0; have hset := rset_any w3.drew b _ hR3d m (by (rw [HN.out]; omega)) (putF f t v) A2 hA2; rw [show (ys ++ [f]).set m (putF f t v) = ys ++ [putF f t v] from by (rw [← HM.out]; simp)] at hset; have HSET := Lib.hid hset; have HB3 := Lib.hid hB3; have hsz2 : (Try.prog.info? 115).map (·.size) = some A2.size := (by have h24 := congrArg List.length hA2; rw [rc_len] at h24; rw [sizeR, ← h24, Array.length_toList]); have HSZ2 := Lib.hid hsz2; have HRG3 := Lib.hid (range_blk hT3d hA2); have HEA2 := Lib.hid (show (rc (putF f t v)).toArray = A2 by rw [← hA2]); clear hset hB3 hR3 hR3d hA2 hT3 hT3d hsz2 HFIN; refine wp_region_tail 8 (by kernel_rfl) (by kernel_rfl) ?_; simp only [List.take_succ_cons, List.take_zero, List.drop_succ_cons, List.drop_zero]; with_reducible refine wpStill_step (fun KK hKK => ?_); go_simp; refine hKK _ ?_; clear hKK KK; with_reducible refine wpStill_step (fun KK hKK => ?_); go_simp; refine hKK _ ?_; clear hKK KK; with_reducible refine wpStill_step (fun KK hKK => ?_); go_simp; refine hKK _ ?_; clear hKK KK; with_reducible refine wpStill_step (fun KK hKK => ?_); go_simp; refine hKK _ ?_; clear hKK KK; with_reducible refine wpStill_step (fun KK hKK => ?_); go_simp; refine hKK _ ?_; clear hKK KK; with_reducible refine wpStill_step (fun KK hKK => ?_); go_simp; refine hKK _ ?_; clear hKK KK; with_reducible refine wpStill_step (fun KK hKK => ?_); go_simp; refine hKK _ ?_; clear hKK KK; refine still_load_mid rfl 115 _ rfl w.heap.size 0 rfl (rc (putF f t v)) _ HRG3.out Try.underlying115 rfl (by rw [sizeR, rc_len]) ?_; rw [HEA2.out]; (try simp only [Act.put, List.setIfInBounds_toArray, List.set_cons_zero, List.set_cons_succ]); with_reducible refine wpStill_nil ?_; go_wp2_with fail; refine (HSET.out).mono ?_; rintro e w4 ⟨rfl, o4, h4⟩; have H4 := Lib.hid h4; have O4 := Lib.hid ((Only.of_below (S := fun k => k = b) HB3.out (fun k hk h => (by omega))).drew.trans o4); clear h4 o4; go_wp2_with fail; go_ret; exact ⟨rfl, O4.out, H4.out⟩
/-- Put of the other side -/
theorem rput_any (w : World) (b : Nat) (ys : List Frm) (f : Frm) (h : RLogAt w b (ys ++ [f])) (t v : Int) (hv : 0 ≤ v ∧ v < 18446744073709551616) :
    Calls Try.prog 71 #[ptr b, .int .i64 t, .int .u64 v] w fun e w' => e = .returned (.int .i64 (putG (ys ++ [f]) f t v)) ∧ Only (fun k => k = b) w w' ∧ (putG (ys ++ [f]) f t v ≠ 0 → RLogAt w' b (ys ++ [f])) ∧ (putG (ys ++ [f]) f t v = 0 → RLogAt w' b (ys ++ [putF f t v])) := by
  have hblt := h.lt
  by_cases ht : okT t
  · cases hr : rightVal v
    · have hE : putG (ys ++ [f]) f t v = 3 := by unfold putG; rw [if_neg (by simpa using ht), if_pos hr]
      refine (rput_form w b t v ht hv hr).mono ?_
      rintro e w' ⟨rfl, rfl⟩
      exact ⟨by rw [hE], Only.refl _ _, fun _ => h, fun h0 => by rw [hE] at h0; cases h0⟩
    · have hE : putG (ys ++ [f]) f t v = if getF f t = none ∧ 16 ≤ cntG (ys ++ [f]) then 4 else 0 := by unfold putG; rw [if_neg (by simpa using ht), if_neg (by rw [hr]; decide)]
      obtain ⟨k, rfl⟩ : ∃ k : Nat, t = k := ⟨t.toNat, by unfold okT at ht; omega⟩
      have hk : k < 12 := by unfold okT at ht; omega
      by_cases hs : getF f k = none ∧ 16 ≤ cntG (ys ++ [f])
      · rw [if_pos hs] at hE
        refine (rput_space w b ys f h k v hk hv hr hs.1 hs.2).mono ?_
        rintro e w' ⟨rfl, hl⟩
        exact ⟨by rw [hE], Only.of_below hl (fun k hk h => by omega), fun _ => h.below hl, fun h0 => by rw [hE] at h0; cases h0⟩
      · rw [if_neg hs] at hE
        refine (rput_done w b ys f h k v hk hv hr hs).mono ?_
        rintro e w' ⟨rfl, ho, hL⟩
        exact ⟨by rw [hE], ho, fun h0 => absurd hE h0, fun _ => hL⟩
  · have hE : putG (ys ++ [f]) f t v = 2 := by unfold putG; rw [if_pos ht]
    refine (rput_range w b t v ht).mono ?_
    rintro e w' ⟨rfl, rfl⟩
    exact ⟨by rw [hE], Only.refl _ _, fun _ => h, fun h0 => by rw [hE] at h0; cases h0⟩
end Go.Proofs.Ytfpiecnbnoinnaa.Wri
