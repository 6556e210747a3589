/- Texts of this seat, one behind the other: WriU, WriV, WriX, WriY, HisM, HisA. -/
import Derived.Test.YtganmdbhmihjpaaGreatMgb
import Derived.Deep.WholeRow
import Derived.Deep.CutBlock
import Derived.Test.YtganmdbhmihjpaaGreatChecked
/- The other side: Put. -/
namespace Go.Proofs.YtganmdbhmihjpaaGreat.Wri
open Go.RowKit
set_option linter.unusedSimpArgs false
set_option linter.unusedVariables false
set_option maxRecDepth 50000

theorem rput_range (w : World) (b : Nat) (t v : Int) (h : ¬ okT t) : Calls Tryz.prog 96 #[ptr b, .int .i64 t, .int .u64 v] w fun e w' => e = .returned (.int .i64 2) ∧ w = w' := by
  by_cases h0 : t < 0
  · have hd : decide (t < 0) = true := by simpa using h0
    go_enter Tryz.func96, Tryz.ntmps96
    go_wp2
    go_ret
    exact ⟨rfl, rfl⟩
  · have hd : decide (t < 0) = false := by simpa using h0
    have hd2 : decide (12 ≤ t) = true := by simp; unfold okT at h; omega
    go_enter Tryz.func96, Tryz.ntmps96
    go_wp2
    go_ret
    exact ⟨rfl, rfl⟩
theorem rput_form (w : World) (b : Nat) (t v : Int) (h : okT t) (hv : 0 ≤ v ∧ v < 18446744073709551616) (hr : rightVal v = false) : Calls Tryz.prog 96 #[ptr b, .int .i64 t, .int .u64 v] w fun e w' => e = .returned (.int .i64 3) ∧ w = w' := by
  have hd : decide (t < 0) = false := by simp; exact h.1
  have hd2 : decide (12 ≤ t) = false := by simp; exact h.2
  have hR := rRight_any w v hv
  rw [hr] at hR
  have HR := Lib.hid hR
  clear hR hr
  go_enter Tryz.func96, Tryz.ntmps96
  go_wp2_with fail; refine (HR.out).mono ?_; rintro e w0 ⟨rfl, rfl⟩
  go_wp2_with fail
  go_ret
  exact ⟨rfl, rfl⟩
theorem still_load_mid {P : Program} {ops : Array Oper} {op : Oper} {rest : List Oper} {a : Act} {w : World} {Q : Act → Prop} (hg : op.guard = none) (ty : TypeId) (x : Operand) (ho : op.op = .load ty x)
    (b o : Nat) (hx : a.eval x = .pointer (some ⟨b, o, none⟩)) (cs : List Value) (d : TypeDesc) (hc : w.rangeAt b o cs)
    (hu : P.underlying ty = some d) (hd : d.isRow = true) (hi : (P.info? ty).map (·.size) = some cs.length) (h : wpStill P ops w Q rest (a.put op.dst (.agg cs.toArray))) : wpStill P ops w Q (op :: rest) a :=
  wpStill_step fun K hK => by
    rw [if_pos (show Region.wanted op _ = true by simp [Region.wanted, hg])]
    unfold Oper.still execOp
    simp only [ho, hx, Instr.loadAt, Instr.sureAddr, Sem.run_bind, Sem.run_pure, Result.andThen_ok, run_loadVar_mid w b o ty cs d hc hu hd hi]
    rw [Oper.stillUpon_value]
    exact hK _ h
theorem range_blk {w : World} {b : Nat} {cs : List Value} {A : Array Value} {t : TypeId} {fr : Nat × Nat} (h : w.heap[b]? = some (.cells A t fr)) (hA : A.toList = cs) : w.rangeAt b 0 cs := by
  intro j v hv
  rw [Nat.zero_add, blk_cell h j, ← hv, ← hA]
  simp
theorem range_row {w : World} {base g cap n : Nat} {gs : List Frm} {i : Nat} {f : Frm} (h : w.ownsRow base 136 24 (.slice (some ⟨g, 0, none⟩) n cap) n (rowV gs)) (hf : gs[i]? = some f) : w.rangeAt g (i * 24) (rc f) := by
  intro j v hv
  have hj : j < 24 := by have := (List.getElem?_eq_some_iff.1 hv).1; rwa [rc_len] at this
  have r := rowV_get gs i j hj
  rw [hf, Option.bind_some, hv] at r
  have := h.cells (g := g) rfl _ _ r
  rwa [Addr.add_lit, Nat.zero_add] at this
def putG (gs : List Frm) (f : Frm) (t v : Int) : Int := if ¬ okT t then 2 else if rightVal v = false then 3 else if getF f t = none ∧ 16 ≤ cntG gs then 4 else 0
set_option maxHeartbeats 1600000 in
theorem rput_space (w : World) (b : Nat) (ys : List Frm) (f : Frm) (h : RLogAt w b (ys ++ [f])) (t : Nat) (v : Int) (ht : t < 12) (hv : 0 ≤ v ∧ v < 18446744073709551616) (hr : rightVal v = true) (hn0 : getF f t = none) (hl : 16 ≤ cntG (ys ++ [f])) :
    Calls Tryz.prog 96 #[ptr b, .int .i64 t, .int .u64 v] w fun e w' => e = .returned (.int .i64 4) ∧ Below w.heap.size w w' := by
  have hd : decide ((t : Int) < 0) = false := by (try simp) <;> omega
  have hd2 : decide ((12 : Int) ≤ t) = false := by simp; omega
  have hR := rRight_any w v hv
  rw [hr] at hR
  have HR := Lib.hid hR
  have HLOG := Lib.hid h
  obtain ⟨g, cap, hb, hS, hx1, hx5⟩ := h; have hblt := blk_lt hb; obtain ⟨n, hn⟩ : ∃ n, (ys ++ [f]).length = n := ⟨_, rfl⟩; have HN := Lib.hid hn; rw [hn] at hb hS hx1 hx5; have b0 := blk_cell hb 0; simp only [List.getElem?_toArray, List.getElem?_cons_zero, List.getElem?_cons_succ] at b0; have hn1 : n = ys.length + 1 := (by simpa using hn.symm); have hfm : (ys ++ [f])[ys.length]? = some f := by simp
  obtain ⟨m, hm⟩ : ∃ m, ys.length = m := ⟨_, rfl⟩; rw [hm] at hfm hn1; have HM := Lib.hid hm; have hrg := range_row hS hfm; obtain ⟨A, hA⟩ : ∃ A, (rc f).toArray = A := ⟨_, rfl⟩; have HA := Lib.hid (show A.toList = rc f by rw [← hA]); have HAL := Lib.hid (show A.size = 24 by (rw [← hA]; simp [rc_len])); have HA1 := Lib.hid (show A.all (·.oneCell') = true from Array.all_eq_true_iff_forall_mem.2 (fun v hv => rc_one f v (by rw [← hA] at hv; simpa using hv))); have HEA := Lib.hid hA; have hw : IntKind.i64.wrap ((n : Int) - 1) = (m : Int) := (by rw [IntKind.wrap_i64] <;> omega); have hmn : (m : Int) < n := (by omega); have HB := Lib.hid hb; have HS := Lib.hid hS; have HRG := Lib.hid hrg; have HN1 := Lib.hid hn1; have HFM := Lib.hid hfm; clear hb hS hn hA hrg hm hfm hn1; have KW := Lib.hid (show ∀ w', Below w.heap.size w w' → (w'.cell? ⟨b, 0, none⟩ = some (.slice (some ⟨g, 0, none⟩) n cap) ∧ w'.rangeAt g (m * 24) (rc f)) from fun w' h => ⟨bkeep h b0, fun j v hv => bkeep h (HRG.out j v hv)⟩)
  clear hR hr
  go_enter Tryz.func96, Tryz.ntmps96
  go_wp2_with fail
  refine (HR.out).mono ?_
  rintro e w0 ⟨rfl, hw0⟩
  subst hw0
  go_wp2_with fail
  refine wp_region_F (fun w' => w'.cell? ⟨b, 0, none⟩ = some (.slice (some ⟨g, 0, none⟩) n cap) ∧ w'.rangeAt g (m * 24) (rc f)) 13 (by kernel_rfl) ?_
  have hS0 := KW.out w.drew (Below.refl _ _).drew
  refine wpAnyF_take (i := 0) (v := ?_) rfl (by kernel_rfl) (by kernel_rfl) (by kernel_rfl) (by kernel_rfl) (fun _ _ _ h => h) (Or.inl ⟨by rfl, ?_⟩) (by assumption) ?_; rotate_left; (focus (intro w hSw; (obtain ⟨q0, q1⟩ := hSw); (first | (go_simp; done) | (go_simp; with_reducible rfl)))); (try simp only [Act.put, List.setIfInBounds_toArray, List.set_cons_zero, List.set_cons_succ])
  refine wpAnyF_take (i := 1) (v := ?_) rfl (by kernel_rfl) (by kernel_rfl) (by kernel_rfl) (by kernel_rfl) (fun _ _ _ h => h) (Or.inl ⟨by rfl, ?_⟩) (by assumption) ?_; rotate_left; (focus (intro w hSw; (obtain ⟨q0, q1⟩ := hSw); (first | (go_simp; done) | (go_simp; with_reducible rfl)))); (try simp only [Act.put, List.setIfInBounds_toArray, List.set_cons_zero, List.set_cons_succ])
  refine wpAnyF_take (i := 2) (v := ?_) rfl (by kernel_rfl) (by kernel_rfl) (by kernel_rfl) (by kernel_rfl) (fun _ _ _ h => h) (Or.inl ⟨by rfl, ?_⟩) (by assumption) ?_; rotate_left; (focus (intro w hSw; (obtain ⟨q0, q1⟩ := hSw); (first | (go_simp; done) | (go_simp; with_reducible rfl)))); (try simp only [Act.put, List.setIfInBounds_toArray, List.set_cons_zero, List.set_cons_succ])
  refine wpAnyF_take (i := 3) (v := ?_) rfl (by kernel_rfl) (by kernel_rfl) (by kernel_rfl) (by kernel_rfl) (fun _ _ _ h => h) (Or.inl ⟨by rfl, ?_⟩) (by assumption) ?_; rotate_left; (focus (intro w hSw; (obtain ⟨q0, q1⟩ := hSw); (first | (go_simp; done) | (go_simp; with_reducible rfl)))); (try simp only [Act.put, List.setIfInBounds_toArray, List.set_cons_zero, List.set_cons_succ])
  refine wpAnyF_take (i := 4) (v := ?_) rfl (by kernel_rfl) (by kernel_rfl) (by kernel_rfl) (by kernel_rfl) (fun _ _ _ h => h) (Or.inl ⟨by rfl, ?_⟩) (by assumption) ?_; rotate_left; (focus (intro w hSw; (obtain ⟨q0, q1⟩ := hSw); (first | (go_simp; done) | (go_simp; with_reducible rfl)))); (try simp only [Act.put, List.setIfInBounds_toArray, List.set_cons_zero, List.set_cons_succ])
  refine wpAnyF_take (i := 5) (v := ?_) rfl (by kernel_rfl) (by kernel_rfl) (by kernel_rfl) (by kernel_rfl) (fun _ _ _ h => h) (Or.inl ⟨by rfl, ?_⟩) (by assumption) ?_; rotate_left; (focus (intro w hSw; (obtain ⟨q0, q1⟩ := hSw); (first | (go_simp; done) | (go_simp; with_reducible rfl)))); (try simp only [Act.put, List.setIfInBounds_toArray, List.set_cons_zero, List.set_cons_succ])
  refine wpAnyF_take (i := 6) (v := ?_) rfl (by kernel_rfl) (by kernel_rfl) (by kernel_rfl) (by kernel_rfl) (fun _ _ _ h => h) (Or.inl ⟨by rfl, ?_⟩) (by assumption) ?_; rotate_left; (focus (intro w hSw; (obtain ⟨q0, q1⟩ := hSw); (first | (go_simp; done) | (go_simp; with_reducible rfl)))); (try simp only [Act.put, List.setIfInBounds_toArray, List.set_cons_zero, List.set_cons_succ])
  refine wpAnyF_take (i := 7) (v := ?_) rfl (by kernel_rfl) (by kernel_rfl) (by kernel_rfl) (by kernel_rfl) (fun _ _ _ h => h) (Or.inl ⟨by rfl, ?_⟩) (by assumption) ?_; rotate_left; (focus (intro w hSw; (obtain ⟨q0, q1⟩ := hSw); (first | (go_simp; done) | (go_simp; with_reducible rfl)))); (try simp only [Act.put, List.setIfInBounds_toArray, List.set_cons_zero, List.set_cons_succ])
  refine wpAnyF_take (i := 8) (v := ?_) rfl (by kernel_rfl) (by kernel_rfl) (by kernel_rfl) (by kernel_rfl) (fun _ _ _ h => h) (Or.inl ⟨by rfl, ?_⟩) (by assumption) ?_; rotate_left; (focus (intro w hSw; (obtain ⟨q0, q1⟩ := hSw); (first | (go_simp; done) | (go_simp; with_reducible rfl)))); (try simp only [Act.put, List.setIfInBounds_toArray, List.set_cons_zero, List.set_cons_succ])
  refine wpAnyF_take (i := 9) (v := ?_) rfl (by kernel_rfl) (by kernel_rfl) (by kernel_rfl) (by kernel_rfl) (fun _ _ _ h => h) (Or.inl ⟨by rfl, ?_⟩) (by assumption) ?_; rotate_left; (focus (intro w hSw; (obtain ⟨q0, q1⟩ := hSw); (first | (go_simp; done) | (go_simp; with_reducible rfl)))); (try simp only [Act.put, List.setIfInBounds_toArray, List.set_cons_zero, List.set_cons_succ])
  refine wpAnyF_take (i := 10) (v := ?_) rfl (by kernel_rfl) (by kernel_rfl) (by kernel_rfl) (by kernel_rfl) (fun _ _ _ h => h) (Or.inl ⟨by rfl, ?_⟩) (by assumption) ?_; rotate_left; (focus (intro w hSw; (obtain ⟨q0, q1⟩ := hSw); (first | (go_simp; done) | (go_simp; with_reducible rfl)))); (try simp only [Act.put, List.setIfInBounds_toArray, List.set_cons_zero, List.set_cons_succ])
  refine wpAnyF_take (i := 11) (v := .agg (rc f).toArray) rfl (by kernel_rfl) (by kernel_rfl) (by kernel_rfl) (by kernel_rfl) (fun _ _ _ h => h) (yieldsIf_load_mid ?_ 136 _ rfl g (m * 24) rfl (rc f) _ ?_ Tryz.underlying136 rfl (by rw [sizeR, rc_len])) (by assumption) ?_; (focus (rfl)); (focus (exact fun w h => h.2)); (try simp only [Act.put, List.setIfInBounds_toArray, List.set_cons_zero, List.set_cons_succ]); rw [HEA.out]
  refine wpAnyF_ready (rs := [12]) (by kernel_rfl) (by simp) ?_
  refine AllF.cons rfl (fun K hK => ?_) AllF.nil
  go_simp
  have l1 : ∀ o, Below w.heap.size w (w.drew.alloc o) := fun o => by repeat (first | (with_reducible exact Below.refl _ _) | (with_reducible apply Below.drew) | (with_reducible refine below_drewN ?_ _) | (with_reducible refine below_alloc' ?_ ?_ _; (focus ((try simp) <;> omega))) | (with_reducible refine below_set' ?_ ?_ _; (focus ((try simp) <;> omega))))
  refine hK.out _ _ (fun _ => KW.out _ (l1 _)) ?_; clear hK K; (try simp only [Act.put, List.setIfInBounds_toArray, List.set_cons_zero, List.set_cons_succ])
  refine wpAnyF_ready (rs := [13]) (by kernel_rfl) (by simp) ?_
  refine AllF.cons rfl (fun K hK => ?_) AllF.nil
  rw [if_pos (by rfl)]
  refine wp_store_row 136 _ _ rfl w.drew.heap.size A rfl rfl 136 _ (heap_alloc_last _ _) (by rw [sizeR, HAL.out]) (by simp [HAL.out]) HA1.out ?_
  rw [show ∀ cs, (w.alloc (.cells cs 136)).drew.setRow w.drew.heap.size A = w.drew.alloc (.cells A 136) from fun cs => congrArg World.drew (World.setRow_alloc_new w cs A _)]
  refine hK.out _ _ (fun h => absurd rfl h) ?_; clear hK K; (try simp only [Act.put, List.setIfInBounds_toArray, List.set_cons_zero, List.set_cons_succ]); refine wpAnyF_done (by kernel_rfl) ?_ _
  have l2 := l1 (.cells A 136)
  have HT := Lib.hid (blk_new w.drew (.cells A 136))
  have c0 : (w.drew.alloc (.cells A 136)).cell? ⟨w.heap.size, t, none⟩ = _ := blk_cell HT.out t
  rw [← Array.getElem?_toList, HA.out, rc_has f t ht, hn0] at c0
  simp only [Option.isSome_none] at c0
  have LN := rlen_any (w.drew.alloc (.cells A 136)) b (ys ++ [f]) (HLOG.out.below l2)
  have HLN := Lib.hid LN
  obtain ⟨L, hL⟩ : ∃ L, cntG (ys ++ [f]) = L := ⟨_, rfl⟩
  rw [hL] at HLN hl
  have hd3 : decide ((16 : Int) ≤ L) = true := by simp; omega
  have ht12 : (t : Int) < 12 := by omega
  have HL2 := Lib.hid l2
  clear LN l2 l1 hL hl hS0
  generalize w.drew.alloc (.cells A 136) = w2 at *
  go_wp2_with fail
  refine (HLN.out).mono ?_
  rintro e w3 ⟨rfl, hw3⟩
  subst hw3
  go_wp2_with fail
  go_ret
  exact ⟨rfl, HL2.out⟩
set_option maxHeartbeats 3200000 in
theorem rput_done (w : World) (b : Nat) (ys : List Frm) (f : Frm) (h : RLogAt w b (ys ++ [f])) (t : Nat) (v : Int) (ht : t < 12) (hv : 0 ≤ v ∧ v < 18446744073709551616) (hr : rightVal v = true) (hn0 : ¬ (getF f t = none ∧ 16 ≤ cntG (ys ++ [f]))) :
    Calls Tryz.prog 96 #[ptr b, .int .i64 t, .int .u64 v] w fun e w' => e = .returned (.int .i64 0) ∧ Only (fun k => k = b) w w' ∧ RLogAt w' b (ys ++ [putF f t v]) := by
  have hd : decide ((t : Int) < 0) = false := by (try simp) <;> omega
  have hd2 : decide ((12 : Int) ≤ t) = false := by simp; omega
  have hR := rRight_any w v hv
  rw [hr] at hR
  have HR := Lib.hid hR
  have HLOG := Lib.hid h
  obtain ⟨g, cap, hb, hS, hx1, hx5⟩ := h; have hblt := blk_lt hb; obtain ⟨n, hn⟩ : ∃ n, (ys ++ [f]).length = n := ⟨_, rfl⟩; have HN := Lib.hid hn; rw [hn] at hb hS hx1 hx5; have b0 := blk_cell hb 0; simp only [List.getElem?_toArray, List.getElem?_cons_zero, List.getElem?_cons_succ] at b0; have hn1 : n = ys.length + 1 := (by simpa using hn.symm); have hfm : (ys ++ [f])[ys.length]? = some f := by simp
  obtain ⟨m, hm⟩ : ∃ m, ys.length = m := ⟨_, rfl⟩; rw [hm] at hfm hn1; have HM := Lib.hid hm; have hrg := range_row hS hfm; obtain ⟨A, hA⟩ : ∃ A, (rc f).toArray = A := ⟨_, rfl⟩; have HA := Lib.hid (show A.toList = rc f by rw [← hA]); have HAL := Lib.hid (show A.size = 24 by (rw [← hA]; simp [rc_len])); have HA1 := Lib.hid (show A.all (·.oneCell') = true from Array.all_eq_true_iff_forall_mem.2 (fun v hv => rc_one f v (by rw [← hA] at hv; simpa using hv))); have HEA := Lib.hid hA; have hw : IntKind.i64.wrap ((n : Int) - 1) = (m : Int) := (by rw [IntKind.wrap_i64] <;> omega); have hmn : (m : Int) < n := (by omega); have HB := Lib.hid hb; have HS := Lib.hid hS; have HRG := Lib.hid hrg; have HN1 := Lib.hid hn1; have HFM := Lib.hid hfm; clear hb hS hn hA hrg hm hfm hn1; have KW := Lib.hid (show ∀ w', Below w.heap.size w w' → (w'.cell? ⟨b, 0, none⟩ = some (.slice (some ⟨g, 0, none⟩) n cap) ∧ w'.rangeAt g (m * 24) (rc f)) from fun w' h => ⟨bkeep h b0, fun j v hv => bkeep h (HRG.out j v hv)⟩)
  clear hR hr
  go_enter Tryz.func96, Tryz.ntmps96
  go_wp2_with fail
  refine (HR.out).mono ?_
  rintro e w0 ⟨rfl, hw0⟩
  subst hw0
  go_wp2_with fail
  refine wp_region_F (fun w' => w'.cell? ⟨b, 0, none⟩ = some (.slice (some ⟨g, 0, none⟩) n cap) ∧ w'.rangeAt g (m * 24) (rc f)) 13 (by kernel_rfl) ?_
  have hS0 := KW.out w.drew (Below.refl _ _).drew
  refine wpAnyF_take (i := 0) (v := ?_) rfl (by kernel_rfl) (by kernel_rfl) (by kernel_rfl) (by kernel_rfl) (fun _ _ _ h => h) (Or.inl ⟨by rfl, ?_⟩) (by assumption) ?_; rotate_left; (focus (intro w hSw; (obtain ⟨q0, q1⟩ := hSw); (first | (go_simp; done) | (go_simp; with_reducible rfl)))); (try simp only [Act.put, List.setIfInBounds_toArray, List.set_cons_zero, List.set_cons_succ])
  refine wpAnyF_take (i := 1) (v := ?_) rfl (by kernel_rfl) (by kernel_rfl) (by kernel_rfl) (by kernel_rfl) (fun _ _ _ h => h) (Or.inl ⟨by rfl, ?_⟩) (by assumption) ?_; rotate_left; (focus (intro w hSw; (obtain ⟨q0, q1⟩ := hSw); (first | (go_simp; done) | (go_simp; with_reducible rfl)))); (try simp only [Act.put, List.setIfInBounds_toArray, List.set_cons_zero, List.set_cons_succ])
  refine wpAnyF_take (i := 2) (v := ?_) rfl (by kernel_rfl) (by kernel_rfl) (by kernel_rfl) (by kernel_rfl) (fun _ _ _ h => h) (Or.inl ⟨by rfl, ?_⟩) (by assumption) ?_; rotate_left; (focus (intro w hSw; (obtain ⟨q0, q1⟩ := hSw); (first | (go_simp; done) | (go_simp; with_reducible rfl)))); (try simp only [Act.put, List.setIfInBounds_toArray, List.set_cons_zero, List.set_cons_succ])
  refine wpAnyF_take (i := 3) (v := ?_) rfl (by kernel_rfl) (by kernel_rfl) (by kernel_rfl) (by kernel_rfl) (fun _ _ _ h => h) (Or.inl ⟨by rfl, ?_⟩) (by assumption) ?_; rotate_left; (focus (intro w hSw; (obtain ⟨q0, q1⟩ := hSw); (first | (go_simp; done) | (go_simp; with_reducible rfl)))); (try simp only [Act.put, List.setIfInBounds_toArray, List.set_cons_zero, List.set_cons_succ])
  refine wpAnyF_take (i := 4) (v := ?_) rfl (by kernel_rfl) (by kernel_rfl) (by kernel_rfl) (by kernel_rfl) (fun _ _ _ h => h) (Or.inl ⟨by rfl, ?_⟩) (by assumption) ?_; rotate_left; (focus (intro w hSw; (obtain ⟨q0, q1⟩ := hSw); (first | (go_simp; done) | (go_simp; with_reducible rfl)))); (try simp only [Act.put, List.setIfInBounds_toArray, List.set_cons_zero, List.set_cons_succ])
  refine wpAnyF_take (i := 5) (v := ?_) rfl (by kernel_rfl) (by kernel_rfl) (by kernel_rfl) (by kernel_rfl) (fun _ _ _ h => h) (Or.inl ⟨by rfl, ?_⟩) (by assumption) ?_; rotate_left; (focus (intro w hSw; (obtain ⟨q0, q1⟩ := hSw); (first | (go_simp; done) | (go_simp; with_reducible rfl)))); (try simp only [Act.put, List.setIfInBounds_toArray, List.set_cons_zero, List.set_cons_succ])
  refine wpAnyF_take (i := 6) (v := ?_) rfl (by kernel_rfl) (by kernel_rfl) (by kernel_rfl) (by kernel_rfl) (fun _ _ _ h => h) (Or.inl ⟨by rfl, ?_⟩) (by assumption) ?_; rotate_left; (focus (intro w hSw; (obtain ⟨q0, q1⟩ := hSw); (first | (go_simp; done) | (go_simp; with_reducible rfl)))); (try simp only [Act.put, List.setIfInBounds_toArray, List.set_cons_zero, List.set_cons_succ])
  refine wpAnyF_take (i := 7) (v := ?_) rfl (by kernel_rfl) (by kernel_rfl) (by kernel_rfl) (by kernel_rfl) (fun _ _ _ h => h) (Or.inl ⟨by rfl, ?_⟩) (by assumption) ?_; rotate_left; (focus (intro w hSw; (obtain ⟨q0, q1⟩ := hSw); (first | (go_simp; done) | (go_simp; with_reducible rfl)))); (try simp only [Act.put, List.setIfInBounds_toArray, List.set_cons_zero, List.set_cons_succ])
  refine wpAnyF_take (i := 8) (v := ?_) rfl (by kernel_rfl) (by kernel_rfl) (by kernel_rfl) (by kernel_rfl) (fun _ _ _ h => h) (Or.inl ⟨by rfl, ?_⟩) (by assumption) ?_; rotate_left; (focus (intro w hSw; (obtain ⟨q0, q1⟩ := hSw); (first | (go_simp; done) | (go_simp; with_reducible rfl)))); (try simp only [Act.put, List.setIfInBounds_toArray, List.set_cons_zero, List.set_cons_succ])
  refine wpAnyF_take (i := 9) (v := ?_) rfl (by kernel_rfl) (by kernel_rfl) (by kernel_rfl) (by kernel_rfl) (fun _ _ _ h => h) (Or.inl ⟨by rfl, ?_⟩) (by assumption) ?_; rotate_left; (focus (intro w hSw; (obtain ⟨q0, q1⟩ := hSw); (first | (go_simp; done) | (go_simp; with_reducible rfl)))); (try simp only [Act.put, List.setIfInBounds_toArray, List.set_cons_zero, List.set_cons_succ])
  refine wpAnyF_take (i := 10) (v := ?_) rfl (by kernel_rfl) (by kernel_rfl) (by kernel_rfl) (by kernel_rfl) (fun _ _ _ h => h) (Or.inl ⟨by rfl, ?_⟩) (by assumption) ?_; rotate_left; (focus (intro w hSw; (obtain ⟨q0, q1⟩ := hSw); (first | (go_simp; done) | (go_simp; with_reducible rfl)))); (try simp only [Act.put, List.setIfInBounds_toArray, List.set_cons_zero, List.set_cons_succ])
  refine wpAnyF_take (i := 11) (v := .agg (rc f).toArray) rfl (by kernel_rfl) (by kernel_rfl) (by kernel_rfl) (by kernel_rfl) (fun _ _ _ h => h) (yieldsIf_load_mid ?_ 136 _ rfl g (m * 24) rfl (rc f) _ ?_ Tryz.underlying136 rfl (by rw [sizeR, rc_len])) (by assumption) ?_; (focus (rfl)); (focus (exact fun w h => h.2)); (try simp only [Act.put, List.setIfInBounds_toArray, List.set_cons_zero, List.set_cons_succ]); rw [HEA.out]
  refine wpAnyF_ready (rs := [12]) (by kernel_rfl) (by simp) ?_
  refine AllF.cons rfl (fun K hK => ?_) AllF.nil
  go_simp
  have l1 : ∀ o, Below w.heap.size w (w.drew.alloc o) := fun o => by repeat (first | (with_reducible exact Below.refl _ _) | (with_reducible apply Below.drew) | (with_reducible refine below_drewN ?_ _) | (with_reducible refine below_alloc' ?_ ?_ _; (focus ((try simp) <;> omega))) | (with_reducible refine below_set' ?_ ?_ _; (focus ((try simp) <;> omega))))
  refine hK.out _ _ (fun _ => KW.out _ (l1 _)) ?_; clear hK K; (try simp only [Act.put, List.setIfInBounds_toArray, List.set_cons_zero, List.set_cons_succ])
  refine wpAnyF_ready (rs := [13]) (by kernel_rfl) (by simp) ?_
  refine AllF.cons rfl (fun K hK => ?_) AllF.nil
  rw [if_pos (by rfl)]
  refine wp_store_row 136 _ _ rfl w.drew.heap.size A rfl rfl 136 _ (heap_alloc_last _ _) (by rw [sizeR, HAL.out]) (by simp [HAL.out]) HA1.out ?_
  rw [show ∀ cs, (w.alloc (.cells cs 136)).drew.setRow w.drew.heap.size A = w.drew.alloc (.cells A 136) from fun cs => congrArg World.drew (World.setRow_alloc_new w cs A _)]
  refine hK.out _ _ (fun h => absurd rfl h) ?_; clear hK K; (try simp only [Act.put, List.setIfInBounds_toArray, List.set_cons_zero, List.set_cons_succ]); refine wpAnyF_done (by kernel_rfl) ?_ _
  have l2 := l1 (.cells A 136)
  have HT := Lib.hid (blk_new w.drew (.cells A 136))
  have c0 : (w.drew.alloc (.cells A 136)).cell? ⟨w.heap.size, t, none⟩ = _ := blk_cell HT.out t
  rw [← Array.getElem?_toList, HA.out, rc_has f t ht] at c0
  have c1 : (w.drew.alloc (.cells A 136)).cell? ⟨w.heap.size, 12 + t, none⟩ = _ := blk_cell HT.out (12 + t)
  rw [← Array.getElem?_toList, HA.out, rc_val f t ht] at c1
  have hfz : ∀ i, (w.drew.alloc (.cells A 136)).frozen? ⟨w.heap.size, i, none⟩ = false := fun i => blk_free HT.out i
  have HLN := Lib.hid (rlen_any (w.drew.alloc (.cells A 136)) b (ys ++ [f]) (HLOG.out.below l2))
  obtain ⟨L, hL⟩ : ∃ L, cntG (ys ++ [f]) = L := ⟨_, rfl⟩
  rw [hL] at HLN hn0
  have ht12 : (t : Int) < 12 := by omega
  have HL2 := Lib.hid l2
  have HT2 : Hid ((w.drew.alloc (.cells A 136)).heap[w.heap.size]? = some (.cells A 136 (0, 0))) := Lib.hid HT.out
  have HROW := Lib.hid (show RLogAt (w.drew.alloc (.cells A 136)) b (ys ++ [f]) from HLOG.out.below l2)
  have HFIN := Lib.hid (show ∀ w3 : World, w3 = ((w.drew.alloc (.cells A 136)).setCell ⟨w.heap.size, t, none⟩ (.bool true)).setCell ⟨w.heap.size, 12 + t, none⟩ (.int .u64 v) → (Below w.heap.size w w3 ∧ RLogAt w3 b (ys ++ [f]) ∧ ∃ A2 : Array Value, A2.toList = rc (putF f t v) ∧ w3.heap[w.heap.size]? = some (.cells A2 136 (0, 0))) from by
    rintro w3 rfl
    have hB : Below w.heap.size w (((w.drew.alloc (.cells A 136)).setCell ⟨w.heap.size, t, none⟩ (.bool true)).setCell ⟨w.heap.size, 12 + t, none⟩ (.int .u64 v)) := below_set' (p := ⟨w.heap.size, 12 + t, none⟩) (Nat.le_refl _) (below_set' (p := ⟨w.heap.size, t, none⟩) (Nat.le_refl _) HL2.out _) _
    refine ⟨hB, HLOG.out.below hB, _, ?_, blk_set (blk_set HT2.out t _) (12 + t) _⟩
    simp only [Array.toList_setIfInBounds, HA.out]
    exact rc_put f t v ht)
  clear l2 l1 hL hS0 HT HT2 HL2
  generalize w.drew.alloc (.cells A 136) = w2 at *
  cases hg : getF f t with
  | none =>
    rw [hg] at c0 c1
    simp only [Option.isSome_none, Option.getD_none] at c0 c1
    have hd3 : decide ((16 : Int) ≤ L) = false := by have hL16 : ¬ 16 ≤ L := fun h => hn0 ⟨hg, h⟩; simp; omega
    clear hn0 hg
    go_wp2_with fail
    refine (HLN.out).mono ?_
    rintro e w3 ⟨rfl, hw3⟩
    subst hw3
    go_upto_region 11 with (fail)
    obtain ⟨hB3, hR3, A2, hA2, hT3⟩ := HFIN.out _ rfl; generalize World.setCell (World.setCell w2 ⟨w.heap.size, t, none⟩ (.bool true)) ⟨w.heap.size, 12 + t, none⟩ (.int .u64 v) = w3 at *; have hT3d : w3.drew.heap[w.heap.size]? = _ := hT3; have hR3d : RLogAt w3.drew b (ys ++ [f]) := hR3; have b3 := bkeep hB3 b0; have hset := rset_any w3.drew b _ hR3d m (by (rw [HN.out]; omega)) (putF f t v) A2 hA2; rw [show (ys ++ [f]).set m (putF f t v) = ys ++ [putF f t v] from by (rw [← HM.out]; simp)] at hset; have HSET := Lib.hid hset; have HB3 := Lib.hid hB3; have hsz2 : (Tryz.prog.info? 136).map (·.size) = some A2.size := (by have h24 := congrArg List.length hA2; rw [rc_len] at h24; rw [sizeR, ← h24, Array.length_toList]); have HSZ2 := Lib.hid hsz2; have HRG3 := Lib.hid (range_blk hT3d hA2); have HEA2 := Lib.hid (show (rc (putF f t v)).toArray = A2 by rw [← hA2]); clear hset hB3 hR3 hR3d hA2 hT3 hT3d hsz2 HFIN; refine wp_region_tail 8 (by kernel_rfl) (by kernel_rfl) ?_; simp only [List.take_succ_cons, List.take_zero, List.drop_succ_cons, List.drop_zero]; with_reducible refine wpStill_step (fun KK hKK => ?_); go_simp; refine hKK _ ?_; clear hKK KK; with_reducible refine wpStill_step (fun KK hKK => ?_); go_simp; refine hKK _ ?_; clear hKK KK; with_reducible refine wpStill_step (fun KK hKK => ?_); go_simp; refine hKK _ ?_; clear hKK KK; with_reducible refine wpStill_step (fun KK hKK => ?_); go_simp; refine hKK _ ?_; clear hKK KK; with_reducible refine wpStill_step (fun KK hKK => ?_); go_simp; refine hKK _ ?_; clear hKK KK; with_reducible refine wpStill_step (fun KK hKK => ?_); go_simp; refine hKK _ ?_; clear hKK KK; with_reducible refine wpStill_step (fun KK hKK => ?_); go_simp; refine hKK _ ?_; clear hKK KK; refine still_load_mid rfl 136 _ rfl w.heap.size 0 rfl (rc (putF f t v)) _ HRG3.out Tryz.underlying136 rfl (by rw [sizeR, rc_len]) ?_; rw [HEA2.out]; (try simp only [Act.put, List.setIfInBounds_toArray, List.set_cons_zero, List.set_cons_succ]); with_reducible refine wpStill_nil ?_; go_wp2_with fail; refine (HSET.out).mono ?_; rintro e w4 ⟨rfl, o4, h4⟩; have H4 := Lib.hid h4; have O4 := Lib.hid ((Only.of_below (S := fun k => k = b) HB3.out (fun k hk h => (by omega))).drew.trans o4); clear h4 o4; go_wp2_with fail; go_ret; exact ⟨rfl, O4.out, H4.out⟩
  | some u =>
    rw [hg] at c0 c1
    simp only [Option.isSome_some, Option.getD_some] at c0 c1
    clear hn0 hg
    go_upto_region 11 with (fail)
    obtain ⟨hB3, hR3, A2, hA2, hT3⟩ := HFIN.out _ rfl; generalize World.setCell (World.setCell w2 ⟨w.heap.size, t, none⟩ (.bool true)) ⟨w.heap.size, 12 + t, none⟩ (.int .u64 v) = w3 at *; have hT3d : w3.drew.heap[w.heap.size]? = _ := hT3; have hR3d : RLogAt w3.drew b (ys ++ [f]) := hR3; have b3 := bkeep hB3 b0; have hset := rset_any w3.drew b _ hR3d m (by (rw [HN.out]; omega)) (putF f t v) A2 hA2; rw [show (ys ++ [f]).set m (putF f t v) = ys ++ [putF f t v] from by (rw [← HM.out]; simp)] at hset; have HSET := Lib.hid hset; have HB3 := Lib.hid hB3; have hsz2 : (Tryz.prog.info? 136).map (·.size) = some A2.size := (by have h24 := congrArg List.length hA2; rw [rc_len] at h24; rw [sizeR, ← h24, Array.length_toList]); have HSZ2 := Lib.hid hsz2; have HRG3 := Lib.hid (range_blk hT3d hA2); have HEA2 := Lib.hid (show (rc (putF f t v)).toArray = A2 by rw [← hA2]); clear hset hB3 hR3 hR3d hA2 hT3 hT3d hsz2 HFIN; refine wp_region_tail 8 (by kernel_rfl) (by kernel_rfl) ?_; simp only [List.take_succ_cons, List.take_zero, List.drop_succ_cons, List.drop_zero]; with_reducible refine wpStill_step (fun KK hKK => ?_); go_simp; refine hKK _ ?_; clear hKK KK; with_reducible refine wpStill_step (fun KK hKK => ?_); go_simp; refine hKK _ ?_; clear hKK KK; with_reducible refine wpStill_step (fun KK hKK => ?_); go_simp; refine hKK _ ?_; clear hKK KK; with_reducible refine wpStill_step (fun KK hKK => ?_); go_simp; refine hKK _ ?_; clear hKK KK; with_reducible refine wpStill_step (fun KK hKK => ?_); go_simp; refine hKK _ ?_; clear hKK KK; with_reducible refine wpStill_step (fun KK hKK => ?_); go_simp; refine hKK _ ?_; clear hKK KK; with_reducible refine wpStill_step (fun KK hKK => ?_); go_simp; refine hKK _ ?_; clear hKK KK; refine still_load_mid rfl 136 _ rfl w.heap.size 0 rfl (rc (putF f t v)) _ HRG3.out Tryz.underlying136 rfl (by rw [sizeR, rc_len]) ?_; rw [HEA2.out]; (try simp only [Act.put, List.setIfInBounds_toArray, List.set_cons_zero, List.set_cons_succ]); with_reducible refine wpStill_nil ?_; go_wp2_with fail; refine (HSET.out).mono ?_; rintro e w4 ⟨rfl, o4, h4⟩; have H4 := Lib.hid h4; have O4 := Lib.hid ((Only.of_below (S := fun k => k = b) HB3.out (fun k hk h => (by omega))).drew.trans o4); clear h4 o4; go_wp2_with fail; go_ret; exact ⟨rfl, O4.out, H4.out⟩
/-- Put of the other side -/
theorem rput_any (w : World) (b : Nat) (ys : List Frm) (f : Frm) (h : RLogAt w b (ys ++ [f])) (t v : Int) (hv : 0 ≤ v ∧ v < 18446744073709551616) :
    Calls Tryz.prog 96 #[ptr b, .int .i64 t, .int .u64 v] w fun e w' => e = .returned (.int .i64 (putG (ys ++ [f]) f t v)) ∧ Only (fun k => k = b) w w' ∧ (putG (ys ++ [f]) f t v ≠ 0 → RLogAt w' b (ys ++ [f])) ∧ (putG (ys ++ [f]) f t v = 0 → RLogAt w' b (ys ++ [putF f t v])) := by
  have hblt := h.lt
  by_cases ht : okT t
  · cases hr : rightVal v
    · have hE : putG (ys ++ [f]) f t v = 3 := by unfold putG; rw [if_neg (by simpa using ht), if_pos hr]
      refine (rput_form w b t v ht hv hr).mono ?_
      rintro e w' ⟨rfl, rfl⟩
      exact ⟨by rw [hE], Only.refl _ _, fun _ => h, fun h0 => by rw [hE] at h0; cases h0⟩
    · have hE : putG (ys ++ [f]) f t v = if getF f t = none ∧ 16 ≤ cntG (ys ++ [f]) then 4 else 0 := by unfold putG; rw [if_neg (by simpa using ht), if_neg (by rw [hr]; decide)]
      obtain ⟨k, rfl⟩ : ∃ k : Nat, t = k := ⟨t.toNat, by unfold okT at ht; omega⟩
      have hk : k < 12 := by unfold okT at ht; omega
      by_cases hs : getF f k = none ∧ 16 ≤ cntG (ys ++ [f])
      · rw [if_pos hs] at hE
        refine (rput_space w b ys f h k v hk hv hr hs.1 hs.2).mono ?_
        rintro e w' ⟨rfl, hl⟩
        exact ⟨by rw [hE], Only.of_below hl (fun k hk h => by omega), fun _ => h.below hl, fun h0 => by rw [hE] at h0; cases h0⟩
      · rw [if_neg hs] at hE
        refine (rput_done w b ys f h k v hk hv hr hs).mono ?_
        rintro e w' ⟨rfl, ho, hL⟩
        exact ⟨by rw [hE], ho, fun h0 => absurd hE h0, fun _ => hL⟩
  · have hE : putG (ys ++ [f]) f t v = 2 := by unfold putG; rw [if_pos ht]
    refine (rput_range w b t v ht).mono ?_
    rintro e w' ⟨rfl, rfl⟩
    exact ⟨by rw [hE], Only.refl _ _, fun _ => h, fun h0 => by rw [hE] at h0; cases h0⟩
end Go.Proofs.YtganmdbhmihjpaaGreat.Wri
/- The other side: Merge. -/
namespace Go.Proofs.YtganmdbhmihjpaaGreat.Wri
open Go.RowKit
set_option linter.unusedSimpArgs false
set_option linter.unusedVariables false
set_option maxRecDepth 50000

/-- the values of f over those of e, of the first k variables -/
def mrgK (e f : Frm) : Nat → Frm
  | 0 => e
  | k + 1 => match getF f k with | some v => putF (mrgK e f k) k v | none => mrgK e f k
theorem rc_congr {f g : Frm} (h : ∀ k : Nat, k < 12 → getF f k = getF g k) : rc f = rc g := by
  unfold rc
  congr 1 <;> refine List.map_congr_left fun t ht => ?_ <;> rw [h t (List.mem_range.1 ht)]
theorem getF_mrgK (e f : Frm) (k : Nat) (t : Nat) : getF (mrgK e f k) t = if t < k then (getF f t).or (getF e t) else getF e t := by
  induction k with
  | zero => simp [mrgK]
  | succ k ih =>
    unfold mrgK
    by_cases htk : t = k
    · subst htk
      rw [if_pos (Nat.lt_succ_self _)]
      cases hg : getF f t with
      | none => simp only [hg]; rw [ih, if_neg (Nat.lt_irrefl _)]; rfl
      | some v => simp only [hg]; rw [getF_put, if_pos rfl]; rfl
    · have hlt : (t < k + 1) = (t < k) := by simp; omega
      simp only [hlt]
      rw [← ih]
      cases hg : getF f k with
      | none => rfl
      | some v => simp only; rw [getF_put, if_neg (by omega)]
theorem below_setRow {B g : Nat} {w w1 : World} {A : Array Value} (h : Below B w w1) (hg : B ≤ g) : Below B w (w1.setRow g A) :=
  ⟨h.os, h.tape, h.output, by simpa using h.size, fun k hk => (setRow_other w1 g k A (by omega)).trans (h.block k hk)⟩
structure Two (w wc : World) (p4 p5 : Nat) (A B : Array Value) : Prop where
  lo : Below w.heap.size w wc
  ne : p4 ≠ p5
  h4 : w.heap.size ≤ p4
  h5 : w.heap.size ≤ p5
  b4 : wc.heap[p4]? = some (.cells A 136 (0, 0))
  b5 : wc.heap[p5]? = some (.cells B 136 (0, 0))
def RMergePost (w : World) (b : Nat) (gs : List Frm) (e : Ending) (w' : World) : Prop :=
  if gs.length ≤ 1 then e = .returned (.int .i64 8) ∧ w = w' else ∃ ys g f, gs = ys ++ [g, f] ∧ e = .returned (.int .i64 0) ∧ Only (fun k => k = b) w w' ∧ RLogAt w' b (ys ++ [mrgK g f 12])
theorem rmerge_no (w : World) (b : Nat) (gs : List Frm) (h : RLogAt w b gs) (h1 : gs.length ≤ 1) : Calls Tryz.prog 99 #[ptr b] w fun e w' => e = .returned (.int .i64 8) ∧ w = w' := by
  have HD := Lib.hid (rdepth_any w b gs h)
  obtain ⟨n, hn⟩ : ∃ n, gs.length = n := ⟨_, rfl⟩
  have hx1 := h
  obtain ⟨_, _, _, _, hx1, _⟩ := hx1
  rw [hn] at HD h1 hx1
  have hd : ((n : Int) - 1 == 0) = true := by (try simp); omega
  clear h hn
  go_enter Tryz.func99, Tryz.ntmps99
  go_wp2_with fail; refine (HD.out).mono ?_; rintro e w0 ⟨rfl, rfl⟩
  go_wp2_with fail
  go_ret
  exact ⟨rfl, rfl⟩
theorem two_last (gs : List Frm) (h : ¬ gs.length ≤ 1) : ∃ ys g f, gs = ys ++ [g, f] := by
  obtain ⟨f, hf⟩ : ∃ f, gs.getLast? = some f := by
    cases hg : gs.getLast? with
    | none => rw [List.getLast?_eq_none_iff] at hg; subst hg; simp at h
    | some f => exact ⟨f, rfl⟩
  obtain ⟨zs, rfl⟩ := List.getLast?_eq_some_iff.1 hf
  obtain ⟨g, hg⟩ : ∃ g, zs.getLast? = some g := by
    cases hg : zs.getLast? with
    | none => rw [List.getLast?_eq_none_iff] at hg; subst hg; simp at h
    | some f => exact ⟨f, rfl⟩
  obtain ⟨ys, rfl⟩ := List.getLast?_eq_some_iff.1 hg
  exact ⟨ys, g, f, by simp⟩
set_option maxRecDepth 50000 in
set_option maxHeartbeats 3200000 in
theorem rmerge_yes (w : World) (b : Nat) (ys : List Frm) (e f : Frm) (h : RLogAt w b (ys ++ [e, f])) : Calls Tryz.prog 99 #[ptr b] w fun r w' => r = .returned (.int .i64 0) ∧ Only (fun k => k = b) w w' ∧ RLogAt w' b (ys ++ [mrgK e f 12]) := by
  have HLOG := Lib.hid h
  have HD := Lib.hid (rdepth_any w b _ h)
  obtain ⟨g, cap, hb, hS, hx1, hx5⟩ := h
  have hblt := blk_lt hb
  obtain ⟨n, hn⟩ : ∃ n, (ys ++ [e, f]).length = n := ⟨_, rfl⟩
  have HN := Lib.hid hn
  rw [hn] at hb hS hx1 hx5 HD
  have b0 := blk_cell hb 0
  simp only [List.getElem?_toArray, List.getElem?_cons_zero, List.getElem?_cons_succ] at b0
  have hn1 : n = ys.length + 2 := by simpa using hn.symm
  have hfe : (ys ++ [e, f])[ys.length]? = some e := by simp
  have hff : (ys ++ [e, f])[ys.length + 1]? = some f := by simp
  obtain ⟨m, hm⟩ : ∃ m, ys.length = m := ⟨_, rfl⟩
  rw [hm] at hn1 hfe
  obtain ⟨m1, hm1⟩ : ∃ m1, ys.length + 1 = m1 := ⟨_, rfl⟩
  rw [hm1] at hff
  have HM := Lib.hid hm; have HM1 := Lib.hid hm1
  have HRE := Lib.hid (range_row hS hfe); have HRF := Lib.hid (range_row hS hff)
  obtain ⟨E, hE⟩ : ∃ E, (rc e).toArray = E := ⟨_, rfl⟩
  obtain ⟨A, hA⟩ : ∃ A, (rc f).toArray = A := ⟨_, rfl⟩
  have HEE := Lib.hid hE; have HEA := Lib.hid hA
  have HEL := Lib.hid (show E.toList = rc e by rw [← hE]); have HAL := Lib.hid (show A.toList = rc f by rw [← hA])
  have HES := Lib.hid (show E.size = 24 by (rw [← hE]; simp [rc_len])); have HAS := Lib.hid (show A.size = 24 by (rw [← hA]; simp [rc_len]))
  have HE1 := Lib.hid (show E.all (·.oneCell') = true from Array.all_eq_true_iff_forall_mem.2 (fun v hv => rc_one e v (by rw [← hE] at hv; simpa using hv)))
  have HA1 := Lib.hid (show A.all (·.oneCell') = true from Array.all_eq_true_iff_forall_mem.2 (fun v hv => rc_one f v (by rw [← hA] at hv; simpa using hv)))
  have hw1 : IntKind.i64.wrap ((n : Int) - 1) = (m1 : Int) := by rw [IntKind.wrap_i64]; omega
  have hw2 : IntKind.i64.wrap ((n : Int) - 2) = (m : Int) := by rw [IntKind.wrap_i64]; omega
  have hmn : (m : Int) < n := by omega
  have hm1n : (m1 : Int) < n := by omega
  have hd : ((n : Int) - 1 == 0) = false := by (try simp); omega
  have HN1 := Lib.hid hn1
  have KW := Lib.hid (show ∀ w', Below w.heap.size w w' → (w'.cell? ⟨b, 0, none⟩ = some (.slice (some ⟨g, 0, none⟩) n cap) ∧ w'.rangeAt g (m1 * 24) (rc f) ∧ w'.rangeAt g (m * 24) (rc e)) from fun w' h => ⟨bkeep h b0, fun j v hv => bkeep h (HRF.out j v hv), fun j v hv => bkeep h (HRE.out j v hv)⟩)
  clear hb hS hn hn1 hfe hff hm hm1 hE hA
  go_enter Tryz.func99, Tryz.ntmps99
  go_wp2_with fail
  refine (HD.out).mono ?_
  rintro r w0 ⟨rfl, hw0⟩
  subst hw0
  go_upto_region 6 with (fail)
  go_cut [4, 5] (fun s4 s5 wc => ∃ p4 p5, s4 = ptr p4 ∧ s5 = ptr p5 ∧ Two w wc p4 p5 A E)
  case first =>
    refine wp_region_F (fun w' => w'.cell? ⟨b, 0, none⟩ = some (.slice (some ⟨g, 0, none⟩) n cap) ∧ w'.rangeAt g (m1 * 24) (rc f) ∧ w'.rangeAt g (m * 24) (rc e)) 19 (by kernel_rfl) ?_
    have hS0 := KW.out w.drew (Below.refl _ _).drew
    refine wpAnyF_take (i := 0) (v := ?_) rfl (by kernel_rfl) (by kernel_rfl) (by kernel_rfl) (by kernel_rfl) (fun _ _ _ h => h) (Or.inl ⟨by rfl, ?_⟩) (by assumption) ?_; rotate_left; (focus (intro w hSw; (obtain ⟨q0, q1⟩ := hSw); (first | (go_simp; done) | (go_simp; with_reducible rfl)))); (try simp only [Act.put, List.setIfInBounds_toArray, List.set_cons_zero, List.set_cons_succ])
    refine wpAnyF_take (i := 1) (v := ?_) rfl (by kernel_rfl) (by kernel_rfl) (by kernel_rfl) (by kernel_rfl) (fun _ _ _ h => h) (Or.inl ⟨by rfl, ?_⟩) (by assumption) ?_; rotate_left; (focus (intro w hSw; (obtain ⟨q0, q1⟩ := hSw); (first | (go_simp; done) | (go_simp; with_reducible rfl)))); (try simp only [Act.put, List.setIfInBounds_toArray, List.set_cons_zero, List.set_cons_succ])
    refine wpAnyF_take (i := 2) (v := ?_) rfl (by kernel_rfl) (by kernel_rfl) (by kernel_rfl) (by kernel_rfl) (fun _ _ _ h => h) (Or.inl ⟨by rfl, ?_⟩) (by assumption) ?_; rotate_left; (focus (intro w hSw; (obtain ⟨q0, q1⟩ := hSw); (first | (go_simp; done) | (go_simp; with_reducible rfl)))); (try simp only [Act.put, List.setIfInBounds_toArray, List.set_cons_zero, List.set_cons_succ])
    refine wpAnyF_take (i := 3) (v := ?_) rfl (by kernel_rfl) (by kernel_rfl) (by kernel_rfl) (by kernel_rfl) (fun _ _ _ h => h) (Or.inl ⟨by rfl, ?_⟩) (by assumption) ?_; rotate_left; (focus (intro w hSw; (obtain ⟨q0, q1⟩ := hSw); (first | (go_simp; done) | (go_simp; with_reducible rfl)))); (try simp only [Act.put, List.setIfInBounds_toArray, List.set_cons_zero, List.set_cons_succ])
    refine wpAnyF_take (i := 4) (v := ?_) rfl (by kernel_rfl) (by kernel_rfl) (by kernel_rfl) (by kernel_rfl) (fun _ _ _ h => h) (Or.inl ⟨by rfl, ?_⟩) (by assumption) ?_; rotate_left; (focus (intro w hSw; (obtain ⟨q0, q1⟩ := hSw); (first | (go_simp; done) | (go_simp; with_reducible rfl)))); (try simp only [Act.put, List.setIfInBounds_toArray, List.set_cons_zero, List.set_cons_succ])
    refine wpAnyF_take (i := 5) (v := ?_) rfl (by kernel_rfl) (by kernel_rfl) (by kernel_rfl) (by kernel_rfl) (fun _ _ _ h => h) (Or.inl ⟨by rfl, ?_⟩) (by assumption) ?_; rotate_left; (focus (intro w hSw; (obtain ⟨q0, q1⟩ := hSw); (first | (go_simp; done) | (go_simp; with_reducible rfl)))); (try simp only [Act.put, List.setIfInBounds_toArray, List.set_cons_zero, List.set_cons_succ])
    refine wpAnyF_take (i := 6) (v := ?_) rfl (by kernel_rfl) (by kernel_rfl) (by kernel_rfl) (by kernel_rfl) (fun _ _ _ h => h) (Or.inl ⟨by rfl, ?_⟩) (by assumption) ?_; rotate_left; (focus (intro w hSw; (obtain ⟨q0, q1⟩ := hSw); (first | (go_simp; done) | (go_simp; with_reducible rfl)))); (try simp only [Act.put, List.setIfInBounds_toArray, List.set_cons_zero, List.set_cons_succ])
    refine wpAnyF_take (i := 7) (v := .agg (rc f).toArray) rfl (by kernel_rfl) (by kernel_rfl) (by kernel_rfl) (by kernel_rfl) (fun _ _ _ h => h) (yieldsIf_load_mid ?_ 136 _ rfl g (m1 * 24) rfl (rc f) _ ?_ Tryz.underlying136 rfl (by rw [sizeR, rc_len])) (by assumption) ?_; (focus (rfl)); (focus (exact fun w h => h.2.1)); (try simp only [Act.put, List.setIfInBounds_toArray, List.set_cons_zero, List.set_cons_succ]); rw [HEA.out]
    refine wpAnyF_take (i := 8) (v := ?_) rfl (by kernel_rfl) (by kernel_rfl) (by kernel_rfl) (by kernel_rfl) (fun _ _ _ h => h) (Or.inl ⟨by rfl, ?_⟩) (by assumption) ?_; rotate_left; (focus (intro w hSw; (obtain ⟨q0, q1⟩ := hSw); (first | (go_simp; done) | (go_simp; with_reducible rfl)))); (try simp only [Act.put, List.setIfInBounds_toArray, List.set_cons_zero, List.set_cons_succ])
    refine wpAnyF_take (i := 9) (v := ?_) rfl (by kernel_rfl) (by kernel_rfl) (by kernel_rfl) (by kernel_rfl) (fun _ _ _ h => h) (Or.inl ⟨by rfl, ?_⟩) (by assumption) ?_; rotate_left; (focus (intro w hSw; (obtain ⟨q0, q1⟩ := hSw); (first | (go_simp; done) | (go_simp; with_reducible rfl)))); (try simp only [Act.put, List.setIfInBounds_toArray, List.set_cons_zero, List.set_cons_succ])
    refine wpAnyF_take (i := 10) (v := ?_) rfl (by kernel_rfl) (by kernel_rfl) (by kernel_rfl) (by kernel_rfl) (fun _ _ _ h => h) (Or.inl ⟨by rfl, ?_⟩) (by assumption) ?_; rotate_left; (focus (intro w hSw; (obtain ⟨q0, q1⟩ := hSw); (first | (go_simp; done) | (go_simp; with_reducible rfl)))); (try simp only [Act.put, List.setIfInBounds_toArray, List.set_cons_zero, List.set_cons_succ])
    refine wpAnyF_take (i := 11) (v := ?_) rfl (by kernel_rfl) (by kernel_rfl) (by kernel_rfl) (by kernel_rfl) (fun _ _ _ h => h) (Or.inl ⟨by rfl, ?_⟩) (by assumption) ?_; rotate_left; (focus (intro w hSw; (obtain ⟨q0, q1⟩ := hSw); (first | (go_simp; done) | (go_simp; with_reducible rfl)))); (try simp only [Act.put, List.setIfInBounds_toArray, List.set_cons_zero, List.set_cons_succ])
    refine wpAnyF_take (i := 12) (v := ?_) rfl (by kernel_rfl) (by kernel_rfl) (by kernel_rfl) (by kernel_rfl) (fun _ _ _ h => h) (Or.inl ⟨by rfl, ?_⟩) (by assumption) ?_; rotate_left; (focus (intro w hSw; (obtain ⟨q0, q1⟩ := hSw); (first | (go_simp; done) | (go_simp; with_reducible rfl)))); (try simp only [Act.put, List.setIfInBounds_toArray, List.set_cons_zero, List.set_cons_succ])
    refine wpAnyF_take (i := 13) (v := ?_) rfl (by kernel_rfl) (by kernel_rfl) (by kernel_rfl) (by kernel_rfl) (fun _ _ _ h => h) (Or.inl ⟨by rfl, ?_⟩) (by assumption) ?_; rotate_left; (focus (intro w hSw; (obtain ⟨q0, q1⟩ := hSw); (first | (go_simp; done) | (go_simp; with_reducible rfl)))); (try simp only [Act.put, List.setIfInBounds_toArray, List.set_cons_zero, List.set_cons_succ])
    refine wpAnyF_take (i := 14) (v := ?_) rfl (by kernel_rfl) (by kernel_rfl) (by kernel_rfl) (by kernel_rfl) (fun _ _ _ h => h) (Or.inl ⟨by rfl, ?_⟩) (by assumption) ?_; rotate_left; (focus (intro w hSw; (obtain ⟨q0, q1⟩ := hSw); (first | (go_simp; done) | (go_simp; with_reducible rfl)))); (try simp only [Act.put, List.setIfInBounds_toArray, List.set_cons_zero, List.set_cons_succ])
    refine wpAnyF_take (i := 15) (v := .agg (rc e).toArray) rfl (by kernel_rfl) (by kernel_rfl) (by kernel_rfl) (by kernel_rfl) (fun _ _ _ h => h) (yieldsIf_load_mid ?_ 136 _ rfl g (m * 24) rfl (rc e) _ ?_ Tryz.underlying136 rfl (by rw [sizeR, rc_len])) (by assumption) ?_; (focus (rfl)); (focus (exact fun w h => h.2.2)); (try simp only [Act.put, List.setIfInBounds_toArray, List.set_cons_zero, List.set_cons_succ]); rw [HEE.out]
    have hz1 : ∀ Z Z', ((w.alloc (.cells Z 136)).alloc (.cells Z' 136)).drew.heap[w.heap.size]? = some (.cells Z 136 (0, 0)) := fun Z Z' => by simp [↓heap_alloc_eq, ↓heap_set_eq, ↓heap_drew_eq, ↓heap_drewN_eq, setObj, size_drewN]
    have hz2 : ∀ Z Z', ((w.alloc (.cells Z 136)).alloc (.cells Z' 136)).drew.heap[w.heap.size + 1]? = some (.cells Z' 136 (0, 0)) := fun Z Z' => by simp [↓heap_alloc_eq, ↓heap_set_eq, ↓heap_drew_eq, ↓heap_drewN_eq, setObj, size_drewN]
    have l3 : ∀ Z Z', Below w.heap.size w ((w.alloc (.cells Z 136)).alloc (.cells Z' 136)).drew := fun Z Z' => by repeat (first | (with_reducible exact Below.refl _ _) | (with_reducible apply Below.drew) | (with_reducible refine below_drewN ?_ _) | (with_reducible refine below_alloc' ?_ ?_ _; (focus ((try simp) <;> omega))) | (with_reducible refine below_set' ?_ ?_ _; (focus ((try simp) <;> omega))))
    have l1 : ∀ Z, Below w.heap.size w (w.alloc (.cells Z 136)).drew := fun Z => by repeat (first | (with_reducible exact Below.refl _ _) | (with_reducible apply Below.drew) | (with_reducible refine below_drewN ?_ _) | (with_reducible refine below_alloc' ?_ ?_ _; (focus ((try simp) <;> omega))) | (with_reducible refine below_set' ?_ ?_ _; (focus ((try simp) <;> omega))))
    have l2 : ∀ o o', Below w.heap.size w ((w.drew.alloc o).alloc o') := fun o o' => by repeat (first | (with_reducible exact Below.refl _ _) | (with_reducible apply Below.drew) | (with_reducible refine below_drewN ?_ _) | (with_reducible refine below_alloc' ?_ ?_ _; (focus ((try simp) <;> omega))) | (with_reducible refine below_set' ?_ ?_ _; (focus ((try simp) <;> omega))))
    refine wpAnyF_ready (rs := [16, 17]) (by kernel_rfl) (by simp) ?_
    refine AllF.cons rfl (fun K hK => ?_) ?_
    · go_simp
      refine hK.out _ _ (fun _ => KW.out _ (l1 _)) ?_; clear hK K; (try simp only [Act.put, List.setIfInBounds_toArray, List.set_cons_zero, List.set_cons_succ])
      refine wpAnyF_ready (rs := [17]) (by kernel_rfl) (by simp) ?_
      refine AllF.cons rfl (fun K hK => ?_) AllF.nil
      go_simp
      refine hK.out _ _ (fun _ => KW.out _ (l3 _ _)) ?_; clear hK K; (try simp only [Act.put, List.setIfInBounds_toArray, List.set_cons_zero, List.set_cons_succ])
      refine wpAnyF_ready (rs := [18]) (by kernel_rfl) (by simp) ?_; refine AllF.cons rfl (fun K hK => ?_) AllF.nil; rw [if_pos (by rfl)]; refine wp_store_row 136 _ _ rfl (w.heap.size) A rfl rfl 136 _ (hz1 _ _) (by rw [sizeR, HAS.out]) (by simp [HAS.out]) HA1.out ?_; have lA := below_setRow (g := w.heap.size) (A := A) (l3 (rc []).toArray (rc []).toArray) (by omega); refine hK.out _ _ (fun _ => KW.out _ lA) ?_; clear hK K; (try simp only [Act.put, List.setIfInBounds_toArray, List.set_cons_zero, List.set_cons_succ]); refine wpAnyF_ready (rs := [19]) (by kernel_rfl) (by simp) ?_; refine AllF.cons rfl (fun K hK => ?_) AllF.nil; rw [if_pos (by rfl)]; refine wp_store_row 136 _ _ rfl (w.heap.size + 1) E rfl rfl 136 _ ((setRow_other _ _ _ _ (by omega)).trans (hz2 _ _)) (by rw [sizeR, HES.out]) (by simp [HES.out]) HE1.out ?_; refine hK.out _ _ (fun h => absurd rfl h) ?_; clear hK K; (try simp only [Act.put, List.setIfInBounds_toArray, List.set_cons_zero, List.set_cons_succ]); refine wpAnyF_done (by kernel_rfl) ?_ _; go_wp2_with fail; go_meet; (case rel => exact ⟨w.heap.size, w.heap.size + 1, rfl, rfl, below_setRow (below_setRow (l3 _ _) (by omega)) (by omega), by omega, by omega, by omega, (setRow_other _ _ _ _ (by omega)).trans (setRow_heap _ _ _ _ _ _ (hz1 _ _)), setRow_heap _ _ _ _ _ _ ((setRow_other _ _ _ _ (by omega)).trans (hz2 _ _))⟩)
    refine AllF.cons rfl (fun K hK => ?_) AllF.nil
    go_simp
    refine hK.out _ _ (fun _ => KW.out _ (l1 _)) ?_; clear hK K; (try simp only [Act.put, List.setIfInBounds_toArray, List.set_cons_zero, List.set_cons_succ])
    refine wpAnyF_ready (rs := [16]) (by kernel_rfl) (by simp) ?_
    refine AllF.cons rfl (fun K hK => ?_) AllF.nil
    go_simp
    refine hK.out _ _ (fun _ => KW.out _ (l3 _ _)) ?_; clear hK K; (try simp only [Act.put, List.setIfInBounds_toArray, List.set_cons_zero, List.set_cons_succ])
    refine wpAnyF_ready (rs := [18]) (by kernel_rfl) (by simp) ?_; refine AllF.cons rfl (fun K hK => ?_) AllF.nil; rw [if_pos (by rfl)]; refine wp_store_row 136 _ _ rfl (w.heap.size + 1) A rfl rfl 136 _ (hz2 _ _) (by rw [sizeR, HAS.out]) (by simp [HAS.out]) HA1.out ?_; have lA := below_setRow (g := w.heap.size + 1) (A := A) (l3 (rc []).toArray (rc []).toArray) (by omega); refine hK.out _ _ (fun _ => KW.out _ lA) ?_; clear hK K; (try simp only [Act.put, List.setIfInBounds_toArray, List.set_cons_zero, List.set_cons_succ]); refine wpAnyF_ready (rs := [19]) (by kernel_rfl) (by simp) ?_; refine AllF.cons rfl (fun K hK => ?_) AllF.nil; rw [if_pos (by rfl)]; refine wp_store_row 136 _ _ rfl (w.heap.size) E rfl rfl 136 _ ((setRow_other _ _ _ _ (by omega)).trans (hz1 _ _)) (by rw [sizeR, HES.out]) (by simp [HES.out]) HE1.out ?_; refine hK.out _ _ (fun h => absurd rfl h) ?_; clear hK K; (try simp only [Act.put, List.setIfInBounds_toArray, List.set_cons_zero, List.set_cons_succ]); refine wpAnyF_done (by kernel_rfl) ?_ _; go_wp2_with fail; go_meet; (case rel => exact ⟨w.heap.size + 1, w.heap.size, rfl, rfl, below_setRow (below_setRow (l3 _ _) (by omega)) (by omega), by omega, by omega, by omega, (setRow_other _ _ _ _ (by omega)).trans (setRow_heap _ _ _ _ _ _ (hz2 _ _)), setRow_heap _ _ _ _ _ _ ((setRow_other _ _ _ _ (by omega)).trans (hz1 _ _))⟩)
  case rest =>
    obtain ⟨p4, p5, rfl, rfl, hT⟩ := hcut
    have HT := Lib.hid hT
    clear hT
    go_wp2_with fail
    go_loopw [6] (fun i wr => ∃ k : Nat, i = .int .i64 k ∧ k ≤ 12 ∧ ∃ B : Array Value, B.toList = rc (mrgK e f k) ∧ Two w wr p4 p5 A B) (fun i _ => 12 - (intOf i).toNat)
    case atStart => exact ⟨0, rfl, by decide, E, HEL.out, HT.out⟩
    case round =>
      obtain ⟨k, rfl, hk, B, hB, hT⟩ := hrel
      have HTr := Lib.hid hT; have HBr := Lib.hid hB
      have hlo := hT.lo.size
      have hb4 := blk_lt hT.b4
      have hb5 := blk_lt hT.b5
      have hne : ¬ p4 = p5 := hT.ne
      have hne' : ¬ p5 = p4 := fun h => hne h.symm
      by_cases hlt : k < 12
      · have c0 := blk_cell hT.b4 k
        have c1 := blk_cell hT.b4 (12 + k)
        rw [← Array.getElem?_toList, HAL.out, rc_has f k hlt] at c0
        rw [← Array.getElem?_toList, HAL.out, rc_val f k hlt] at c1
        have hk12 : (k : Int) < 12 := by omega
        cases hg : getF f k with
        | none =>
          have HK := Lib.hid (show mrgK e f (k + 1) = mrgK e f k by simp [mrgK, hg])
          rw [hg] at c0 c1
          simp only [Option.isSome_none] at c0
          clear hg hT hB
          go_wp2_with fail
          exact ⟨⟨k + 1, by go_num, by omega, B, by rw [HK.out]; exact HBr.out, HTr.out⟩, by simp [intOf]; omega⟩
        | some v =>
          have HK := Lib.hid (show mrgK e f (k + 1) = putF (mrgK e f k) k v by simp [mrgK, hg])
          rw [hg] at c0 c1
          simp only [Option.isSome_some, Option.getD_some] at c0 c1
          have d0 := blk_cell hT.b5 k
          have d1 := blk_cell hT.b5 (12 + k)
          rw [← Array.getElem?_toList, hB, rc_has _ k hlt] at d0
          rw [← Array.getElem?_toList, hB, rc_val _ k hlt] at d1
          have hfz := blk_free hT.b5
          have HG := Lib.hid hg
          clear hg hT hB
          go_wp2_with fail
          refine wp_region_F (fun w' => w'.cell? ⟨p4, 12 + k, none⟩ = some (.int .u64 v)) 11 (by kernel_rfl) ?_
          have hS0 : wr.drew.cell? ⟨p4, 12 + k, none⟩ = some (.int .u64 v) := c1
          have hS1 : ∀ u, (wr.drew.setCell ⟨p5, k, none⟩ u).cell? ⟨p4, 12 + k, none⟩ = some (.int .u64 v) := fun u => (blk_cell (blk_other (w := wr.drew) HTr.out.b4 (p := ⟨p5, k, none⟩) hne u) (12 + k)).trans (by rw [← Array.getElem?_toList, HAL.out, rc_val f k hlt, HG.out]; rfl)
          refine wpAnyF_take (i := 0) (v := ?_) rfl (by kernel_rfl) (by kernel_rfl) (by kernel_rfl) (by kernel_rfl) (fun _ _ _ h => h) (Or.inl ⟨by rfl, ?_⟩) (by assumption) ?_; rotate_left; (focus (intro w hSw; (skip); (first | (go_simp; done) | (go_simp; with_reducible rfl)))); (try simp only [Act.put, List.setIfInBounds_toArray, List.set_cons_zero, List.set_cons_succ])
          refine wpAnyF_take (i := 1) (v := ?_) rfl (by kernel_rfl) (by kernel_rfl) (by kernel_rfl) (by kernel_rfl) (fun _ _ _ h => h) (Or.inl ⟨by rfl, ?_⟩) (by assumption) ?_; rotate_left; (focus (intro w hSw; (skip); (first | (go_simp; done) | (go_simp; with_reducible rfl)))); (try simp only [Act.put, List.setIfInBounds_toArray, List.set_cons_zero, List.set_cons_succ])
          refine wpAnyF_take (i := 2) (v := ?_) rfl (by kernel_rfl) (by kernel_rfl) (by kernel_rfl) (by kernel_rfl) (fun _ _ _ h => h) (Or.inl ⟨by rfl, ?_⟩) (by assumption) ?_; rotate_left; (focus (intro w hSw; (skip); (first | (go_simp; done) | (go_simp; with_reducible rfl)))); (try simp only [Act.put, List.setIfInBounds_toArray, List.set_cons_zero, List.set_cons_succ])
          refine wpAnyF_take (i := 3) (v := ?_) rfl (by kernel_rfl) (by kernel_rfl) (by kernel_rfl) (by kernel_rfl) (fun _ _ _ h => h) (Or.inl ⟨by rfl, ?_⟩) (by assumption) ?_; rotate_left; (focus (intro w hSw; (skip); (first | (go_simp; done) | (go_simp; with_reducible rfl)))); (try simp only [Act.put, List.setIfInBounds_toArray, List.set_cons_zero, List.set_cons_succ])
          refine wpAnyF_take (i := 4) (v := ?_) rfl (by kernel_rfl) (by kernel_rfl) (by kernel_rfl) (by kernel_rfl) (fun _ _ _ h => h) (Or.inl ⟨by rfl, ?_⟩) (by assumption) ?_; rotate_left; (focus (intro w hSw; (skip); (first | (go_simp; done) | (go_simp; with_reducible rfl)))); (try simp only [Act.put, List.setIfInBounds_toArray, List.set_cons_zero, List.set_cons_succ])
          refine wpAnyF_take (i := 5) (v := ?_) rfl (by kernel_rfl) (by kernel_rfl) (by kernel_rfl) (by kernel_rfl) (fun _ _ _ h => h) (Or.inl ⟨by rfl, ?_⟩) (by assumption) ?_; rotate_left; (focus (intro w hSw; (skip); (first | (go_simp; done) | (go_simp; with_reducible rfl)))); (try simp only [Act.put, List.setIfInBounds_toArray, List.set_cons_zero, List.set_cons_succ])
          refine wpAnyF_take (i := 6) (v := ?_) rfl (by kernel_rfl) (by kernel_rfl) (by kernel_rfl) (by kernel_rfl) (fun _ _ _ h => h) (Or.inl ⟨by rfl, ?_⟩) (by assumption) ?_; rotate_left; (focus (intro w hSw; (skip); (first | (go_simp; done) | (go_simp; with_reducible rfl)))); (try simp only [Act.put, List.setIfInBounds_toArray, List.set_cons_zero, List.set_cons_succ])
          refine wpAnyF_take (i := 7) (v := ?_) rfl (by kernel_rfl) (by kernel_rfl) (by kernel_rfl) (by kernel_rfl) (fun _ _ _ h => h) (Or.inl ⟨by rfl, ?_⟩) (by assumption) ?_; rotate_left; (focus (intro w hSw; (skip); (first | (go_simp; done) | (go_simp; with_reducible rfl)))); (try simp only [Act.put, List.setIfInBounds_toArray, List.set_cons_zero, List.set_cons_succ])
          have hX : Two w ((wr.drew.setCell ⟨p5, k, none⟩ (.bool true)).setCell ⟨p5, 12 + k, none⟩ (.int .u64 v)) p4 p5 A ((B.setIfInBounds k (.bool true)).setIfInBounds (12 + k) (.int .u64 v)) :=
            ⟨below_set' (p := ⟨p5, 12 + k, none⟩) HTr.out.h5 (below_set' (p := ⟨p5, k, none⟩) HTr.out.h5 HTr.out.lo.drew _) _, hne, HTr.out.h4, HTr.out.h5, blk_other (p := ⟨p5, 12 + k, none⟩) (blk_other (w := wr.drew) (p := ⟨p5, k, none⟩) HTr.out.b4 hne _) hne _, blk_set (blk_set (w := wr.drew) HTr.out.b5 k _) (12 + k) _⟩
          have HX := Lib.hid hX
          clear hX
          refine wpAnyF_ready (rs := [8, 9]) (by kernel_rfl) (by simp) ?_
          refine AllF.cons rfl (fun K hK => ?_) ?_
          · go_simp
            refine hK.out _ _ (fun _ => hS1 _) ?_; clear hK K; (try simp only [Act.put, List.setIfInBounds_toArray, List.set_cons_zero, List.set_cons_succ])
            refine wpAnyF_ready (rs := [9]) (by kernel_rfl) (by simp) ?_
            refine AllF.cons rfl (fun K hK => ?_) AllF.nil
            go_simp
            refine hK.out _ _ (fun _ => hS1 _) ?_; clear hK K; (try simp only [Act.put, List.setIfInBounds_toArray, List.set_cons_zero, List.set_cons_succ])
            refine wpAnyF_ready (rs := [10]) (by kernel_rfl) (by simp) ?_
            refine AllF.cons rfl (fun K hK => ?_) AllF.nil
            go_simp
            refine hK.out _ _ (fun _ => hS1 _) ?_; clear hK K; (try simp only [Act.put, List.setIfInBounds_toArray, List.set_cons_zero, List.set_cons_succ])
            refine wpAnyF_ready (rs := [11]) (by kernel_rfl) (by simp) ?_
            refine AllF.cons rfl (fun K hK => ?_) AllF.nil
            go_simp
            refine hK.out _ _ (fun h => absurd rfl h) ?_; clear hK K; (try simp only [Act.put, List.setIfInBounds_toArray, List.set_cons_zero, List.set_cons_succ]); refine wpAnyF_done (by kernel_rfl) ?_ _
            clear hS0 hS1
            go_wp2_with fail
            exact ⟨⟨k + 1, by go_num, by omega, _, by rw [HK.out, ← rc_put _ _ _ hlt, ← HBr.out]; simp, HX.out⟩, by simp [intOf]; omega⟩
          refine AllF.cons rfl (fun K hK => ?_) AllF.nil
          go_simp
          refine hK.out _ _ (fun _ => hS0) ?_; clear hK K; (try simp only [Act.put, List.setIfInBounds_toArray, List.set_cons_zero, List.set_cons_succ])
          refine wpAnyF_ready (rs := [8]) (by kernel_rfl) (by simp) ?_
          refine AllF.cons rfl (fun K hK => ?_) AllF.nil
          go_simp
          refine hK.out _ _ (fun _ => hS1 _) ?_; clear hK K; (try simp only [Act.put, List.setIfInBounds_toArray, List.set_cons_zero, List.set_cons_succ])
          refine wpAnyF_ready (rs := [10]) (by kernel_rfl) (by simp) ?_
          refine AllF.cons rfl (fun K hK => ?_) AllF.nil
          go_simp
          refine hK.out _ _ (fun _ => hS1 _) ?_; clear hK K; (try simp only [Act.put, List.setIfInBounds_toArray, List.set_cons_zero, List.set_cons_succ])
          refine wpAnyF_ready (rs := [11]) (by kernel_rfl) (by simp) ?_
          refine AllF.cons rfl (fun K hK => ?_) AllF.nil
          go_simp
          refine hK.out _ _ (fun h => absurd rfl h) ?_; clear hK K; (try simp only [Act.put, List.setIfInBounds_toArray, List.set_cons_zero, List.set_cons_succ]); refine wpAnyF_done (by kernel_rfl) ?_ _
          clear hS0 hS1
          go_wp2_with fail
          exact ⟨⟨k + 1, by go_num, by omega, _, by rw [HK.out, ← rc_put _ _ _ hlt, ← HBr.out]; simp, HX.out⟩, by simp [intOf]; omega⟩
      · obtain rfl : k = 12 := by omega
        have hDr := rdrop_any wr b _ (HLOG.out.below hT.lo)
        unfold RDropPost at hDr
        simp only [if_neg (show ¬ (ys ++ [e, f]).length ≤ 1 by rw [HN.out]; have := HN1.out; omega), show (ys ++ [e, f]).dropLast = ys ++ [e] by simp [List.dropLast_append]] at hDr
        have HDR := Lib.hid hDr
        clear hDr hT
        go_wp2_with fail
        refine (HDR.out).mono ?_
        rintro r w2 ⟨rfl, o2, h2⟩
        have h5w := HTr.out.h5
        have hb5' := o2.blk HTr.out.b5 (by omega)
        have hle := HTr.out.lo
        have hB24 : (Tryz.prog.info? 136).map (·.size) = some B.size := by have h24 := congrArg List.length HBr.out; rw [rc_len] at h24; rw [sizeR, ← h24, Array.length_toList]
        have hset := rset_any w2 b _ h2 m (by simp; have := HM.out; omega) (mrgK e f 12) B HBr.out
        rw [show (ys ++ [e]).set m (mrgK e f 12) = ys ++ [mrgK e f 12] from by rw [← HM.out] <;> simp] at hset
        have HSET := Lib.hid hset; have HB5 := Lib.hid hb5'; have HB24 := Lib.hid hB24
        have O2 := Lib.hid ((Only.of_below (S := fun k => k = b) hle (fun k hk h => by omega)).trans o2)
        clear hset hb5' hB24 o2 h2 hle
        go_wp2_with (refine wpList_load_row rfl 136 _ rfl p5 rfl 136 B (0, 0) _ HB5.out Tryz.underlying136 rfl HB24.out ?_)
        refine (HSET.out).mono ?_
        rintro r w4 ⟨rfl, o4, h4⟩
        have H4 := Lib.hid h4; have O4 := Lib.hid (O2.out.trans o4)
        clear h4 o4
        go_wp2_with fail
        go_ret
        exact ⟨rfl, O4.out, H4.out⟩
theorem rmerge_any (w : World) (b : Nat) (gs : List Frm) (h : RLogAt w b gs) : Calls Tryz.prog 99 #[ptr b] w (RMergePost w b gs) := by
  unfold RMergePost
  by_cases h1 : gs.length ≤ 1
  · simp only [if_pos h1]
    exact rmerge_no w b gs h h1
  · simp only [if_neg h1]
    obtain ⟨ys, g, f, rfl⟩ := two_last gs h1
    refine (rmerge_yes w b ys g f h).mono ?_
    rintro r w' ⟨rfl, o, h'⟩
    exact ⟨ys, g, f, rfl, rfl, o, h'⟩
end Go.Proofs.YtganmdbhmihjpaaGreat.Wri
/- Plain laws on frames; both logs at once. -/
namespace Go.Proofs.YtganmdbhmihjpaaGreat.Wri
open Go.RowKit
set_option linter.unusedSimpArgs false
set_option linter.unusedVariables false
set_option maxRecDepth 50000

/-- each variable once, and each one that may be -/
def GoodF (f : Frm) : Prop := (f.map (·.1)).Nodup ∧ ∀ p ∈ f, 0 ≤ p.1 ∧ p.1 < 12
def lenF (fs : List Frm) : Nat := (fs.map List.length).sum
structure WellS (fs : List Frm) : Prop where
  good : ∀ f ∈ fs, GoodF f
  len : lenF fs ≤ 16
theorem GoodF.nil : GoodF [] := ⟨List.nodup_nil, fun p h => by cases h⟩
theorem GoodF.tail {p : Int × Int} {f : Frm} (h : GoodF (p :: f)) : GoodF f := by
  have h1 := h.1
  rw [List.map_cons, List.nodup_cons] at h1
  exact ⟨h1.2, fun q hq => h.2 q (List.mem_cons_of_mem _ hq)⟩
theorem getF_cons (p : Int × Int) (f : Frm) (t : Int) : getF (p :: f) t = if p.1 = t then some p.2 else getF f t := by
  by_cases h : p.1 = t <;> simp [getF, h]
theorem getF_isNone (f : Frm) (t : Int) : getF f t = none ↔ t ∉ f.map (·.1) := by
  induction f with
  | nil => simp [getF]
  | cons p f ih =>
    rw [getF_cons, List.map_cons, List.mem_cons]
    by_cases h : p.1 = t
    · simp [h]
    · have h2 : ¬ t = p.1 := fun e => h e.symm
      rw [if_neg h, ih]
      simp [h2]
theorem keys_putF (f : Frm) (t v : Int) : (putF f t v).map (·.1) = if t ∈ f.map (·.1) then f.map (·.1) else f.map (·.1) ++ [t] := by
  induction f with
  | nil => simp [putF]
  | cons p f ih =>
    unfold putF
    by_cases h : p.1 = t
    · simp [h]
    · have h2 : ¬ t = p.1 := fun e => h e.symm
      rw [if_neg h, List.map_cons, ih, List.map_cons]
      by_cases hm : t ∈ f.map (·.1)
      · rw [if_pos hm, if_pos (List.mem_cons_of_mem _ hm)]
      · rw [if_neg hm, if_neg (by rw [List.mem_cons]; rintro (e | e); exact h2 e; exact hm e)]; rfl
theorem GoodF.put {f : Frm} (h : GoodF f) {t : Int} (ht : okT t) (v : Int) : GoodF (putF f t v) := by
  refine ⟨?_, ?_⟩
  · rw [keys_putF]
    split
    · exact h.1
    · rename_i hn
      rw [List.nodup_append]
      refine ⟨h.1, by simp, ?_⟩
      intro a ha b hb
      rw [List.mem_singleton] at hb
      subst hb
      rintro rfl
      exact hn ha
  · intro p hp
    have hm : p.1 ∈ (putF f t v).map (·.1) := List.mem_map_of_mem hp
    rw [keys_putF] at hm
    have hk : ∀ k ∈ f.map (·.1), 0 ≤ k ∧ k < 12 := by
      intro k hk
      obtain ⟨q, hq, rfl⟩ := List.mem_map.1 hk
      exact h.2 q hq
    split at hm
    · exact hk _ hm
    · rcases List.mem_append.1 hm with hm | hm
      · exact hk _ hm
      · rw [List.mem_singleton] at hm
        rw [hm]; exact ht
theorem putF_len_eq (f : Frm) (t v : Int) : (putF f t v).length = f.length + if getF f t = none then 1 else 0 := by
  have h := congrArg List.length (keys_putF f t v)
  rw [List.length_map] at h
  rw [h]
  by_cases hm : t ∈ f.map (·.1)
  · rw [if_pos hm, if_neg (by rw [getF_isNone]; exact fun h => h hm), List.length_map]; rfl
  · rw [if_neg hm, if_pos ((getF_isNone f t).2 hm)]; simp
theorem GoodF.merge {x : Frm} : ∀ {y : Frm}, GoodF y → GoodF x → GoodF (mergeF y x) := by
  induction x with
  | nil => intro y hy _; exact hy
  | cons p x ih =>
    intro y hy hx
    exact ih (hy.put (hx.2 p (by simp)) p.2) hx.tail
theorem getF_mergeF {x : Frm} : ∀ {y : Frm}, GoodF x → ∀ t, getF (mergeF y x) t = (getF x t).or (getF y t) := by
  induction x with
  | nil => intro y _ t; rfl
  | cons p x ih =>
    intro y hx t
    have e : mergeF y (p :: x) = mergeF (putF y p.1 p.2) x := rfl
    rw [e, ih hx.tail, getF_put, getF_cons]
    have h1 := hx.1
    rw [List.map_cons, List.nodup_cons] at h1
    by_cases h : p.1 = t
    · subst h
      rw [(getF_isNone x p.1).2 h1.1, if_pos rfl, if_pos rfl]; rfl
    · rw [if_neg h, if_neg (fun e => h e.symm)]
theorem cntK_cons (p : Int × Int) (f : Frm) (k : Nat) : cntK (p :: f) k = cntK f k + if 0 ≤ p.1 ∧ p.1 < k ∧ getF f p.1 = none then 1 else 0 := by
  induction k with
  | zero =>
    rw [if_neg (by rintro ⟨h1, h2, _⟩; simp at h2; omega)]; rfl
  | succ k ih =>
    simp only [cntK]
    rw [ih, getF_cons]
    by_cases h : p.1 = (k : Int)
    · rw [if_neg (show ¬ (0 ≤ p.1 ∧ p.1 < (k : Int) ∧ getF f p.1 = none) by rw [h]; omega), if_pos h, ← h]
      cases hg : getF f p.1 with
      | none => simp; omega
      | some v => simp
    · rw [if_neg h]
      have e : (0 ≤ p.1 ∧ p.1 < (k : Int) ∧ getF f p.1 = none) = (0 ≤ p.1 ∧ p.1 < ((k + 1 : Nat) : Int) ∧ getF f p.1 = none) := by
        apply propext; constructor
        · rintro ⟨a, b, c⟩; exact ⟨a, by omega, c⟩
        · rintro ⟨a, b, c⟩; exact ⟨a, by omega, c⟩
      simp only [e]
      omega
theorem cntK_good {f : Frm} (h : GoodF f) : cntK f 12 = f.length := by
  induction f with
  | nil => rfl
  | cons p f ih =>
    have h1 := h.1
    rw [List.map_cons, List.nodup_cons] at h1
    have h2 := h.2 p (by simp)
    rw [cntK_cons, ih h.tail, if_pos ⟨h2.1, h2.2, (getF_isNone f p.1).2 h1.1⟩]; rfl
theorem lenF_cons (f : Frm) (fs : List Frm) : lenF (f :: fs) = f.length + lenF fs := rfl
theorem cntG_rev (fs : List Frm) (h : ∀ f ∈ fs, GoodF f) : cntG fs.reverse = lenF fs := by
  induction fs with
  | nil => rfl
  | cons f fs ih =>
    have := ih (fun g hg => h g (List.mem_cons_of_mem _ hg))
    have hf := cntK_good (h f (by simp))
    unfold cntG at this ⊢
    rw [List.reverse_cons, List.map_append, List.sum_append, this, lenF_cons]
    simp [hf]; omega
theorem lenAll_eq (xs : Frs) : lenAll xs = (lenF (xs.map (·.2)) : Nat) := by
  induction xs with
  | nil => rfl
  | cons x xs ih =>
    have e : lenAll (x :: xs) = x.2.length + lenAll xs := rfl
    rw [e, ih, List.map_cons, lenF_cons]; omega
theorem getS_eq (xs : Frs) (t : Int) : getS xs t = getL (xs.map (·.2)) t := by
  induction xs with
  | nil => rfl
  | cons x xs ih =>
    rw [getS, List.map_cons, getL, List.findSome?_cons]
    cases getF x.2 t with
    | none => exact ih
    | some v => rfl
theorem getL_cons (f : Frm) (fs : List Frm) (t : Int) : getL (f :: fs) t = (getF f t).or (getL fs t) := by
  rw [getL, List.findSome?_cons]
  cases getF f t <;> rfl
theorem getL_out {fs : List Frm} (h : ∀ f ∈ fs, GoodF f) {t : Int} (ht : ¬ okT t) : getL fs t = none := by
  unfold getL
  rw [List.findSome?_eq_none_iff]
  intro f hf
  rw [getF_isNone]
  intro hm
  obtain ⟨p, hp, rfl⟩ := List.mem_map.1 hm
  exact ht ((h f hf).2 p hp)
theorem rowV_last {ys : List Frm} {f g : Frm} (h : rc f = rc g) : rowV (ys ++ [f]) = rowV (ys ++ [g]) := by
  rw [rowV_append, rowV_append]
  simp [rowV, h]
theorem RLogAt.congr {w : World} {b : Nat} {gs hs : List Frm} (h : RLogAt w b gs) (hl : gs.length = hs.length) (hr : rowV gs = rowV hs) : RLogAt w b hs := by
  unfold RLogAt at h ⊢
  rw [← hl, ← hr]
  exact h
theorem mrg_eq {y x : Frm} (hx : GoodF x) : rc (mrgK y x 12) = rc (mergeF y x) := rc_congr fun k hk => by
  rw [getF_mrgK, if_pos hk, getF_mergeF hx]
/-! ### what another object's change leaves -/
/-- none of these blocks is a part of a frame -/
def Strange (w : World) (S : Nat → Prop) : Prop := ∀ k, S k → w.heap.size ≤ k ∨ ∃ cs t fr, w.heap[k]? = some (.cells cs t fr) ∧ t ≠ 142 ∧ t ≠ 94 ∧ t ≠ 136
theorem Strange.not {w : World} {S : Nat → Prop} (h : Strange w S) {k : Nat} {cs : Array Value} {t : TypeId} {fr : Nat × Nat} (hk : w.heap[k]? = some (.cells cs t fr)) (ht : t = 142 ∨ t = 94 ∨ t = 136) : ¬ S k := by
  intro hS
  have hlt := blk_lt hk
  rcases h k hS with h1 | ⟨cs', t', fr', h1, h2, h3, h4⟩
  · omega
  · rw [hk] at h1
    injection h1 with h1
    injection h1 with _ h1 _
    subst h1
    rcases ht with rfl | rfl | rfl
    · exact h2 rfl
    · exact h3 rfl
    · exact h4 rfl
theorem row_strange {w w' : World} {S : Nat → Prop} {base : Nat} {e : TypeId} {size n : Nat} {v : Value} {xs : List Value} (h : w.ownsRow base e size v n xs) (ho : Only S w w') (hs : Strange w S) (he : e = 142 ∨ e = 94 ∨ e = 136) : w'.ownsRow base e size v n xs := by
  refine ownsRow_only h ho fun k hk hS => ?_
  rcases h.2 with ⟨rfl, _⟩ | ⟨g, cap, cur, rfl, _, hg, _⟩
  · cases hk
  · have : g = k := by simpa [Value.ownBlock] using hk
    subst this
    exact hs.not hg he hS
theorem StackAt.strange {w w' : World} {S : Nat → Prop} (ho : Only S w w') (hs : Strange w S) : ∀ {p : Value} {xs : Frs}, StackAt w p xs → StackAt w' p xs
  | _, [], h => h
  | _, x :: r, ⟨b, q, e, hb, hf, hl, hr⟩ => ⟨b, q, e, ho.blk hb (hs.not hb (.inl rfl)), row_strange hf ho hs (.inr (.inl rfl)), hl, StackAt.strange ho hs hr⟩
theorem LogAt.strange {w w' : World} {S : Nat → Prop} {b : Nat} {xs : Frs} (h : LogAt w b xs) (ho : Only S w w') (hs : Strange w S) (hb : ¬ S b) : LogAt w' b xs := by
  obtain ⟨o, h1, h2, h3⟩ := h
  exact ⟨o, ho.blk h1 hb, h2.strange ho hs, h3⟩
theorem RLogAt.strange {w w' : World} {S : Nat → Prop} {b : Nat} {gs : List Frm} (h : RLogAt w b gs) (ho : Only S w w') (hs : Strange w S) (hb : ¬ S b) : RLogAt w' b gs := by
  obtain ⟨g, cap, h1, h2, h3⟩ := h
  exact ⟨g, cap, ho.blk h1 hb, row_strange h2 ho hs (.inr (.inr rfl)), h3⟩
theorem LogAt.odd {w : World} {b : Nat} {xs : Frs} (h : LogAt w b xs) : Strange w (fun k => k = b) := by
  obtain ⟨o, h1, _⟩ := h
  rintro k rfl
  exact .inr ⟨_, _, _, h1, by decide, by decide, by decide⟩
theorem RLogAt.odd {w : World} {b : Nat} {gs : List Frm} (h : RLogAt w b gs) : Strange w (fun k => k = b) := by
  obtain ⟨g, cap, h1, _⟩ := h
  rintro k rfl
  exact .inr ⟨_, _, _, h1, by decide, by decide, by decide⟩
theorem Strange.or {w : World} {S T : Nat → Prop} (h : Strange w S) (k : Strange w T) : Strange w (fun j => S j ∨ T j) := fun j hj => hj.elim (h j) (k j)
theorem LogAt.lt {w : World} {b : Nat} {xs : Frs} (h : LogAt w b xs) : b < w.heap.size := by
  obtain ⟨o, h1, _⟩ := h
  exact blk_lt h1
theorem LogAt.ne {w : World} {b rb : Nat} {xs : Frs} {gs : List Frm} (h : LogAt w b xs) (k : RLogAt w rb gs) : b ≠ rb := by
  obtain ⟨o, h1, _⟩ := h
  obtain ⟨g, cap, k1, _⟩ := k
  rintro rfl
  rw [h1] at k1
  injection k1 with k1
  injection k1 with _ k1 _
  exact absurd k1 (by decide)
/-- both logs, with the same frames, the uppermost first -/
structure Both (w : World) (b rb : Nat) (fs : List Frm) : Prop where
  l : ∃ xs, xs.map (·.2) = fs ∧ LogAt w b xs
  r : RLogAt w rb fs.reverse
  i : WellS fs
theorem Both.ne {w : World} {b rb : Nat} {fs : List Frm} (h : Both w b rb fs) : b ≠ rb := by
  obtain ⟨xs, _, hl⟩ := h.l
  exact hl.ne h.r
theorem Both.below {w w' : World} {b rb : Nat} {fs : List Frm} (h : Both w b rb fs) (l : Below w.heap.size w w') : Both w' b rb fs := by
  obtain ⟨xs, hx, hl⟩ := h.l
  exact ⟨⟨xs, hx, hl.below l⟩, h.r.below l, h.i⟩
theorem Both.odd {w : World} {b rb : Nat} {fs : List Frm} (h : Both w b rb fs) : Strange w (fun k => k = b ∨ k = rb) := by
  obtain ⟨xs, hx, hl⟩ := h.l
  exact hl.odd.or h.r.odd
theorem Both.blt {w : World} {b rb : Nat} {fs : List Frm} (h : Both w b rb fs) : b < w.heap.size := by
  obtain ⟨xs, hx, hl⟩ := h.l
  exact hl.lt
theorem Both.strange {w w' : World} {S : Nat → Prop} {b rb : Nat} {fs : List Frm} (h : Both w b rb fs) (ho : Only S w w') (hs : Strange w S) (hb : ¬ S b) (hr : ¬ S rb) : Both w' b rb fs := by
  obtain ⟨xs, hx, hl⟩ := h.l
  exact ⟨⟨xs, hx, hl.strange ho hs hb⟩, h.r.strange ho hs hr, h.i⟩
def DoPost (w : World) (b rb : Nat) (e : Ending) (w' : World) : Prop :=
  e = .returned (.bool true) ∧ (∃ fs', Both w' b rb fs') ∧ Only (fun j => j = b ∨ j = rb) w w'
theorem WellS.small {xs : Frs} {fs : List Frm} (h : WellS fs) (hx : xs.map (·.2) = fs) : ∀ x ∈ xs, x.2.length ≤ 16 := by
  intro x hm
  have h1 := h.len
  subst hx
  clear h
  induction xs with
  | nil => cases hm
  | cons y xs ih =>
    rw [List.map_cons, lenF_cons] at h1
    rcases List.mem_cons.1 hm with rfl | hm
    · omega
    · exact ih hm (by omega)
end Go.Proofs.YtganmdbhmihjpaaGreat.Wri
/- The deeds on plain frames; a deed on both, and deeds. -/
namespace Go.Proofs.YtganmdbhmihjpaaGreat.Wri
open Go.RowKit
set_option linter.unusedSimpArgs false
set_option linter.unusedVariables false
set_option maxRecDepth 50000

def LAt (w : World) (b : Nat) (fs : List Frm) : Prop := ∃ xs, xs.map (·.2) = fs ∧ LogAt w b xs
def RAt (w : World) (b : Nat) (fs : List Frm) : Prop := RLogAt w b fs.reverse
def putN (fs : List Frm) (t v : Int) : Int :=
  if ¬ okT t then 2 else if rightVal v = false then 3 else match fs with
    | [] => 0
    | f :: _ => if getF f t = none ∧ 16 ≤ lenF fs then 4 else 0
def putS (fs : List Frm) (t v : Int) : List Frm := if putN fs t v = 0 then (match fs with | [] => [] | f :: r => putF f t v :: r) else fs
def pushN (fs : List Frm) : Int := if 5 ≤ fs.length then 4 else 0
def pushS (fs : List Frm) : List Frm := if 5 ≤ fs.length then fs else [] :: fs
def dropN (fs : List Frm) : Int := if fs.length ≤ 1 then 8 else 0
def dropS (fs : List Frm) : List Frm := if fs.length ≤ 1 then fs else fs.tail
def mergeS : List Frm → List Frm
  | x :: y :: r => mergeF y x :: r
  | fs => fs
theorem WellS.put {fs : List Frm} (h : WellS fs) (t v : Int) : WellS (putS fs t v) := by
  unfold putS
  split
  · rename_i hE
    cases fs with
    | nil => exact h
    | cons f r =>
      have ht : okT t := by
        unfold putN at hE
        by_cases ht : okT t
        · exact ht
        · rw [if_pos ht] at hE; cases hE
      have hl := h.len
      have hs : ¬ (getF f t = none ∧ 16 ≤ lenF (f :: r)) := by
        intro hs
        unfold putN at hE
        rw [if_neg (by simpa using ht)] at hE
        split at hE
        · cases hE
        · simp only [if_pos hs] at hE; cases hE
      refine ⟨?_, ?_⟩
      · intro g hg
        rcases List.mem_cons.1 hg with rfl | hg
        · exact (h.good f (by simp)).put ht v
        · exact h.good g (List.mem_cons_of_mem _ hg)
      · rw [lenF_cons, putF_len_eq]
        rw [lenF_cons] at hs hl
        by_cases hn : getF f t = none
        · rw [if_pos hn]
          have : ¬ 16 ≤ f.length + lenF r := fun h => hs ⟨hn, h⟩
          omega
        · rw [if_neg hn]; omega
  · exact h
theorem WellS.push {fs : List Frm} (h : WellS fs) : WellS (pushS fs) := by
  unfold pushS
  split
  · exact h
  · refine ⟨?_, by rw [lenF_cons]; simpa using h.len⟩
    intro g hg
    rcases List.mem_cons.1 hg with rfl | hg
    · exact GoodF.nil
    · exact h.good g hg
theorem WellS.drop {fs : List Frm} (h : WellS fs) : WellS (dropS fs) := by
  unfold dropS
  split
  · exact h
  · cases fs with
    | nil => exact h
    | cons f r =>
      refine ⟨fun g hg => h.good g (List.mem_cons_of_mem _ hg), ?_⟩
      have := h.len
      rw [lenF_cons] at this
      show lenF r ≤ 16
      omega
theorem WellS.drop_of {f : Frm} {fs : List Frm} (h : WellS (f :: fs)) : WellS fs := by
  refine ⟨fun g hg => h.good g (List.mem_cons_of_mem _ hg), ?_⟩
  have := h.len
  rw [lenF_cons] at this
  omega
theorem WellS.merge {fs : List Frm} (h : WellS fs) : WellS (mergeS fs) := by
  match fs, h with
  | [], h => exact h
  | [x], h => exact h
  | x :: y :: r, h =>
    have hl := h.len
    have := mergeF_len x y
    rw [lenF_cons, lenF_cons] at hl
    refine ⟨?_, by show lenF (mergeF y x :: r) ≤ 16; rw [lenF_cons]; omega⟩
    intro g hg
    rcases List.mem_cons.1 hg with rfl | hg
    · exact (h.good y (by simp)).merge (h.good x (by simp))
    · exact h.good g (List.mem_cons_of_mem _ (List.mem_cons_of_mem _ hg))
def OpPost (w : World) (b : Nat) (A : World → Nat → List Frm → Prop) (n : Int) (fs' : List Frm) (e : Ending) (w' : World) : Prop :=
  e = .returned (.int .i64 n) ∧ Only (fun k => k = b) w w' ∧ A w' b fs'
theorem LAt.ne {w : World} {b : Nat} {fs : List Frm} (h : LAt w b fs) : fs ≠ [] := by
  obtain ⟨xs, rfl, o, _, _, h1, _⟩ := h
  rintro h0
  rw [List.map_eq_nil_iff] at h0
  subst h0
  simp at h1
theorem RAt.ne {w : World} {b : Nat} {fs : List Frm} (h : RAt w b fs) : fs ≠ [] := by
  obtain ⟨_, _, _, _, h1, _⟩ := h
  rintro rfl
  simp at h1
theorem lput_p {w : World} {b : Nat} {fs : List Frm} (h : LAt w b fs) (hi : WellS fs) (t v : Int) (hv : 0 ≤ v ∧ v < 18446744073709551616) :
    Calls Tryz.prog 89 #[ptr b, .int .i64 t, .int .u64 v] w (OpPost w b LAt (putN fs t v) (putS fs t v)) := by
  obtain ⟨xs, hx, h⟩ := h
  have hE : putE xs t v = putN fs t v := by
    subst hx
    unfold putE putN
    by_cases ht : okT t
    · simp only [ht, not_true_eq_false, if_false]
      cases xs with
      | nil => rfl
      | cons x r =>
        have e : (16 ≤ lenAll (x :: r)) = (16 ≤ lenF ((x :: r).map (·.2))) := by rw [lenAll_eq]; apply propext; omega
        simp only [e, List.map_cons]
    · simp only [ht, not_false_eq_true, if_true]
  refine (lput_any w b xs h (fun x hm => by have := hi.small hx x hm; omega) t v hv).mono ?_
  rintro e w' ⟨rfl, ho, hn, hp⟩
  refine ⟨by rw [hE], ho, ?_⟩
  unfold putS
  rw [← hE]
  split
  · rename_i h0
    cases xs with
    | nil => obtain ⟨_, _, _, h1, _⟩ := h; simp at h1
    | cons x r =>
      obtain ⟨u, hL, _⟩ := hp h0 x r rfl
      subst hx
      exact ⟨_, rfl, hL⟩
  · rename_i h0
    exact ⟨xs, hx, hn h0⟩
theorem rput_p {w : World} {b : Nat} {fs : List Frm} (h : RAt w b fs) (hi : WellS fs) (t v : Int) (hv : 0 ≤ v ∧ v < 18446744073709551616) :
    Calls Tryz.prog 96 #[ptr b, .int .i64 t, .int .u64 v] w (OpPost w b RAt (putN fs t v) (putS fs t v)) := by
  cases fs with
  | nil => exact absurd rfl h.ne
  | cons f r =>
    unfold RAt at h
    have hc := cntG_rev (f :: r) hi.good
    rw [List.reverse_cons] at h hc
    have hE : putG (r.reverse ++ [f]) f t v = putN (f :: r) t v := by
      unfold putG putN
      rw [hc]
    refine (rput_any w b _ f h t v hv).mono ?_
    rintro e w' ⟨rfl, ho, hn, hp⟩
    refine ⟨by rw [hE], ho, ?_⟩
    unfold putS RAt
    rw [← hE]
    split
    · rename_i h0
      simpa using hp h0
    · rename_i h0
      simpa using hn h0
theorem lpush_p {w : World} {b : Nat} {fs : List Frm} (h : LAt w b fs) : Calls Tryz.prog 90 #[ptr b] w (OpPost w b LAt (pushN fs) (pushS fs)) := by
  obtain ⟨xs, hx, h⟩ := h
  have hl : xs.length = fs.length := by rw [← hx, List.length_map]
  refine (lpush_any w b xs h).mono ?_
  unfold PushPost pushN pushS
  rw [hl]
  intro e w'
  split
  · rintro ⟨rfl, rfl⟩
    exact ⟨rfl, Only.refl _ _, xs, hx, h⟩
  · rintro ⟨rfl, ho, hL⟩
    exact ⟨rfl, ho, _, by rw [List.map_cons, hx], hL⟩
theorem rpush_p {w : World} {b : Nat} {fs : List Frm} (h : RAt w b fs) : Calls Tryz.prog 97 #[ptr b] w (OpPost w b RAt (pushN fs) (pushS fs)) := by
  refine (rpush_any w b _ h).mono ?_
  unfold RPushPost pushN pushS
  rw [List.length_reverse]
  intro e w'
  split
  · rintro ⟨rfl, rfl⟩
    exact ⟨rfl, Only.refl _ _, h⟩
  · rintro ⟨rfl, ho, hL⟩
    exact ⟨rfl, ho, by unfold RAt; simpa using hL⟩
theorem ldrop_p {w : World} {b : Nat} {fs : List Frm} (h : LAt w b fs) : Calls Tryz.prog 91 #[ptr b] w (OpPost w b LAt (dropN fs) (dropS fs)) := by
  obtain ⟨xs, hx, h⟩ := h
  have hl : xs.length = fs.length := by rw [← hx, List.length_map]
  refine (drop_any w b xs h).mono ?_
  unfold DropPost dropN dropS
  rw [hl]
  intro e w'
  split
  · rintro ⟨rfl, rfl⟩
    exact ⟨rfl, Only.refl _ _, xs, hx, h⟩
  · rintro ⟨rfl, ho, hL⟩
    exact ⟨rfl, ho, _, by rw [← hx, List.map_tail], hL⟩
theorem rdrop_p {w : World} {b : Nat} {fs : List Frm} (h : RAt w b fs) : Calls Tryz.prog 98 #[ptr b] w (OpPost w b RAt (dropN fs) (dropS fs)) := by
  refine (rdrop_any w b _ h).mono ?_
  unfold RDropPost dropN dropS
  rw [List.length_reverse]
  intro e w'
  split
  · rintro ⟨rfl, rfl⟩
    exact ⟨rfl, Only.refl _ _, h⟩
  · rintro ⟨rfl, ho, hL⟩
    exact ⟨rfl, ho, by unfold RAt; rw [List.dropLast_reverse] at hL; exact hL⟩
theorem lmerge_p {w : World} {b : Nat} {fs : List Frm} (h : LAt w b fs) (hi : WellS fs) : Calls Tryz.prog 92 #[ptr b] w (OpPost w b LAt (dropN fs) (mergeS fs)) := by
  obtain ⟨xs, hx, h⟩ := h
  have hl : xs.length = fs.length := by rw [← hx, List.length_map]
  refine (merge_any w b xs h (fun x hm => by have := hi.small hx x hm; omega)).mono ?_
  unfold MergePost dropN
  rw [hl]
  intro e w'
  split
  · rename_i h1
    rintro ⟨rfl, rfl⟩
    refine ⟨rfl, Only.refl _ _, xs, ?_, h⟩
    match fs, h1 with
    | [], _ => exact hx
    | [x], _ => exact hx
  · rintro ⟨x, y, r, u, rfl, rfl, ho, hL, _⟩
    subst hx
    exact ⟨rfl, ho, _, rfl, hL⟩
theorem rmerge_p {w : World} {b : Nat} {fs : List Frm} (h : RAt w b fs) (hi : WellS fs) : Calls Tryz.prog 99 #[ptr b] w (OpPost w b RAt (dropN fs) (mergeS fs)) := by
  refine (rmerge_any w b _ h).mono ?_
  unfold RMergePost dropN
  rw [List.length_reverse]
  intro e w'
  split
  · rename_i h1
    rintro ⟨rfl, rfl⟩
    refine ⟨rfl, Only.refl _ _, ?_⟩
    match fs, h1 with
    | [], _ => exact h
    | [x], _ => exact h
  · rename_i h1
    rintro ⟨ys, g, f, hg, rfl, ho, hL⟩
    refine ⟨rfl, ho, ?_⟩
    match fs, h1 with
    | x :: y :: r, _ =>
      have e1 : r.reverse ++ [y, x] = ys ++ [g, f] := by simpa using hg
      obtain ⟨rfl, e2⟩ := List.append_inj' e1 rfl
      injection e2 with e2 e3
      injection e3 with e3 _
      subst e2 e3
      show RLogAt w' b (mergeF y x :: r).reverse
      rw [List.reverse_cons]
      exact hL.congr (by simp) (rowV_last (mrg_eq (hi.good x (by simp))))

/-- a log none of whose frames lies in V -/
def LAv (V : Nat → Prop) (w : World) (b : Nat) (fs : List Frm) : Prop := ∃ xs, xs.map (·.2) = fs ∧ LogAt w b xs ∧ ∀ x ∈ xs, ∀ k, x.1.ownBlock = some k → ¬ V k
theorem LAv.at {V : Nat → Prop} {w : World} {b : Nat} {fs : List Frm} (h : LAv V w b fs) : LAt w b fs := by
  obtain ⟨xs, hx, hl, _⟩ := h
  exact ⟨xs, hx, hl⟩
theorem lput_v {V : Nat → Prop} {w : World} {b : Nat} {fs : List Frm} (h : LAv V w b fs) (hV : ∀ k, V k → k < w.heap.size) (hi : WellS fs) (t v : Int) (hv : 0 ≤ v ∧ v < 18446744073709551616) :
    Calls Tryz.prog 89 #[ptr b, .int .i64 t, .int .u64 v] w (OpPost w b (LAv V) (putN fs t v) (putS fs t v)) := by
  obtain ⟨xs, hx, h, hn0⟩ := h
  have hE : putE xs t v = putN fs t v := by
    subst hx
    unfold putE putN
    by_cases ht : okT t
    · simp only [ht, not_true_eq_false, if_false]
      cases xs with
      | nil => rfl
      | cons x r =>
        have e : (16 ≤ lenAll (x :: r)) = (16 ≤ lenF ((x :: r).map (·.2))) := by rw [lenAll_eq]; apply propext; omega
        simp only [e, List.map_cons]
    · simp only [ht, not_false_eq_true, if_true]
  refine (lput_any w b xs h (fun x hm => by have := hi.small hx x hm; omega) t v hv).mono ?_
  rintro e w' ⟨rfl, ho, hn, hp⟩
  refine ⟨by rw [hE], ho, ?_⟩
  unfold putS
  rw [← hE]
  split
  · rename_i h0
    cases xs with
    | nil => obtain ⟨_, _, _, h1, _⟩ := h; simp at h1
    | cons x r =>
      obtain ⟨u, hL, hfr⟩ := hp h0 x r rfl
      subst hx
      refine ⟨_, rfl, hL, fun z hz k hk => ?_⟩
      rcases List.mem_cons.1 hz with rfl | hz
      · exact fun hv => Nat.not_lt.2 (hfr k hk) (hV k hv)
      · exact hn0 z (List.mem_cons_of_mem _ hz) k hk
  · rename_i h0
    exact ⟨xs, hx, hn h0, hn0⟩
theorem lpush_v {V : Nat → Prop} {w : World} {b : Nat} {fs : List Frm} (h : LAv V w b fs) (hV : ∀ k, V k → k < w.heap.size) : Calls Tryz.prog 90 #[ptr b] w (OpPost w b (LAv V) (pushN fs) (pushS fs)) := by
  obtain ⟨xs, hx, h, hn0⟩ := h
  have hl : xs.length = fs.length := by rw [← hx, List.length_map]
  refine (lpush_any w b xs h).mono ?_
  unfold PushPost pushN pushS
  rw [hl]
  intro e w'
  split
  · rintro ⟨rfl, rfl⟩
    exact ⟨rfl, Only.refl _ _, xs, hx, h, hn0⟩
  · rintro ⟨rfl, ho, hL⟩
    exact ⟨rfl, ho, _, by rw [List.map_cons, hx], hL, fun z hz k hk => by
      rcases List.mem_cons.1 hz with rfl | hz
      · cases hk
      · exact hn0 z hz k hk⟩
theorem ldrop_v {V : Nat → Prop} {w : World} {b : Nat} {fs : List Frm} (h : LAv V w b fs) (hV : ∀ k, V k → k < w.heap.size) : Calls Tryz.prog 91 #[ptr b] w (OpPost w b (LAv V) (dropN fs) (dropS fs)) := by
  obtain ⟨xs, hx, h, hn0⟩ := h
  have hl : xs.length = fs.length := by rw [← hx, List.length_map]
  refine (drop_any w b xs h).mono ?_
  unfold DropPost dropN dropS
  rw [hl]
  intro e w'
  split
  · rintro ⟨rfl, rfl⟩
    exact ⟨rfl, Only.refl _ _, xs, hx, h, hn0⟩
  · rintro ⟨rfl, ho, hL⟩
    exact ⟨rfl, ho, _, by rw [← hx, List.map_tail], hL, fun z hz k hk => hn0 z (List.mem_of_mem_tail hz) k hk⟩
theorem lmerge_v {V : Nat → Prop} {w : World} {b : Nat} {fs : List Frm} (h : LAv V w b fs) (hV : ∀ k, V k → k < w.heap.size) (hi : WellS fs) : Calls Tryz.prog 92 #[ptr b] w (OpPost w b (LAv V) (dropN fs) (mergeS fs)) := by
  obtain ⟨xs, hx, h, hn0⟩ := h
  have hl : xs.length = fs.length := by rw [← hx, List.length_map]
  refine (merge_any w b xs h (fun x hm => by have := hi.small hx x hm; omega)).mono ?_
  unfold MergePost dropN
  rw [hl]
  intro e w'
  split
  · rename_i h1
    rintro ⟨rfl, rfl⟩
    refine ⟨rfl, Only.refl _ _, xs, ?_, h, hn0⟩
    match fs, h1 with
    | [], _ => exact hx
    | [x], _ => exact hx
  · rintro ⟨x, y, r, u, rfl, rfl, ho, hL, hfr⟩
    subst hx
    refine ⟨rfl, ho, _, rfl, hL, fun z hz k hk => ?_⟩
    rcases List.mem_cons.1 hz with rfl | hz
    · rcases hfr with hfr | rfl
      · exact fun hv => Nat.not_lt.2 (hfr k hk) (hV k hv)
      · exact hn0 y (by simp) k hk
    · exact hn0 z (by simp [hz]) k hk
theorem LAt.strange {w w' : World} {S : Nat → Prop} {b : Nat} {fs : List Frm} (h : LAt w b fs) (ho : Only S w w') (hs : Strange w S) (hb : ¬ S b) : LAt w' b fs := by
  obtain ⟨xs, hx, h⟩ := h
  exact ⟨xs, hx, h.strange ho hs hb⟩
theorem RAt.strange {w w' : World} {S : Nat → Prop} {b : Nat} {fs : List Frm} (h : RAt w b fs) (ho : Only S w w') (hs : Strange w S) (hb : ¬ S b) : RAt w' b fs := RLogAt.strange h ho hs hb
theorem LAt.odd {w : World} {b : Nat} {fs : List Frm} (h : LAt w b fs) : Strange w (fun k => k = b) := by
  obtain ⟨xs, hx, h⟩ := h
  exact h.odd
theorem RAt.odd {w : World} {b : Nat} {fs : List Frm} (h : RAt w b fs) : Strange w (fun k => k = b) := RLogAt.odd h
theorem LAt.below {w w' : World} {b : Nat} {fs : List Frm} (h : LAt w b fs) (l : Below w.heap.size w w') : LAt w' b fs := by
  obtain ⟨xs, hx, h⟩ := h
  exact ⟨xs, hx, h.below l⟩
theorem RAt.below {w w' : World} {b : Nat} {fs : List Frm} (h : RAt w b fs) (l : Below w.heap.size w w') : RAt w' b fs := RLogAt.below h l
/-- one deed on both -/
theorem both_step {w w0 w1 w2 : World} {b rb : Nat} {fs fs' : List Frm} {e : Ending} {n m : Int} (h : Both w b rb fs) (lW : Below w.heap.size w w0) (o1 : Only (fun k => k = b) w0 w1) (h1 : LAt w1 b fs') (o2 : Only (fun k => k = rb) w1 w2) (h2 : RAt w2 rb fs') (hr1 : RAt w1 rb fs) (hi : WellS fs') :
    DoPost w b rb (.returned (.bool true)) w2 := by
  refine ⟨rfl, ⟨fs', ⟨h1.strange o2 hr1.odd (by have := h.ne; exact this), h2, hi⟩⟩, ?_⟩
  have a := (Only.of_below (S := fun j => j = b ∨ j = rb) lW (fun k hk h => by omega)).trans (o1.mono fun k _ e => .inl e)
  exact a.trans (o2.mono fun k _ e => .inr e)
end Go.Proofs.YtganmdbhmihjpaaGreat.Wri
/- What became of attempts, in plain words: events, an attempt's cut, how far it is, what was before what. -/
namespace Go.Proofs.YtganmdbhmihjpaaGreat.His
open Go.RowKit
set_option linter.unusedSimpArgs false
set_option linter.unusedVariables false
set_option maxRecDepth 50000

structure Ev where
  k : Int
  a : Int
  t : Int
  v : Int
def cutL (l : List Ev) (n : Int) : List Ev := l.filter fun x => x.a == n
/-- an event of a kind of an attempt -/
def hasK (l : List Ev) (n k : Int) : Bool := l.any fun x => x.a == n && x.k == k
def stStep (s : Int) (x : Ev) : Int := if x.k = 7 then 2 else if x.k = 8 then 3 else if x.k = 9 then 4 else s
def stFold (l : List Ev) : Int := l.foldl stStep 1
def stateL (l : List Ev) (n : Int) : Int := if hasK l n 1 then stFold (cutL l n) else 0
def endedL (l : List Ev) (n : Int) : Bool := hasK l n 8 || hasK l n 9
/-- had a ended when b began? -/
def beforeL (a b : Int) : List Ev → Bool → Bool
  | [], _ => false
  | x :: l, e => if x.a = b ∧ x.k = 1 then e else beforeL a b l (e || (x.a == a && (x.k == 8 || x.k == 9)))
theorem hasK_snoc (l : List Ev) (x : Ev) (n k : Int) : hasK (l ++ [x]) n k = (hasK l n k || (x.a == n && x.k == k)) := by simp [hasK]
theorem endedL_snoc (l : List Ev) (x : Ev) (n : Int) : endedL (l ++ [x]) n = (endedL l n || (x.a == n && (x.k == 8 || x.k == 9))) := by
  unfold endedL
  rw [hasK_snoc, hasK_snoc]
  cases hasK l n 8 <;> cases hasK l n 9 <;> cases (x.a == n) <;> cases (x.k == 8) <;> cases (x.k == 9) <;> rfl
theorem cutL_snoc (l : List Ev) (x : Ev) (n : Int) : cutL (l ++ [x]) n = cutL l n ++ (if x.a = n then [x] else []) := by
  unfold cutL
  rw [List.filter_append]
  congr 1
  by_cases h : x.a = n <;> simp [h]
theorem cutL_cut (l : List Ev) (n : Int) : cutL (cutL l n) n = cutL l n := by
  unfold cutL
  rw [List.filter_filter]
  congr 1
  funext x
  cases (x.a == n) <;> rfl
theorem hasK_cut (l : List Ev) (n k : Int) : hasK (cutL l n) n k = hasK l n k := by
  unfold hasK cutL
  induction l with
  | nil => rfl
  | cons x l ih =>
    rw [List.filter_cons]
    by_cases h : (x.a == n) = true
    · rw [if_pos h, List.any_cons, List.any_cons, ih]
    · rw [if_neg h, List.any_cons, ih]
      simp at h
      simp [h]
theorem stateL_cut (l : List Ev) (n : Int) : stateL (cutL l n) n = stateL l n := by
  unfold stateL
  rw [hasK_cut, cutL_cut]
/-- the document's side: the first beginning of b, and what is seen ahead of it -/
theorem beforeL_at (a b : Int) : ∀ (l p : List Ev) (i : Nat) (x : Ev), (∀ j y, l[j]? = some y → j < i → ¬ (y.a = b ∧ y.k = 1)) → l[i]? = some x → x.a = b → x.k = 1 → beforeL a b l (endedL p a) = endedL (p ++ l.take i) a := by
  intro l
  induction l with
  | nil => intro p i x _ h; cases h
  | cons y l ih =>
    intro p i x hno hx ha hk
    cases i with
    | zero =>
      simp at hx
      subst hx
      unfold beforeL
      rw [if_pos ⟨ha, hk⟩, List.take_zero, List.append_nil]
    | succ i =>
      unfold beforeL
      rw [if_neg (hno 0 y rfl (by omega)), ← endedL_snoc, ih (p ++ [y]) i x (fun j z hz hj => hno (j + 1) z hz (by omega)) (by simpa using hx) ha hk, List.take_succ_cons, List.append_assoc]
      rfl
theorem beforeL_none (a b : Int) : ∀ (l : List Ev) (e : Bool), (∀ y ∈ l, ¬ (y.a = b ∧ y.k = 1)) → beforeL a b l e = false := by
  intro l
  induction l with
  | nil => intro e _; rfl
  | cons y l ih =>
    intro e h
    unfold beforeL
    rw [if_neg (h y (by simp))]
    exact ih _ fun z hz => h z (List.mem_cons_of_mem _ hz)
theorem stFold_snoc (l : List Ev) (x : Ev) : stFold (l ++ [x]) = stStep (stFold l) x := by simp [stFold]
/-! ### the order -/
/-- what right events have: each begins once, and has no event ahead of its beginning -/
def Well (l : List Ev) : Prop := ∀ (i : Nat) (x : Ev), l[i]? = some x → (x.k = 1 → hasK (l.take i) x.a 1 = false) ∧ (x.k ≠ 1 → hasK (l.take i) x.a 1 = true)
theorem hasK_at {l : List Ev} {n k : Int} : hasK l n k = true ↔ ∃ (i : Nat) (x : Ev), l[i]? = some x ∧ x.a = n ∧ x.k = k := by
  unfold hasK
  rw [List.any_eq_true]
  constructor
  · rintro ⟨x, hx, h⟩
    simp at h
    obtain ⟨i, hi⟩ := List.mem_iff_getElem?.1 hx
    exact ⟨i, x, hi, h.1, h.2⟩
  · rintro ⟨i, x, hi, h1, h2⟩
    exact ⟨x, List.mem_of_getElem? hi, by simp [h1, h2]⟩
theorem before_true {a b : Int} {l : List Ev} (h : beforeL a b l false = true) : ∃ (i : Nat) (x : Ev), l[i]? = some x ∧ x.a = b ∧ x.k = 1 ∧ (∀ (j : Nat) (y : Ev), l[j]? = some y → j < i → ¬ (y.a = b ∧ y.k = 1)) ∧ endedL (l.take i) a = true := by
  by_cases hex : ∃ i : Nat, ∃ y : Ev, l[i]? = some y ∧ y.a = b ∧ y.k = 1
  · have hfirst : ∀ m : Nat, (∃ y : Ev, l[m]? = some y ∧ y.a = b ∧ y.k = 1) → ∃ (i : Nat) (x : Ev), l[i]? = some x ∧ x.a = b ∧ x.k = 1 ∧ ∀ (j : Nat) (y : Ev), l[j]? = some y → j < i → ¬ (y.a = b ∧ y.k = 1) := by
      intro m
      induction m using Nat.strongRecOn with
      | _ m ih =>
        rintro ⟨y, hy, h1, h2⟩
        by_cases hj : ∃ j : Nat, j < m ∧ ∃ z : Ev, l[j]? = some z ∧ z.a = b ∧ z.k = 1
        · obtain ⟨j, hjm, hz⟩ := hj
          exact ih j hjm hz
        · exact ⟨m, y, hy, h1, h2, fun j z hz hjm hh => hj ⟨j, hjm, z, hz, hh⟩⟩
    obtain ⟨m, hm⟩ := hex
    obtain ⟨i, x, hx, ha, hk, hno⟩ := hfirst m hm
    refine ⟨i, x, hx, ha, hk, hno, ?_⟩
    have := beforeL_at a b l [] i x hno hx ha hk
    rw [List.nil_append] at this
    rw [← this]
    exact h
  · rw [beforeL_none a b l false (fun y hy hh => by
      obtain ⟨i, hi⟩ := List.mem_iff_getElem?.1 hy
      exact hex ⟨i, y, hi, hh⟩)] at h
    cases h
theorem ended_at {l : List Ev} {n : Int} (h : endedL l n = true) : ∃ (i : Nat) (x : Ev), l[i]? = some x ∧ x.a = n ∧ (x.k = 8 ∨ x.k = 9) := by
  unfold endedL at h
  rw [Bool.or_eq_true] at h
  rcases h with h | h
  · obtain ⟨i, x, h1, h2, h3⟩ := hasK_at.1 h
    exact ⟨i, x, h1, h2, .inl h3⟩
  · obtain ⟨i, x, h1, h2, h3⟩ := hasK_at.1 h
    exact ⟨i, x, h1, h2, .inr h3⟩
/-- an event of b that is no beginning stands behind b's beginning -/
theorem Well.behind {l : List Ev} (h : Well l) {i j : Nat} {x y : Ev} (hx : l[i]? = some x) (hk : x.k = 1) (hy : l[j]? = some y) (ha : y.a = x.a) (hyk : y.k ≠ 1) : i < j := by
  rcases Nat.lt_or_ge i j with h1 | h1
  · exact h1
  · have h2 := (h j y hy).2 hyk
    have h3 := (h i x hx).1 hk
    obtain ⟨m, z, hz, hza, hzk⟩ := hasK_at.1 h2
    rw [List.getElem?_take] at hz
    split at hz
    · rename_i hm
      have : hasK (l.take i) x.a 1 = true := hasK_at.2 ⟨m, z, by rw [List.getElem?_take, if_pos (by omega)]; exact hz, by rw [hza, ha], hzk⟩
      rw [h3] at this
      cases this
    · cases hz
/-- where the ones ahead end and the ones behind begin -/
theorem before_idx {l : List Ev} (h : Well l) {a b : Int} (hb : beforeL a b l false = true) : ∃ (i j : Nat) (x y : Ev), l[i]? = some x ∧ x.a = a ∧ (x.k = 8 ∨ x.k = 9) ∧ l[j]? = some y ∧ y.a = b ∧ y.k = 1 ∧ i < j := by
  obtain ⟨j, y, hy, h1, h2, _, he⟩ := before_true hb
  obtain ⟨i, x, hx, h3, h4⟩ := ended_at he
  rw [List.getElem?_take] at hx
  split at hx
  · exact ⟨i, j, x, y, hx, h3, h4, hy, h1, h2, by omega⟩
  · cases hx
theorem before_irr {l : List Ev} (h : Well l) (a : Int) : beforeL a a l false = false := by
  cases hb : beforeL a a l false with
  | false => rfl
  | true =>
    obtain ⟨i, j, x, y, hx, h1, h2, hy, h3, h4, h5⟩ := before_idx h hb
    have := h.behind hy h4 hx (by rw [h1, h3]) (by rcases h2 with h2 | h2 <;> omega)
    omega
theorem before_asym {l : List Ev} (h : Well l) {a b : Int} (h1 : beforeL a b l false = true) (h2 : beforeL b a l false = true) : False := by
  obtain ⟨i, j, x, y, hx, a1, a2, hy, a3, a4, a5⟩ := before_idx h h1
  obtain ⟨i', j', x', y', hx', b1, b2, hy', b3, b4, b5⟩ := before_idx h h2
  have c1 := h.behind hy a4 hx' (by rw [b1, a3]) (by rcases b2 with h2 | h2 <;> omega)
  have c2 := h.behind hy' b4 hx (by rw [a1, b3]) (by rcases a2 with h2 | h2 <;> omega)
  omega
theorem before_trans {l : List Ev} (h : Well l) {a b c : Int} (h1 : beforeL a b l false = true) (h2 : beforeL b c l false = true) : beforeL a c l false = true := by
  obtain ⟨m, y, hy, hya, hyk, hno, he⟩ := before_true h2
  have e := beforeL_at a c l [] m y hno hy hya hyk
  rw [List.nil_append, show endedL [] a = false from rfl] at e
  rw [e]
  obtain ⟨i, j, x, z, hx, a1, a2, hz, a3, a4, a5⟩ := before_idx h h1
  obtain ⟨i', x', hx', b1, b2⟩ := ended_at he
  rw [List.getElem?_take] at hx'
  split at hx'
  · have c1 := h.behind hz a4 hx' (by rw [b1, a3]) (by rcases b2 with h2 | h2 <;> omega)
    have hxt : (l.take m)[i]? = some x := by rw [List.getElem?_take, if_pos (by omega)]; exact hx
    unfold endedL
    rw [Bool.or_eq_true]
    rcases a2 with a2 | a2
    · exact .inl (hasK_at.2 ⟨i, x, hxt, a1, a2⟩)
    · exact .inr (hasK_at.2 ⟨i, x, hxt, a1, a2⟩)
  · cases hx'
/-! ### the states -/
def attF (acc : List Int) (x : Ev) : List Int := if x.k = 1 ∧ x.a ∉ acc then acc ++ [x.a] else acc
def attL (l : List Ev) : List Int := l.foldl attF []
theorem attL_snoc (l : List Ev) (x : Ev) : attL (l ++ [x]) = attF (attL l) x := by simp [attL]
theorem mem_attF (n : Int) (l : List Ev) : ∀ acc : List Int, n ∈ l.foldl attF acc ↔ n ∈ acc ∨ hasK l n 1 = true := by
  induction l with
  | nil => intro acc; simp [hasK]
  | cons x l ih =>
    intro acc
    rw [List.foldl_cons, ih]
    have hc : hasK (x :: l) n 1 = ((x.a == n && x.k == 1) || hasK l n 1) := by simp [hasK]
    rw [hc]
    unfold attF
    by_cases h1 : x.k = 1
    · by_cases h2 : x.a = n
      · subst h2
        by_cases h3 : x.a ∈ acc
        · simp [h1, h3]
        · simp [h1, h3]
      · by_cases h3 : x.a ∈ acc
        · simp [h1, h2, h3]
        · have h2' : ¬ n = x.a := fun h => h2 h.symm
          simp [h1, h2, h3, h2']
    · simp [h1]
theorem mem_attL (l : List Ev) (n : Int) : n ∈ attL l ↔ hasK l n 1 = true := by
  unfold attL
  rw [mem_attF]
  simp
theorem stFold_range (l : List Ev) : ∀ s : Int, (s = 1 ∨ s = 2 ∨ s = 3 ∨ s = 4) → (l.foldl stStep s = 1 ∨ l.foldl stStep s = 2 ∨ l.foldl stStep s = 3 ∨ l.foldl stStep s = 4) := by
  induction l with
  | nil => intro s h; exact h
  | cons x l ih =>
    intro s h
    rw [List.foldl_cons]
    refine ih _ ?_
    unfold stStep
    split
    · simp
    · split
      · simp
      · split
        · simp
        · exact h
theorem stateL_range {l : List Ev} {n : Int} (h : n ∈ attL l) : stateL l n = 1 ∨ stateL l n = 2 ∨ stateL l n = 3 ∨ stateL l n = 4 := by
  unfold stateL
  rw [if_pos ((mem_attL l n).1 h)]
  exact stFold_range _ 1 (.inl rfl)
/-- each attempt is in just one state -/
theorem states_sum (g : Int → Int) (l : List Int) (h : ∀ n ∈ l, g n = 1 ∨ g n = 2 ∨ g n = 3 ∨ g n = 4) : (l.filter fun n => g n == 1).length + (l.filter fun n => g n == 2).length + (l.filter fun n => g n == 3).length + (l.filter fun n => g n == 4).length = l.length := by
  induction l with
  | nil => rfl
  | cons n l ih =>
    have ih' := ih fun m hm => h m (List.mem_cons_of_mem _ hm)
    have hn := h n (by simp)
    simp only [List.filter_cons, List.length_cons]
    rcases hn with hn | hn | hn | hn <;> (simp [hn]; omega)
/-- what right events have: behind an attempt's end it has no event -/
def Done (l : List Ev) : Prop := ∀ (i : Nat) (x : Ev), l[i]? = some x → endedL (l.take i) x.a = false
theorem stFold_end (l : List Ev) : ∀ s : Int, s ≠ 3 → s ≠ 4 → (l.foldl stStep s = 3 ∨ l.foldl stStep s = 4) → ∃ x ∈ l, x.k = 8 ∨ x.k = 9 := by
  induction l with
  | nil => intro s h3 h4 h; rcases h with h | h; exact absurd h h3; exact absurd h h4
  | cons x l ih =>
    intro s h3 h4 h
    by_cases h8 : x.k = 8
    · exact ⟨x, by simp, .inl h8⟩
    by_cases h9 : x.k = 9
    · exact ⟨x, by simp, .inr h9⟩
    rw [List.foldl_cons] at h
    have hs : stStep s x ≠ 3 ∧ stStep s x ≠ 4 := by
      unfold stStep
      rw [if_neg h8, if_neg h9]
      split
      · decide
      · exact ⟨h3, h4⟩
    obtain ⟨y, hy, hk⟩ := ih _ hs.1 hs.2 h
    exact ⟨y, List.mem_cons_of_mem _ hy, hk⟩
theorem state_stays {l : List Ev} (h : Done l) (k : Nat) (n : Int) (hs : stateL (l.take k) n = 3 ∨ stateL (l.take k) n = 4) : stateL l n = stateL (l.take k) n := by
  have hb : hasK (l.take k) n 1 = true := by
    cases hb : hasK (l.take k) n 1
    · unfold stateL at hs
      rw [hb] at hs
      simp at hs
    · rfl
  have hst : stateL (l.take k) n = stFold (cutL (l.take k) n) := by unfold stateL; rw [if_pos hb]
  rw [hst] at hs
  obtain ⟨x, hx, hk⟩ := stFold_end _ 1 (by decide) (by decide) hs
  obtain ⟨hx1, hx2⟩ := List.mem_filter.1 hx
  obtain ⟨i, hi⟩ := List.mem_iff_getElem?.1 hx1
  have he : endedL (l.take k) n = true := by
    unfold endedL
    rw [Bool.or_eq_true]
    rcases hk with hk | hk
    · exact .inl (hasK_at.2 ⟨i, x, hi, by simpa using hx2, hk⟩)
    · exact .inr (hasK_at.2 ⟨i, x, hi, by simpa using hx2, hk⟩)
  have hnone : ∀ y ∈ l.drop k, ¬ y.a = n := by
    intro y hy hya
    obtain ⟨j, hj⟩ := List.mem_iff_getElem?.1 hy
    rw [List.getElem?_drop] at hj
    have := h (k + j) y hj
    rw [hya] at this
    obtain ⟨i2, x2, hx2, e1, e2⟩ := ended_at he
    have hx3 : (l.take (k + j))[i2]? = some x2 := by
      rw [List.getElem?_take] at hx2 ⊢
      split at hx2
      · rw [if_pos (by omega)]; exact hx2
      · cases hx2
    have ht : endedL (l.take (k + j)) n = true := by
      unfold endedL
      rw [Bool.or_eq_true]
      rcases e2 with e2 | e2
      · exact .inl (hasK_at.2 ⟨i2, x2, hx3, e1, e2⟩)
      · exact .inr (hasK_at.2 ⟨i2, x2, hx3, e1, e2⟩)
    rw [this] at ht
    cases ht
  have hcut : cutL l n = cutL (l.take k) n := by
    conv => lhs; rw [← List.take_append_drop k l]
    unfold cutL
    rw [List.filter_append]
    have : (l.drop k).filter (fun x => x.a == n) = [] := by
      rw [List.filter_eq_nil_iff]
      intro y hy
      simpa using hnone y hy
    rw [this, List.append_nil]
  have hbl : hasK l n 1 = true := by
    obtain ⟨i3, x3, h3, h4, h5⟩ := hasK_at.1 hb
    rw [List.getElem?_take] at h3
    split at h3
    · exact hasK_at.2 ⟨i3, x3, h3, h4, h5⟩
    · cases h3
  rw [hst]
  unfold stateL
  rw [if_pos hbl, hcut]
end Go.Proofs.YtganmdbhmihjpaaGreat.His
/- Events in memory; Before, seen. -/
namespace Go.Proofs.YtganmdbhmihjpaaGreat.His
open Go.RowKit
set_option linter.unusedSimpArgs false
set_option linter.unusedVariables false
set_option maxRecDepth 50000

/-- some events -/
def EvsIn (w : World) (a : Option Addr) (n : Nat) (l : List Ev) : Prop :=
  l.length = n ∧ (n = 0 ∨ ∃ b off, a = some ⟨b, off, none⟩ ∧ ∀ i, i < n → ∃ x, l[i]? = some x ∧ w.cell? ⟨b, off + i * 4, none⟩ = some (.int .u8 x.k) ∧ w.cell? ⟨b, off + i * 4 + 1, none⟩ = some (.int .i64 x.a) ∧ w.cell? ⟨b, off + i * 4 + 2, none⟩ = some (.int .i64 x.t) ∧ w.cell? ⟨b, off + i * 4 + 3, none⟩ = some (.int .u64 x.v))
theorem EvsIn.below {w w' : World} {a : Option Addr} {n : Nat} {l : List Ev} (h : EvsIn w a n l) (hl : Below w.heap.size w w') : EvsIn w' a n l :=
  ⟨h.1, h.2.imp id fun ⟨b, off, e, hc⟩ => ⟨b, off, e, fun i hi => by
    obtain ⟨x, h0, h1, h2, h3, h4⟩ := hc i hi
    exact ⟨x, h0, bkeep hl h1, bkeep hl h2, bkeep hl h3, bkeep hl h4⟩⟩⟩
theorem drop_at {l : List Ev} {k : Nat} {x : Ev} (h : l[k]? = some x) : l.drop k = x :: l.drop (k + 1) := by
  have hi := (List.getElem?_eq_some_iff.1 h).1
  have e : l[k] = x := by rw [List.getElem?_eq_getElem hi] at h; injection h
  rw [← e, ← List.drop_eq_getElem_cons hi]
theorem take_at {l : List Ev} {k : Nat} {x : Ev} (h : l[k]? = some x) : l.take (k + 1) = l.take k ++ [x] := by
  rw [List.take_add_one, h]; rfl
set_option maxHeartbeats 1600000 in
theorem before_any (w : World) (p : Option Addr) (n c : Nat) (l : List Ev) (h : EvsIn w p n l) (hn : n ≤ 1000000) (a b : Int) :
    Calls Tryz.prog 40 #[.slice p n c, .int .i64 a, .int .i64 b] w fun e w' => e = .returned (.bool (beforeL a b l false)) ∧ Below w.heap.size w w' := by
  have H := Lib.hid h
  have HL := Lib.hid h.1
  obtain ⟨r, hr⟩ : ∃ r, beforeL a b l false = r := ⟨_, rfl⟩
  have HR := Lib.hid hr
  rw [hr]
  clear h hr
  go_enter Tryz.func40, Tryz.ntmps40
  go_wp2_with fail
  go_loopw [7, 12] (fun v i wr => ∃ (k : Nat) (e : Bool), i = .int .i64 k ∧ v = .bool e ∧ k ≤ n ∧ Below w.heap.size w wr ∧ beforeL a b (l.drop k) e = r) (fun _ i _ => n - (intOf i).toNat)
  case atStart => exact ⟨0, false, rfl, rfl, Nat.zero_le _, Below.refl _ _, HR.out⟩
  case round =>
    obtain ⟨k, e, rfl, rfl, hk, hB, hE⟩ := hrel
    have HB := Lib.hid hB; have HE := Lib.hid hE
    clear hB hE
    by_cases hlt : k < n
    · obtain ⟨g, off, rfl, hc⟩ := H.out.2.resolve_left (by omega)
      obtain ⟨x, hx, c0, c1, c2, c3⟩ := hc k hlt
      replace c0 := bkeep HB.out c0; replace c1 := bkeep HB.out c1; replace c2 := bkeep HB.out c2; replace c3 := bkeep HB.out c3
      have HE2 := Lib.hid (show beforeL a b (x :: l.drop (k + 1)) e = r by rw [← drop_at hx]; exact HE.out)
      obtain ⟨xk, xa, xt, xv⟩ := x
      simp only at c0 c1 c2 c3
      have hw1 : IntKind.i64.wrap ((k : Int) + 1) = (k : Int) + 1 := by rw [IntKind.wrap_i64]; omega
      clear hc hx HE
      cases e1 : (xa == b && xk == 1)
      · have HE3 := Lib.hid (show beforeL a b (l.drop (k + 1)) (e || (xa == a && (xk == 8 || xk == 9))) = r by
          have := HE2.out
          unfold beforeL at this
          rw [if_neg (by simpa using e1)] at this
          exact this)
        cases e3 : (xa == b) <;> cases e4 : (xk == 1)
        case true.true => rw [e3, e4] at e1; cases e1
        all_goals
          cases f1 : (xa == a) <;> cases f2 : (xk == 8) <;> cases f3 : (xk == 9)
          all_goals
            have HE4 := HE3
            rw [f1, f2, f3] at HE4
            clear e1 HE3
            go_wp2_with fail
            exact ⟨⟨k + 1, _, by go_num, rfl, by omega, btrans HB.out (Nat.le_refl _) (by repeat (first | (with_reducible exact Below.refl _ _) | (with_reducible apply Below.drew) | (with_reducible refine below_drewN ?_ _) | (with_reducible refine below_alloc' ?_ ?_ _; (focus ((try simp) <;> omega))) | (with_reducible refine below_set' ?_ ?_ _; (focus ((try simp) <;> omega))))), by simpa using HE4.out⟩, by simp [intOf]; omega⟩
      · rw [Bool.and_eq_true] at e1
        obtain ⟨e2, e3⟩ := e1
        have hr : r = e := by
          rw [← HE2.out]
          unfold beforeL
          rw [if_pos ⟨by simpa using e2, by simpa using e3⟩]
        go_wp2_with fail
        go_ret
        exact ⟨by rw [hr]; rfl, btrans HB.out (Nat.le_refl _) (by repeat (first | (with_reducible exact Below.refl _ _) | (with_reducible apply Below.drew) | (with_reducible refine below_drewN ?_ _) | (with_reducible refine below_alloc' ?_ ?_ _; (focus ((try simp) <;> omega))) | (with_reducible refine below_set' ?_ ?_ _; (focus ((try simp) <;> omega)))))⟩
    · obtain rfl : k = n := by omega
      have hr : r = false := by rw [← HE.out, List.drop_of_length_le (by rw [HL.out]; exact Nat.le_refl _)]; rfl
      go_wp2_with fail
      go_ret
      exact ⟨by rw [hr]; rfl, HB.out⟩
end Go.Proofs.YtganmdbhmihjpaaGreat.His
