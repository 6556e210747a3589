/- Put of a log. -/
import Derived.Test.YtgjemjogncnbnaaWriD
import Derived.Test.YtgjemjogncnbnaaHeld
namespace Go.Proofs.Ytgjemjogncnbnaa.Wri
open Go.RowKit
set_option linter.unusedSimpArgs false
set_option linter.unusedVariables false
set_option maxRecDepth 50000

def okT (t : Int) : Prop := 0 ≤ t ∧ t < 12
instance (t : Int) : Decidable (okT t) := inferInstanceAs (Decidable (_ ∧ _))
def putE (xs : Frs) (t v : Int) : Int :=
  if ¬ okT t then 2 else if rightVal v = false then 3 else match xs with
    | [] => 0
    | x :: _ => if getF x.2 t = none ∧ 16 ≤ lenAll xs then 4 else 0
def PutPost (w : World) (b : Nat) (xs : Frs) (t v : Int) (e : Ending) (w' : World) : Prop :=
  e = .returned (.int .i64 (putE xs t v)) ∧ Only (fun k => k = b) w w' ∧ (putE xs t v ≠ 0 → LogAt w' b xs) ∧
    (putE xs t v = 0 → ∀ x r, xs = x :: r → ∃ u, LogAt w' b ((u, putF x.2 t v) :: r) ∧ Fr w u)
theorem put_range (w : World) (b : Nat) (t v : Int) (h : ¬ okT t) : Calls Try.prog 51 #[ptr b, .int .i64 t, .int .u64 v] w fun e w' => e = .returned (.int .i64 2) ∧ w = w' := by
  by_cases h0 : t < 0
  · have hd : decide (t < 0) = true := by simpa using h0
    go_enter Try.func51, Try.ntmps51
    go_wp2
    go_ret
    exact ⟨rfl, rfl⟩
  · have hd : decide (t < 0) = false := by simpa using h0
    have hd2 : decide (12 ≤ t) = true := by simp; unfold okT at h; omega
    go_enter Try.func51, Try.ntmps51
    go_wp2
    go_ret
    exact ⟨rfl, rfl⟩
theorem put_form (w : World) (b : Nat) (t v : Int) (h : okT t) (hv : 0 ≤ v ∧ v < 18446744073709551616) (hr : rightVal v = false) : Calls Try.prog 51 #[ptr b, .int .i64 t, .int .u64 v] w fun e w' => e = .returned (.int .i64 3) ∧ w = w' := by
  have hd : decide (t < 0) = false := by simp; exact h.1
  have hd2 : decide (12 ≤ t) = false := by simp; exact h.2
  have hR := vRight_any w v hv
  rw [hr] at hR
  have HR := Lib.hid hR
  clear hR hr
  go_enter Try.func51, Try.ntmps51
  go_wp2_with fail; refine (HR.out).mono ?_; rintro e w0 ⟨rfl, rfl⟩
  go_wp2_with fail
  go_ret
  exact ⟨rfl, rfl⟩
set_option maxHeartbeats 1600000 in
theorem put_space (w : World) (b : Nat) (x : Value × Frm) (r : Frs) (t v : Int) (h : LogAt w b (x :: r)) (ht : okT t) (hv : 0 ≤ v ∧ v < 18446744073709551616) (hr : rightVal v = true) (hn : getF x.2 t = none) (hl : 16 ≤ lenAll (x :: r)) :
    Calls Try.prog 51 #[ptr b, .int .i64 t, .int .u64 v] w fun e w' => e = .returned (.int .i64 4) ∧ Below w.heap.size w w' := by
  have hd : decide (t < 0) = false := by simp; exact ht.1
  have hd2 : decide (12 ≤ t) = false := by simp; exact ht.2
  have hR := vRight_any w v hv
  rw [hr] at hR
  have HR := Lib.hid hR
  have HLOG := Lib.hid h
  obtain ⟨o, hb, hS, hx1, hx5⟩ := h
  obtain ⟨nb, q, e0, hnn, hf, hfl, hrr⟩ := hS
  injection e0 with e0
  subst e0
  have b0 := blk_cell hb 0
  have n0 := blk_cell hnn 0
  simp only [List.getElem?_toArray, List.getElem?_cons_zero] at b0 n0
  have hG := get_any w x.1 x.2 hf hfl t
  rw [hn] at hG
  have HG := Lib.hid hG
  have hle : decide (16 ≤ lenAll (x :: r)) = true := by simpa using hl
  have HLE := Lib.hid (show ∀ W, LogAt W b (x :: r) → Calls Try.prog 67 #[ptr b] W fun e w' => e = .returned (.int .i64 (lenAll (x :: r))) ∧ Below W.heap.size W w' from fun W h => len_any W b _ h)
  obtain ⟨L, hL⟩ : ∃ L, lenAll (x :: r) = L := ⟨_, rfl⟩
  rw [hL] at HLE hle
  clear hR hr hb hnn hf hrr hG hL hl hn
  go_enter Try.func51, Try.ntmps51
  go_wp2_with fail; refine (HR.out).mono ?_; rintro e w0 ⟨rfl, rfl⟩
  go_wp2_with fail
  refine HG.out.mono ?_
  rintro e w1 ⟨rfl, l1⟩
  have HL1 := Lib.hid l1; have HLG1 := Lib.hid (HLOG.out.below l1)
  clear l1 b0 n0
  simp only [Option.getD_none, Option.isSome_none]
  go_wp2_with fail
  refine (HLE.out w1 HLG1.out).mono ?_
  rintro e w2 ⟨rfl, l2⟩
  have HL2 := Lib.hid (btrans HL1.out (Nat.le_refl _) l2)
  clear l2
  go_wp2_with fail
  go_ret
  exact ⟨rfl, HL2.out⟩
/-- the last part of Put: the new frame is laid over the others -/
def PutDone (w : World) (b : Nat) (x : Value × Frm) (r : Frs) (t v : Int) (e : Ending) (w' : World) : Prop :=
  e = .returned (.int .i64 0) ∧ Only (fun k => k = b) w w' ∧ ∃ u, LogAt w' b ((u, putF x.2 t v) :: r) ∧ Fr w u
set_option maxHeartbeats 1600000 in
theorem put_done (w : World) (b : Nat) (x : Value × Frm) (r : Frs) (t v : Int) (h : LogAt w b (x :: r)) (hx9 : x.2.length ≤ 900) (ht : okT t) (hv : 0 ≤ v ∧ v < 18446744073709551616) (hr : rightVal v = true) (hn : ¬ (getF x.2 t = none ∧ 16 ≤ lenAll (x :: r))) :
    Calls Try.prog 51 #[ptr b, .int .i64 t, .int .u64 v] w (PutDone w b x r t v) := by
  have hd : decide (t < 0) = false := by simp; exact ht.1
  have hd2 : decide (12 ≤ t) = false := by simp; exact ht.2
  have hR := vRight_any w v hv
  rw [hr] at hR
  have HR := Lib.hid hR
  have HLOG := Lib.hid h
  obtain ⟨o, hb, hS, hx1, hx5⟩ := h
  obtain ⟨nb, q, e0, hnn, hf, hfl, hrr⟩ := hS
  obtain ⟨oq, rfl⟩ := hrr.isPtr
  injection e0 with e0
  subst e0
  have b0 := blk_cell hb 0
  have n0 := blk_cell hnn 0; have n1 := blk_cell hnn 1
  simp only [List.getElem?_toArray, List.getElem?_cons_zero, List.getElem?_cons_succ] at b0 n0 n1
  have hG := get_any w x.1 x.2 hf hfl t
  have HB := Lib.hid hb; have HN := Lib.hid hnn; have HF := Lib.hid hf; have HRR := Lib.hid hrr
  have HLE := Lib.hid (show ∀ W, LogAt W b (x :: r) → Calls Try.prog 67 #[ptr b] W fun e w' => e = .returned (.int .i64 (lenAll (x :: r))) ∧ Below W.heap.size W w' from fun W h => len_any W b _ h)
  have KW := Lib.hid (show ∀ w', Below w.heap.size w w' → (w'.cell? ⟨b, 0, none⟩ = some (ptr nb) ∧ w'.cell? ⟨nb, 0, none⟩ = some x.1 ∧ w'.cell? ⟨nb, 1, none⟩ = some (.pointer oq)) from fun w' h => ⟨bkeep h b0, bkeep h n0, bkeep h n1⟩)
  have KF := Lib.hid (show ∀ w', Below w.heap.size w w' → ∀ i, w'.frozen? ⟨b, i, none⟩ = false from fun w' h => blk_free (bblk h HB.out))
  have HPUT := Lib.hid (show ∀ W, Below w.heap.size w W → Calls Try.prog 66 #[x.1, .agg #[.int .i64 t, .int .u64 v]] W fun e w' => ∃ a n c, e = .returned (.slice a n c) ∧ FrAt w' (.slice a n c) (putF x.2 t v) ∧ Below W.heap.size W w' ∧ Fr W (.slice a n c) from fun W hl => put_any W x.1 x.2 (frAt_below (w := w) HF.out hl) hx9 t v)
  have hpl := putF_len x.2 t v
  unfold PutDone
  cases hg : getF x.2 t with
  | some g0 =>
    rw [hg] at hG
    have HG := Lib.hid hG
    clear hR hr hb hnn hf hrr hG hn hg HLE
    go_enter Try.func51, Try.ntmps51
    go_wp2_with fail; refine (HR.out).mono ?_; rintro e w0 ⟨rfl, rfl⟩
    go_wp2_with fail
    refine HG.out.mono ?_
    rintro e WW ⟨rfl, l1⟩
    have HLW := Lib.hid l1
    clear l1 b0 n0 n1
    simp only [Option.getD_some, Option.isSome_some]
    go_wp2_with fail
    have QL := btrans HLW.out (Nat.le_refl _) (show Below WW.heap.size WW WW.drew from (Below.refl _ _).drew)
    refine wp_region_F (fun w' => w'.cell? ⟨b, 0, none⟩ = some (ptr nb) ∧ w'.cell? ⟨nb, 0, none⟩ = some x.1 ∧ w'.cell? ⟨nb, 1, none⟩ = some (.pointer oq)) 22 (by kernel_rfl) ?_
    have hS0 := KW.out WW.drew QL
    refine wpAnyF_take (i := 0) (v := ?_) rfl (by kernel_rfl) (by kernel_rfl) (by kernel_rfl) (by kernel_rfl) (fun _ _ _ h => h) (Or.inl ⟨by rfl, ?_⟩) (by assumption) ?_; rotate_left; (focus (intro w hSw; (skip); (first | (go_simp; done) | (go_simp; with_reducible rfl)))); (try simp only [Act.put, List.setIfInBounds_toArray, List.set_cons_zero, List.set_cons_succ])
    refine wpAnyF_take (i := 1) (v := ?_) rfl (by kernel_rfl) (by kernel_rfl) (by kernel_rfl) (by kernel_rfl) (fun _ _ _ h => h) (Or.inl ⟨by rfl, ?_⟩) (by assumption) ?_; rotate_left; (focus (intro w hSw; (skip); (first | (go_simp; done) | (go_simp; with_reducible rfl)))); (try simp only [Act.put, List.setIfInBounds_toArray, List.set_cons_zero, List.set_cons_succ])
    refine wpAnyF_take (i := 2) (v := ?_) rfl (by kernel_rfl) (by kernel_rfl) (by kernel_rfl) (by kernel_rfl) (fun _ _ _ h => h) (Or.inl ⟨by rfl, ?_⟩) (by assumption) ?_; rotate_left; (focus (intro w hSw; (skip); (first | (go_simp; done) | (go_simp; with_reducible rfl)))); (try simp only [Act.put, List.setIfInBounds_toArray, List.set_cons_zero, List.set_cons_succ])
    refine wpAnyF_take (i := 3) (v := ?_) rfl (by kernel_rfl) (by kernel_rfl) (by kernel_rfl) (by kernel_rfl) (fun _ _ _ h => h) (Or.inl ⟨by rfl, ?_⟩) (by assumption) ?_; rotate_left; (focus (intro w hSw; (skip); (first | (go_simp; done) | (go_simp; with_reducible rfl)))); (try simp only [Act.put, List.setIfInBounds_toArray, List.set_cons_zero, List.set_cons_succ])
    refine wpAnyF_take (i := 4) (v := ?_) rfl (by kernel_rfl) (by kernel_rfl) (by kernel_rfl) (by kernel_rfl) (fun _ _ _ h => h) (Or.inl ⟨by rfl, ?_⟩) (by assumption) ?_; rotate_left; (focus (intro w hSw; (obtain ⟨q0, q1, q2⟩ := hSw); (first | (go_simp; done) | (go_simp; with_reducible rfl)))); (try simp only [Act.put, List.setIfInBounds_toArray, List.set_cons_zero, List.set_cons_succ])
    refine wpAnyF_take (i := 5) (v := ?_) rfl (by kernel_rfl) (by kernel_rfl) (by kernel_rfl) (by kernel_rfl) (fun _ _ _ h => h) (Or.inl ⟨by rfl, ?_⟩) (by assumption) ?_; rotate_left; (focus (intro w hSw; (skip); (first | (go_simp; done) | (go_simp; with_reducible rfl)))); (try simp only [Act.put, List.setIfInBounds_toArray, List.set_cons_zero, List.set_cons_succ])
    refine wpAnyF_take (i := 6) (v := ?_) rfl (by kernel_rfl) (by kernel_rfl) (by kernel_rfl) (by kernel_rfl) (fun _ _ _ h => h) (Or.inl ⟨by rfl, ?_⟩) (by assumption) ?_; rotate_left; (focus (intro w hSw; (skip); (first | (go_simp; done) | (go_simp; with_reducible rfl)))); (try simp only [Act.put, List.setIfInBounds_toArray, List.set_cons_zero, List.set_cons_succ])
    refine wpAnyF_take (i := 7) (v := ?_) rfl (by kernel_rfl) (by kernel_rfl) (by kernel_rfl) (by kernel_rfl) (fun _ _ _ h => h) (Or.inl ⟨by rfl, ?_⟩) (by assumption) ?_; rotate_left; (focus (intro w hSw; (obtain ⟨q0, q1, q2⟩ := hSw); (first | (go_simp; done) | (go_simp; with_reducible rfl)))); (try simp only [Act.put, List.setIfInBounds_toArray, List.set_cons_zero, List.set_cons_succ])
    refine wpAnyF_take (i := 8) (v := ?_) rfl (by kernel_rfl) (by kernel_rfl) (by kernel_rfl) (by kernel_rfl) (fun _ _ _ h => h) (Or.inl ⟨by rfl, ?_⟩) (by assumption) ?_; rotate_left; (focus (intro w hSw; (skip); (first | (go_simp; done) | (go_simp; with_reducible rfl)))); (try simp only [Act.put, List.setIfInBounds_toArray, List.set_cons_zero, List.set_cons_succ])
    refine wpAnyF_take (i := 9) (v := ?_) rfl (by kernel_rfl) (by kernel_rfl) (by kernel_rfl) (by kernel_rfl) (fun _ _ _ h => h) (Or.inl ⟨by rfl, ?_⟩) (by assumption) ?_; rotate_left; (focus (intro w hSw; (skip); (first | (go_simp; done) | (go_simp; with_reducible rfl)))); (try simp only [Act.put, List.setIfInBounds_toArray, List.set_cons_zero, List.set_cons_succ])
    refine wpAnyF_take (i := 10) (v := ?_) rfl (by kernel_rfl) (by kernel_rfl) (by kernel_rfl) (by kernel_rfl) (fun _ _ _ h => h) (Or.inl ⟨by rfl, ?_⟩) (by assumption) ?_; rotate_left; (focus (intro w hSw; (skip); (first | (go_simp; done) | (go_simp; with_reducible rfl)))); (try simp only [Act.put, List.setIfInBounds_toArray, List.set_cons_zero, List.set_cons_succ])
    refine wpAnyF_take (i := 11) (v := ?_) rfl (by kernel_rfl) (by kernel_rfl) (by kernel_rfl) (by kernel_rfl) (fun _ _ _ h => h) (Or.inl ⟨by rfl, ?_⟩) (by assumption) ?_; rotate_left; (focus (intro w hSw; (obtain ⟨q0, q1, q2⟩ := hSw); (first | (go_simp; done) | (go_simp; with_reducible rfl)))); (try simp only [Act.put, List.setIfInBounds_toArray, List.set_cons_zero, List.set_cons_succ])
    refine wpAnyF_take (i := 12) (v := ?_) rfl (by kernel_rfl) (by kernel_rfl) (by kernel_rfl) (by kernel_rfl) (fun _ _ _ h => h) (Or.inl ⟨by rfl, ?_⟩) (by assumption) ?_; rotate_left; (focus (intro w hSw; (skip); (first | (go_simp; done) | (go_simp; with_reducible rfl)))); (try simp only [Act.put, List.setIfInBounds_toArray, List.set_cons_zero, List.set_cons_succ])
    refine wpAnyF_take (i := 13) (v := ?_) rfl (by kernel_rfl) (by kernel_rfl) (by kernel_rfl) (by kernel_rfl) (fun _ _ _ h => h) (Or.inl ⟨by rfl, ?_⟩) (by assumption) ?_; rotate_left; (focus (intro w hSw; (skip); (first | (go_simp; done) | (go_simp; with_reducible rfl)))); (try simp only [Act.put, List.setIfInBounds_toArray, List.set_cons_zero, List.set_cons_succ])
    refine wpAnyF_take (i := 14) (v := ?_) rfl (by kernel_rfl) (by kernel_rfl) (by kernel_rfl) (by kernel_rfl) (fun _ _ _ h => h) (Or.inl ⟨by rfl, ?_⟩) (by assumption) ?_; rotate_left; (focus (intro w hSw; (obtain ⟨q0, q1, q2⟩ := hSw); (first | (go_simp; done) | (go_simp; with_reducible rfl)))); (try simp only [Act.put, List.setIfInBounds_toArray, List.set_cons_zero, List.set_cons_succ])
    refine wpAnyF_take (i := 15) (v := ?_) rfl (by kernel_rfl) (by kernel_rfl) (by kernel_rfl) (by kernel_rfl) (fun _ _ _ h => h) (Or.inl ⟨by rfl, ?_⟩) (by assumption) ?_; rotate_left; (focus (intro w hSw; (skip); (first | (go_simp; done) | (go_simp; with_reducible rfl)))); (try simp only [Act.put, List.setIfInBounds_toArray, List.set_cons_zero, List.set_cons_succ])
    refine wpAnyF_take (i := 16) (v := ?_) rfl (by kernel_rfl) (by kernel_rfl) (by kernel_rfl) (by kernel_rfl) (fun _ _ _ h => h) (Or.inl ⟨by rfl, ?_⟩) (by assumption) ?_; rotate_left; (focus (intro w hSw; (skip); (first | (go_simp; done) | (go_simp; with_reducible rfl)))); (try simp only [Act.put, List.setIfInBounds_toArray, List.set_cons_zero, List.set_cons_succ])
    refine wpAnyF_take (i := 17) (v := ?_) rfl (by kernel_rfl) (by kernel_rfl) (by kernel_rfl) (by kernel_rfl) (fun _ _ _ h => h) (Or.inl ⟨by rfl, ?_⟩) (by assumption) ?_; rotate_left; (focus (intro w hSw; (skip); (first | (go_simp; done) | (go_simp; with_reducible rfl)))); (try simp only [Act.put, List.setIfInBounds_toArray, List.set_cons_zero, List.set_cons_succ])
    refine wpAnyF_ready (rs := [18]) (by kernel_rfl) (by simp) ?_
    refine AllF.cons rfl (fun K hK => ?_) AllF.nil
    go_simp
    refine (HPUT.out _ QL).mono ?_
    rintro e w3 ⟨fa, fn, fc, rfl, hfr, l3, hfs⟩
    have HFS := Lib.hid (show Fr w (.slice fa fn fc) from fun k hk => Nat.le_trans QL.size (hfs k hk))
    clear hfs
    have LB3 := btrans QL (Nat.le_refl _) l3
    dsimp only
    refine hK.out _ _ (fun _ => KW.out _ LB3) ?_; clear hK K; (try simp only [Act.put, List.setIfInBounds_toArray, List.set_cons_zero, List.set_cons_succ])
    refine wpAnyF_ready (rs := [19]) (by kernel_rfl) (by simp) ?_
    refine AllF.cons rfl (fun K hK => ?_) AllF.nil
    go_simp
    refine (push_any w3 oq fa fn fc).mono ?_
    rintro e w4 ⟨rfl, hw4⟩
    have LB4 : Below w.heap.size w w4 := by rw [hw4]; exact btrans LB3 (Nat.le_refl _) ((Below.refl w3.heap.size w3).alloc (Nat.le_refl _) _)
    have hnw : w4.heap[w3.heap.size]? = some (.cells #[.slice fa fn fc, .pointer oq] 127 (0, 0)) := by rw [hw4]; exact blk_new _ _
    have hf4 : FrAt w4 (.slice fa fn fc) (putF x.2 t v) := by rw [hw4]; exact frAt_below hfr ((Below.refl w3.heap.size w3).alloc (Nat.le_refl _) _)
    clear hw4
    dsimp only
    refine hK.out _ _ (fun _ => KW.out _ LB4) ?_; clear hK K; (try simp only [Act.put, List.setIfInBounds_toArray, List.set_cons_zero, List.set_cons_succ])
    refine wpAnyF_ready (rs := [20]) (by kernel_rfl) (by simp) ?_
    refine AllF.cons rfl (fun K hK => ?_) AllF.nil
    go_simp
    refine hK.out _ _ (fun _ => KW.out _ LB4) ?_; clear hK K; (try simp only [Act.put, List.setIfInBounds_toArray, List.set_cons_zero, List.set_cons_succ])
    refine wpAnyF_ready (rs := [21]) (by kernel_rfl) (by simp) ?_
    refine AllF.cons rfl (fun K hK => ?_) AllF.nil
    go_simp
    refine hK.out _ _ (fun _ => KW.out _ LB4) ?_; clear hK K; (try simp only [Act.put, List.setIfInBounds_toArray, List.set_cons_zero, List.set_cons_succ])
    refine wpAnyF_ready (rs := [22]) (by kernel_rfl) (by simp) ?_
    refine AllF.cons rfl (fun K hK => ?_) AllF.nil
    have hcell := (KW.out _ LB4).1
    have hfrz := KF.out _ LB4
    go_simp
    refine hK.out _ _ (fun h => absurd rfl h) ?_; clear hK K; (try simp only [Act.put, List.setIfInBounds_toArray, List.set_cons_zero, List.set_cons_succ]); refine wpAnyF_done (by kernel_rfl) ?_ _
    have hb4 := bblk LB4 HB.out
    have hA := blk_set hb4 0 (ptr w3.heap.size)
    have hS4 : StackAt w4 (ptr w3.heap.size) ((.slice fa fn fc, putF x.2 t v) :: r) := ⟨w3.heap.size, .pointer oq, rfl, hnw, hf4, by show (putF x.2 t v).length ≤ 1000; omega, HRR.out.below LB4⟩
    have hS5 := StackAt.set (i := 0) (v := ptr w3.heap.size) hb4 hS4
    have hlt : b < w.heap.size := blk_lt HB.out
    have HFIN := Lib.hid (show LogAt (w4.setCell ⟨b, 0, none⟩ (ptr w3.heap.size)) b ((.slice fa fn fc, putF x.2 t v) :: r) from ⟨some ⟨w3.heap.size, 0, none⟩, by rw [hA]; simp, hS5, by simp, by rw [List.length_cons] at hx5 ⊢; omega⟩)
    have HO := Lib.hid (show Only (fun k => k = b) w (w4.setCell ⟨b, 0, none⟩ (ptr w3.heap.size)) from (Only.of_below (S := fun k => k = b) LB4 (fun k hk h => by omega)).setCell (p := ⟨b, 0, none⟩) (.inr rfl) _)
    clear hA hS4 hS5 hb4 hcell hfrz hf4 hnw hfr
    go_wp2_with fail
    go_ret
    exact ⟨rfl, HO.out, _, HFIN.out, HFS.out⟩
  | none =>
    rw [hg] at hG
    have HG := Lib.hid hG
    have hlf : ¬ 16 ≤ lenAll (x :: r) := fun h => hn ⟨hg, h⟩
    obtain ⟨L, hL⟩ : ∃ L, lenAll (x :: r) = L := ⟨_, rfl⟩
    rw [hL] at HLE hlf
    have hle : decide (16 ≤ L) = false := by simpa using hlf
    clear hR hr hb hnn hf hrr hG hn hg hL hlf
    go_enter Try.func51, Try.ntmps51
    go_wp2_with fail; refine (HR.out).mono ?_; rintro e w0 ⟨rfl, rfl⟩
    go_wp2_with fail
    refine HG.out.mono ?_
    rintro e w1 ⟨rfl, l1⟩
    have HL1 := Lib.hid l1; have HLG1 := Lib.hid (HLOG.out.below l1)
    clear l1 b0 n0 n1
    simp only [Option.getD_none, Option.isSome_none]
    go_wp2_with fail
    refine (HLE.out w1 HLG1.out).mono ?_
    rintro e WW ⟨rfl, l2⟩
    have HLW := Lib.hid (btrans HL1.out (Nat.le_refl _) l2)
    clear l2
    go_wp2_with fail
    have QL := btrans HLW.out (Nat.le_refl _) (show Below WW.heap.size WW WW.drew from (Below.refl _ _).drew)
    refine wp_region_F (fun w' => w'.cell? ⟨b, 0, none⟩ = some (ptr nb) ∧ w'.cell? ⟨nb, 0, none⟩ = some x.1 ∧ w'.cell? ⟨nb, 1, none⟩ = some (.pointer oq)) 22 (by kernel_rfl) ?_
    have hS0 := KW.out WW.drew QL
    refine wpAnyF_take (i := 0) (v := ?_) rfl (by kernel_rfl) (by kernel_rfl) (by kernel_rfl) (by kernel_rfl) (fun _ _ _ h => h) (Or.inl ⟨by rfl, ?_⟩) (by assumption) ?_; rotate_left; (focus (intro w hSw; (skip); (first | (go_simp; done) | (go_simp; with_reducible rfl)))); (try simp only [Act.put, List.setIfInBounds_toArray, List.set_cons_zero, List.set_cons_succ])
    refine wpAnyF_take (i := 1) (v := ?_) rfl (by kernel_rfl) (by kernel_rfl) (by kernel_rfl) (by kernel_rfl) (fun _ _ _ h => h) (Or.inl ⟨by rfl, ?_⟩) (by assumption) ?_; rotate_left; (focus (intro w hSw; (skip); (first | (go_simp; done) | (go_simp; with_reducible rfl)))); (try simp only [Act.put, List.setIfInBounds_toArray, List.set_cons_zero, List.set_cons_succ])
    refine wpAnyF_take (i := 2) (v := ?_) rfl (by kernel_rfl) (by kernel_rfl) (by kernel_rfl) (by kernel_rfl) (fun _ _ _ h => h) (Or.inl ⟨by rfl, ?_⟩) (by assumption) ?_; rotate_left; (focus (intro w hSw; (skip); (first | (go_simp; done) | (go_simp; with_reducible rfl)))); (try simp only [Act.put, List.setIfInBounds_toArray, List.set_cons_zero, List.set_cons_succ])
    refine wpAnyF_take (i := 3) (v := ?_) rfl (by kernel_rfl) (by kernel_rfl) (by kernel_rfl) (by kernel_rfl) (fun _ _ _ h => h) (Or.inl ⟨by rfl, ?_⟩) (by assumption) ?_; rotate_left; (focus (intro w hSw; (skip); (first | (go_simp; done) | (go_simp; with_reducible rfl)))); (try simp only [Act.put, List.setIfInBounds_toArray, List.set_cons_zero, List.set_cons_succ])
    refine wpAnyF_take (i := 4) (v := ?_) rfl (by kernel_rfl) (by kernel_rfl) (by kernel_rfl) (by kernel_rfl) (fun _ _ _ h => h) (Or.inl ⟨by rfl, ?_⟩) (by assumption) ?_; rotate_left; (focus (intro w hSw; (obtain ⟨q0, q1, q2⟩ := hSw); (first | (go_simp; done) | (go_simp; with_reducible rfl)))); (try simp only [Act.put, List.setIfInBounds_toArray, List.set_cons_zero, List.set_cons_succ])
    refine wpAnyF_take (i := 5) (v := ?_) rfl (by kernel_rfl) (by kernel_rfl) (by kernel_rfl) (by kernel_rfl) (fun _ _ _ h => h) (Or.inl ⟨by rfl, ?_⟩) (by assumption) ?_; rotate_left; (focus (intro w hSw; (skip); (first | (go_simp; done) | (go_simp; with_reducible rfl)))); (try simp only [Act.put, List.setIfInBounds_toArray, List.set_cons_zero, List.set_cons_succ])
    refine wpAnyF_take (i := 6) (v := ?_) rfl (by kernel_rfl) (by kernel_rfl) (by kernel_rfl) (by kernel_rfl) (fun _ _ _ h => h) (Or.inl ⟨by rfl, ?_⟩) (by assumption) ?_; rotate_left; (focus (intro w hSw; (skip); (first | (go_simp; done) | (go_simp; with_reducible rfl)))); (try simp only [Act.put, List.setIfInBounds_toArray, List.set_cons_zero, List.set_cons_succ])
    refine wpAnyF_take (i := 7) (v := ?_) rfl (by kernel_rfl) (by kernel_rfl) (by kernel_rfl) (by kernel_rfl) (fun _ _ _ h => h) (Or.inl ⟨by rfl, ?_⟩) (by assumption) ?_; rotate_left; (focus (intro w hSw; (obtain ⟨q0, q1, q2⟩ := hSw); (first | (go_simp; done) | (go_simp; with_reducible rfl)))); (try simp only [Act.put, List.setIfInBounds_toArray, List.set_cons_zero, List.set_cons_succ])
    refine wpAnyF_take (i := 8) (v := ?_) rfl (by kernel_rfl) (by kernel_rfl) (by kernel_rfl) (by kernel_rfl) (fun _ _ _ h => h) (Or.inl ⟨by rfl, ?_⟩) (by assumption) ?_; rotate_left; (focus (intro w hSw; (skip); (first | (go_simp; done) | (go_simp; with_reducible rfl)))); (try simp only [Act.put, List.setIfInBounds_toArray, List.set_cons_zero, List.set_cons_succ])
    refine wpAnyF_take (i := 9) (v := ?_) rfl (by kernel_rfl) (by kernel_rfl) (by kernel_rfl) (by kernel_rfl) (fun _ _ _ h => h) (Or.inl ⟨by rfl, ?_⟩) (by assumption) ?_; rotate_left; (focus (intro w hSw; (skip); (first | (go_simp; done) | (go_simp; with_reducible rfl)))); (try simp only [Act.put, List.setIfInBounds_toArray, List.set_cons_zero, List.set_cons_succ])
    refine wpAnyF_take (i := 10) (v := ?_) rfl (by kernel_rfl) (by kernel_rfl) (by kernel_rfl) (by kernel_rfl) (fun _ _ _ h => h) (Or.inl ⟨by rfl, ?_⟩) (by assumption) ?_; rotate_left; (focus (intro w hSw; (skip); (first | (go_simp; done) | (go_simp; with_reducible rfl)))); (try simp only [Act.put, List.setIfInBounds_toArray, List.set_cons_zero, List.set_cons_succ])
    refine wpAnyF_take (i := 11) (v := ?_) rfl (by kernel_rfl) (by kernel_rfl) (by kernel_rfl) (by kernel_rfl) (fun _ _ _ h => h) (Or.inl ⟨by rfl, ?_⟩) (by assumption) ?_; rotate_left; (focus (intro w hSw; (obtain ⟨q0, q1, q2⟩ := hSw); (first | (go_simp; done) | (go_simp; with_reducible rfl)))); (try simp only [Act.put, List.setIfInBounds_toArray, List.set_cons_zero, List.set_cons_succ])
    refine wpAnyF_take (i := 12) (v := ?_) rfl (by kernel_rfl) (by kernel_rfl) (by kernel_rfl) (by kernel_rfl) (fun _ _ _ h => h) (Or.inl ⟨by rfl, ?_⟩) (by assumption) ?_; rotate_left; (focus (intro w hSw; (skip); (first | (go_simp; done) | (go_simp; with_reducible rfl)))); (try simp only [Act.put, List.setIfInBounds_toArray, List.set_cons_zero, List.set_cons_succ])
    refine wpAnyF_take (i := 13) (v := ?_) rfl (by kernel_rfl) (by kernel_rfl) (by kernel_rfl) (by kernel_rfl) (fun _ _ _ h => h) (Or.inl ⟨by rfl, ?_⟩) (by assumption) ?_; rotate_left; (focus (intro w hSw; (skip); (first | (go_simp; done) | (go_simp; with_reducible rfl)))); (try simp only [Act.put, List.setIfInBounds_toArray, List.set_cons_zero, List.set_cons_succ])
    refine wpAnyF_take (i := 14) (v := ?_) rfl (by kernel_rfl) (by kernel_rfl) (by kernel_rfl) (by kernel_rfl) (fun _ _ _ h => h) (Or.inl ⟨by rfl, ?_⟩) (by assumption) ?_; rotate_left; (focus (intro w hSw; (obtain ⟨q0, q1, q2⟩ := hSw); (first | (go_simp; done) | (go_simp; with_reducible rfl)))); (try simp only [Act.put, List.setIfInBounds_toArray, List.set_cons_zero, List.set_cons_succ])
    refine wpAnyF_take (i := 15) (v := ?_) rfl (by kernel_rfl) (by kernel_rfl) (by kernel_rfl) (by kernel_rfl) (fun _ _ _ h => h) (Or.inl ⟨by rfl, ?_⟩) (by assumption) ?_; rotate_left; (focus (intro w hSw; (skip); (first | (go_simp; done) | (go_simp; with_reducible rfl)))); (try simp only [Act.put, List.setIfInBounds_toArray, List.set_cons_zero, List.set_cons_succ])
    refine wpAnyF_take (i := 16) (v := ?_) rfl (by kernel_rfl) (by kernel_rfl) (by kernel_rfl) (by kernel_rfl) (fun _ _ _ h => h) (Or.inl ⟨by rfl, ?_⟩) (by assumption) ?_; rotate_left; (focus (intro w hSw; (skip); (first | (go_simp; done) | (go_simp; with_reducible rfl)))); (try simp only [Act.put, List.setIfInBounds_toArray, List.set_cons_zero, List.set_cons_succ])
    refine wpAnyF_take (i := 17) (v := ?_) rfl (by kernel_rfl) (by kernel_rfl) (by kernel_rfl) (by kernel_rfl) (fun _ _ _ h => h) (Or.inl ⟨by rfl, ?_⟩) (by assumption) ?_; rotate_left; (focus (intro w hSw; (skip); (first | (go_simp; done) | (go_simp; with_reducible rfl)))); (try simp only [Act.put, List.setIfInBounds_toArray, List.set_cons_zero, List.set_cons_succ])
    refine wpAnyF_ready (rs := [18]) (by kernel_rfl) (by simp) ?_
    refine AllF.cons rfl (fun K hK => ?_) AllF.nil
    go_simp
    refine (HPUT.out _ QL).mono ?_
    rintro e w3 ⟨fa, fn, fc, rfl, hfr, l3, hfs⟩
    have HFS := Lib.hid (show Fr w (.slice fa fn fc) from fun k hk => Nat.le_trans QL.size (hfs k hk))
    clear hfs
    have LB3 := btrans QL (Nat.le_refl _) l3
    dsimp only
    refine hK.out _ _ (fun _ => KW.out _ LB3) ?_; clear hK K; (try simp only [Act.put, List.setIfInBounds_toArray, List.set_cons_zero, List.set_cons_succ])
    refine wpAnyF_ready (rs := [19]) (by kernel_rfl) (by simp) ?_
    refine AllF.cons rfl (fun K hK => ?_) AllF.nil
    go_simp
    refine (push_any w3 oq fa fn fc).mono ?_
    rintro e w4 ⟨rfl, hw4⟩
    have LB4 : Below w.heap.size w w4 := by rw [hw4]; exact btrans LB3 (Nat.le_refl _) ((Below.refl w3.heap.size w3).alloc (Nat.le_refl _) _)
    have hnw : w4.heap[w3.heap.size]? = some (.cells #[.slice fa fn fc, .pointer oq] 127 (0, 0)) := by rw [hw4]; exact blk_new _ _
    have hf4 : FrAt w4 (.slice fa fn fc) (putF x.2 t v) := by rw [hw4]; exact frAt_below hfr ((Below.refl w3.heap.size w3).alloc (Nat.le_refl _) _)
    clear hw4
    dsimp only
    refine hK.out _ _ (fun _ => KW.out _ LB4) ?_; clear hK K; (try simp only [Act.put, List.setIfInBounds_toArray, List.set_cons_zero, List.set_cons_succ])
    refine wpAnyF_ready (rs := [20]) (by kernel_rfl) (by simp) ?_
    refine AllF.cons rfl (fun K hK => ?_) AllF.nil
    go_simp
    refine hK.out _ _ (fun _ => KW.out _ LB4) ?_; clear hK K; (try simp only [Act.put, List.setIfInBounds_toArray, List.set_cons_zero, List.set_cons_succ])
    refine wpAnyF_ready (rs := [21]) (by kernel_rfl) (by simp) ?_
    refine AllF.cons rfl (fun K hK => ?_) AllF.nil
    go_simp
    refine hK.out _ _ (fun _ => KW.out _ LB4) ?_; clear hK K; (try simp only [Act.put, List.setIfInBounds_toArray, List.set_cons_zero, List.set_cons_succ])
    refine wpAnyF_ready (rs := [22]) (by kernel_rfl) (by simp) ?_
    refine AllF.cons rfl (fun K hK => ?_) AllF.nil
    have hcell := (KW.out _ LB4).1
    have hfrz := KF.out _ LB4
    go_simp
    refine hK.out _ _ (fun h => absurd rfl h) ?_; clear hK K; (try simp only [Act.put, List.setIfInBounds_toArray, List.set_cons_zero, List.set_cons_succ]); refine wpAnyF_done (by kernel_rfl) ?_ _
    have hb4 := bblk LB4 HB.out
    have hA := blk_set hb4 0 (ptr w3.heap.size)
    have hS4 : StackAt w4 (ptr w3.heap.size) ((.slice fa fn fc, putF x.2 t v) :: r) := ⟨w3.heap.size, .pointer oq, rfl, hnw, hf4, by show (putF x.2 t v).length ≤ 1000; omega, HRR.out.below LB4⟩
    have hS5 := StackAt.set (i := 0) (v := ptr w3.heap.size) hb4 hS4
    have hlt : b < w.heap.size := blk_lt HB.out
    have HFIN := Lib.hid (show LogAt (w4.setCell ⟨b, 0, none⟩ (ptr w3.heap.size)) b ((.slice fa fn fc, putF x.2 t v) :: r) from ⟨some ⟨w3.heap.size, 0, none⟩, by rw [hA]; simp, hS5, by simp, by rw [List.length_cons] at hx5 ⊢; omega⟩)
    have HO := Lib.hid (show Only (fun k => k = b) w (w4.setCell ⟨b, 0, none⟩ (ptr w3.heap.size)) from (Only.of_below (S := fun k => k = b) LB4 (fun k hk h => by omega)).setCell (p := ⟨b, 0, none⟩) (.inr rfl) _)
    clear hA hS4 hS5 hb4 hcell hfrz hf4 hnw hfr
    go_wp2_with fail
    go_ret
    exact ⟨rfl, HO.out, _, HFIN.out, HFS.out⟩
end Go.Proofs.Ytgjemjogncnbnaa.Wri
