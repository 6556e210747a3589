/- The other side: Drop. -/
import Derived.Test.YtfpiecnbnoinnaaWriS
namespace Go.Proofs.Ytfpiecnbnoinnaa.Wri
open Go.RowKit
set_option linter.unusedSimpArgs false
set_option linter.unusedVariables false
set_option maxRecDepth 50000

theorem rowV_take (gs : List Frm) (m : Nat) : rowV (gs.take m) = (rowV gs).take (m * 24) := by
  induction gs generalizing m with
  | nil => simp [rowV]
  | cons f gs ih =>
    cases m with
    | zero => simp [rowV]
    | succ m =>
      have e : rowV (f :: gs) = rc f ++ rowV gs := rfl
      have e2 : rowV (f :: gs.take m) = rc f ++ rowV (gs.take m) := rfl
      rw [List.take_succ_cons, e, e2, ih, List.take_append, rc_len, List.take_of_length_le (l := rc f) (by rw [rc_len]; omega), show (m + 1) * 24 - 24 = m * 24 by omega]
def RDropPost (w : World) (b : Nat) (gs : List Frm) (e : Ending) (w' : World) : Prop :=
  if gs.length ≤ 1 then e = .returned (.int .i64 8) ∧ w = w' else e = .returned (.int .i64 0) ∧ Only (fun k => k = b) w w' ∧ RLogAt w' b gs.dropLast
set_option maxHeartbeats 1600000 in
theorem rdrop_any (w : World) (b : Nat) (gs : List Frm) (h : RLogAt w b gs) : Calls Try.prog 73 #[ptr b] w (RDropPost w b gs) := by
  have hD := rdepth_any w b gs h
  obtain ⟨i0, hi0, hz0, hz1, hz2⟩ := info_parts infoR
  obtain ⟨g, cap, hb, hS, hx1, hx5⟩ := h
  have hblt := blk_lt hb
  obtain ⟨n, hn⟩ : ∃ n, gs.length = n := ⟨_, rfl⟩
  have HN := Lib.hid hn
  rw [hn] at hb hS hD hx1 hx5
  have b0 := blk_cell hb 0
  simp only [List.getElem?_toArray, List.getElem?_cons_zero, List.getElem?_cons_succ] at b0
  have HB := Lib.hid hb; have HS := Lib.hid hS; have HD := Lib.hid hD
  unfold RDropPost
  rw [hn]
  clear hb hS hn hD
  by_cases h5 : n ≤ 1
  · simp only [if_pos h5]
    have hd : ((n : Int) - 1 == 0) = true := by (try simp); omega
    go_enter Try.func73, Try.ntmps73
    go_wp2_with fail; refine (HD.out).mono ?_; rintro e w0 ⟨rfl, rfl⟩
    go_wp2
    go_ret
    exact ⟨rfl, rfl⟩
  · simp only [if_neg h5]
    have hd : ((n : Int) - 1 == 0) = false := by (try simp); omega
    obtain ⟨m, hnm⟩ : ∃ m, m + 1 = n := ⟨n - 1, by omega⟩
    have hcap : n ≤ cap := by
      rcases HS.out.2 with ⟨h0, _⟩ | ⟨_, _, _, he, _, _, hle, _⟩
      · cases h0
      · injection he with _ _ e3
        omega
    have hw : IntKind.i64.wrap ((n : Int) - 1) = (m : Int) := by rw [IntKind.wrap_i64]; omega
    have hs1 : (m : Int) ≤ cap := by omega
    have hs0 : (0 : Int) ≤ m := by omega
    have HNM := Lib.hid hnm
    have KW := Lib.hid (show ∀ w', Below w.heap.size w w' → w'.cell? ⟨b, 0, none⟩ = some (.slice (some ⟨g, 0, none⟩) n cap) from fun w' h => bkeep h b0)
    clear hnm
    go_enter Try.func73, Try.ntmps73
    go_wp2_with fail
    refine (HD.out).mono ?_
    rintro e w0 ⟨rfl, hw0⟩
    subst hw0
    go_upto_region 5 with (fail)
    refine wp_region_F (fun w' => w'.cell? ⟨b, 0, none⟩ = some (.slice (some ⟨g, 0, none⟩) n cap)) 16 (by kernel_rfl) ?_
    have hS0 := KW.out w.drew (Below.refl _ _).drew
    refine wpAnyF_take (i := 0) (v := ?_) rfl (by kernel_rfl) (by kernel_rfl) (by kernel_rfl) (by kernel_rfl) (fun _ _ _ h => h) (Or.inl ⟨by rfl, ?_⟩) (by assumption) ?_; rotate_left; (focus (intro w hSw; (skip); (first | (go_simp; done) | (go_simp; with_reducible rfl)))); (try simp only [Act.put, List.setIfInBounds_toArray, List.set_cons_zero, List.set_cons_succ])
    refine wpAnyF_take (i := 2) (v := ?_) rfl (by kernel_rfl) (by kernel_rfl) (by kernel_rfl) (by kernel_rfl) (fun _ _ _ h => h) (Or.inl ⟨by rfl, ?_⟩) (by assumption) ?_; rotate_left; (focus (intro w hSw; (skip); (first | (go_simp; done) | (go_simp; with_reducible rfl)))); (try simp only [Act.put, List.setIfInBounds_toArray, List.set_cons_zero, List.set_cons_succ])
    refine wpAnyF_take (i := 3) (v := ?_) rfl (by kernel_rfl) (by kernel_rfl) (by kernel_rfl) (by kernel_rfl) (fun _ _ _ h => h) (Or.inl ⟨by rfl, ?_⟩) (by assumption) ?_; rotate_left; (focus (intro w hSw; (skip); (first | (go_simp; done) | (go_simp; with_reducible rfl)))); (try simp only [Act.put, List.setIfInBounds_toArray, List.set_cons_zero, List.set_cons_succ])
    refine wpAnyF_take (i := 4) (v := ?_) rfl (by kernel_rfl) (by kernel_rfl) (by kernel_rfl) (by kernel_rfl) (fun _ _ _ h => h) (Or.inl ⟨by rfl, ?_⟩) (by assumption) ?_; rotate_left; (focus (intro w hSw; (skip); (first | (go_simp; done) | (go_simp; with_reducible rfl)))); (try simp only [Act.put, List.setIfInBounds_toArray, List.set_cons_zero, List.set_cons_succ])
    refine wpAnyF_take (i := 5) (v := ?_) rfl (by kernel_rfl) (by kernel_rfl) (by kernel_rfl) (by kernel_rfl) (fun _ _ _ h => h) (Or.inl ⟨by rfl, ?_⟩) (by assumption) ?_; rotate_left; (focus (intro w hSw; (skip); (first | (go_simp; done) | (go_simp; with_reducible rfl)))); (try simp only [Act.put, List.setIfInBounds_toArray, List.set_cons_zero, List.set_cons_succ])
    refine wpAnyF_take (i := 6) (v := ?_) rfl (by kernel_rfl) (by kernel_rfl) (by kernel_rfl) (by kernel_rfl) (fun _ _ _ h => h) (Or.inl ⟨by rfl, ?_⟩) (by assumption) ?_; rotate_left; (focus (intro w hSw; (skip); (first | (go_simp; done) | (go_simp; with_reducible rfl)))); (try simp only [Act.put, List.setIfInBounds_toArray, List.set_cons_zero, List.set_cons_succ])
    refine wpAnyF_take (i := 7) (v := ?_) rfl (by kernel_rfl) (by kernel_rfl) (by kernel_rfl) (by kernel_rfl) (fun _ _ _ h => h) (Or.inl ⟨by rfl, ?_⟩) (by assumption) ?_; rotate_left; (focus (intro w hSw; (skip); (first | (go_simp; done) | (go_simp; with_reducible rfl)))); (try simp only [Act.put, List.setIfInBounds_toArray, List.set_cons_zero, List.set_cons_succ])
    refine wpAnyF_take (i := 8) (v := ?_) rfl (by kernel_rfl) (by kernel_rfl) (by kernel_rfl) (by kernel_rfl) (fun _ _ _ h => h) (Or.inl ⟨by rfl, ?_⟩) (by assumption) ?_; rotate_left; (focus (intro w hSw; (skip); (first | (go_simp; done) | (go_simp; with_reducible rfl)))); (try simp only [Act.put, List.setIfInBounds_toArray, List.set_cons_zero, List.set_cons_succ])
    refine wpAnyF_take (i := 9) (v := ?_) rfl (by kernel_rfl) (by kernel_rfl) (by kernel_rfl) (by kernel_rfl) (fun _ _ _ h => h) (Or.inl ⟨by rfl, ?_⟩) (by assumption) ?_; rotate_left; (focus (intro w hSw; (skip); (first | (go_simp; done) | (go_simp; with_reducible rfl)))); (try simp only [Act.put, List.setIfInBounds_toArray, List.set_cons_zero, List.set_cons_succ])
    refine wpAnyF_take (i := 10) (v := ?_) rfl (by kernel_rfl) (by kernel_rfl) (by kernel_rfl) (by kernel_rfl) (fun _ _ _ h => h) (Or.inl ⟨by rfl, ?_⟩) (by assumption) ?_; rotate_left; (focus (intro w hSw; (skip); (first | (go_simp; done) | (go_simp; with_reducible rfl)))); (try simp only [Act.put, List.setIfInBounds_toArray, List.set_cons_zero, List.set_cons_succ])
    refine wpAnyF_take (i := 11) (v := ?_) rfl (by kernel_rfl) (by kernel_rfl) (by kernel_rfl) (by kernel_rfl) (fun _ _ _ h => h) (Or.inl ⟨by rfl, ?_⟩) (by assumption) ?_; rotate_left; (focus (intro w hSw; (skip); (first | (go_simp; done) | (go_simp; with_reducible rfl)))); (try simp only [Act.put, List.setIfInBounds_toArray, List.set_cons_zero, List.set_cons_succ])
    refine wpAnyF_take (i := 12) (v := ?_) rfl (by kernel_rfl) (by kernel_rfl) (by kernel_rfl) (by kernel_rfl) (fun _ _ _ h => h) (Or.inl ⟨by rfl, ?_⟩) (by assumption) ?_; rotate_left; (focus (intro w hSw; (skip); (first | (go_simp; done) | (go_simp; with_reducible rfl)))); (try simp only [Act.put, List.setIfInBounds_toArray, List.set_cons_zero, List.set_cons_succ])
    refine wpAnyF_ready (rs := [1]) (by kernel_rfl) (by simp) ?_
    refine AllF.cons rfl (fun K hK => ?_) AllF.nil
    go_simp
    have l1 : Below w.heap.size w (w.drew.alloc (.cells #[] 115)) := by repeat (first | (with_reducible exact Below.refl _ _) | (with_reducible apply Below.drew) | (with_reducible refine below_drewN ?_ _) | (with_reducible refine below_alloc' ?_ ?_ _; (focus ((try simp) <;> omega))) | (with_reducible refine below_set' ?_ ?_ _; (focus ((try simp) <;> omega))))
    refine hK.out _ _ (fun _ => KW.out _ l1) ?_; clear hK K; (try simp only [Act.put, List.setIfInBounds_toArray, List.set_cons_zero, List.set_cons_succ])
    refine wpAnyF_ready (rs := [13]) (by kernel_rfl) (by simp) ?_
    refine AllF.cons rfl (fun K hK => ?_) AllF.nil
    have hnm := HNM.out
    refine step_append_own rfl _ _ 108 rfl w.heap.size 115 i0 (.agg (rc []).toArray) 24 112 Try.underlying108 hi0 hz0 hz1 hz2 zR (by decide) (.slice (some ⟨w.heap.size, 0, none⟩) 0 0) 0 [] rfl (empty_row w.drew _ 24 _ (Nat.le_refl _)) ⟨g, 0, none⟩ m cap (rowV (gs.take m)) rfl ?c0 ?c1 (rowV_one _) ?c3 ?c4 ?c5 ?_
    case c0 => rw [rowV_len, List.length_take, HN.out]; have := HNM.out; omega
    case c1 =>
      intro j u hu
      have hj := (List.getElem?_eq_some_iff.1 hu).1
      rw [rowV_take, List.getElem?_take] at hu
      split at hu
      · have := HS.out.cells (g := g) rfl j u hu
        exact bkeep l1 this
      · cases hu
    case c3 => unfold maxLen; omega
    case c4 => omega
    case c5 => simp
    intro v' w1 hown hgr _
    have hB1 : Below w.heap.size w w1 := l1.grown hgr (by simp) (by simp [Value.ownBlock])
    try simp only [Nat.zero_add, List.nil_append] at hown
    rcases hown.2 with ⟨rfl, hn0⟩ | ⟨g', cap', cur', rfl, hg1, hg2, _⟩
    · omega
    refine hK.out _ _ (fun _ => KW.out _ hB1) ?_; clear hK K; (try simp only [Act.put, List.setIfInBounds_toArray, List.set_cons_zero, List.set_cons_succ])
    refine wpAnyF_ready (rs := [14]) (by kernel_rfl) (by simp) ?_
    refine AllF.cons rfl (fun K hK => ?_) AllF.nil
    go_simp
    refine hK.out _ _ (fun _ => KW.out _ hB1) ?_; clear hK K; (try simp only [Act.put, List.setIfInBounds_toArray, List.set_cons_zero, List.set_cons_succ])
    refine wpAnyF_ready (rs := [15]) (by kernel_rfl) (by simp) ?_
    refine AllF.cons rfl (fun K hK => ?_) AllF.nil
    go_simp
    refine hK.out _ _ (fun _ => KW.out _ hB1) ?_; clear hK K; (try simp only [Act.put, List.setIfInBounds_toArray, List.set_cons_zero, List.set_cons_succ])
    refine wpAnyF_ready (rs := [16]) (by kernel_rfl) (by simp) ?_
    refine AllF.cons rfl (fun K hK => ?_) AllF.nil
    have hcell := KW.out _ hB1
    have hbb := bblk hB1 HB.out
    have hfrz := blk_free hbb
    go_simp
    refine hK.out _ _ (fun h => absurd rfl h) ?_; clear hK K; (try simp only [Act.put, List.setIfInBounds_toArray, List.set_cons_zero, List.set_cons_succ]); refine wpAnyF_done (by kernel_rfl) ?_ _
    have HOWN := Lib.hid hown; have HB1 := Lib.hid hB1; have HBB := Lib.hid hbb
    clear hown hgr hB1 hg2 l1 hbb hcell
    go_wp2
    go_ret
    refine ⟨rfl, (Only.of_below (S := fun k => k = b) HB1.out (fun k hk h => by omega)).setCell (p := ⟨b, 0, none⟩) (.inr rfl) _, g', cap', ?_, ?_, ?_, ?_⟩
    · rw [blk_set HBB.out 0, List.length_dropLast, HN.out, show n - 1 = m by omega]
      rfl
    · rw [List.length_dropLast, HN.out, show n - 1 = m by omega, List.dropLast_eq_take, HN.out, show n - 1 = m by omega]
      refine ownsRow_only (S := fun k => k = b) (ownsRow_base HOWN.out (fun _ _ => Nat.zero_le _)) ((Only.refl (fun k => k = b) _).setCell (p := ⟨b, 0, none⟩) (.inr rfl) _) ?_
      intro k hk e
      injection hk with hk
      have hk2 : g' = b := hk.trans e
      omega
    · rw [List.length_dropLast, HN.out]; omega
    · rw [List.length_dropLast, HN.out]; omega
end Go.Proofs.Ytfpiecnbnoinnaa.Wri
