/- The document's side: what an attempt read, what it wrote, whether it read its own. -/
import Derived.Test.YtganmdbhmihjpaaGreatMgf
import Derived.Test.YtganmdbhmihjpaaGreatOpaN
namespace Go.Proofs.YtganmdbhmihjpaaGreat.Opa
open Go.RowKit Go.Proofs.YtganmdbhmihjpaaGreat.Wri Go.Proofs.YtganmdbhmihjpaaGreat.His
set_option linter.unusedSimpArgs false
set_option linter.unusedVariables false
set_option maxRecDepth 50000

theorem rget_p {w : World} {b : Nat} {fs : List Frm} (h : RAt w b fs) (hi : WellS fs) (t : Int) : Calls Tryz.prog 83 #[ptr b, .int .i64 t] w fun e w' => e = .returned (.tuple #[.int .u64 ((getL fs t).getD 0), .bool (getL fs t).isSome]) ∧ w = w' := by
  have := rget_any w b _ h t
  rw [List.reverse_reverse] at this
  have e : (if okT t then getL fs t else none) = getL fs t := by
    split
    · rfl
    · rename_i ht; rw [getL_out hi.good ht]
  rw [e] at this
  exact this
theorem rall_p {w : World} {b : Nat} {fs : List Frm} (h : RAt w b fs) : Calls Tryz.prog 84 #[ptr b] w (AllPost w (getL fs)) := by
  have := rall_any w b _ h
  rwa [List.reverse_reverse] at this
theorem reads_take {l : List Ev} {k : Nat} {x : Ev} (hx : l[k]? = some x) (n : Int) : readsL (l.take (k + 1)) n = readsL (l.take k) n ++ (if (x.a == n && x.k == 2 && !(getL (ownL (l.take k) n) x.t).isSome) = true then [(x.t, x.v)] else []) := by
  unfold readsL
  rw [take_at hx, cutL_snoc]
  by_cases ha : x.a = n
  · rw [if_pos ha, readsG_snoc, show (x.a == n) = true by simpa using ha, Bool.true_and]
    have : (getL (List.foldl actS [[]] (cutL (l.take k) n)) x.t) = getL (ownL (l.take k) n) x.t := rfl
    rw [this]
    cases getL (ownL (l.take k) n) x.t <;> rfl
  · rw [if_neg ha, List.append_nil, show (x.a == n) = false by simpa using ha]
    simp
theorem own_take {l : List Ev} {k : Nat} {x : Ev} (hx : l[k]? = some x) (n : Int) : ownOk (l.take (k + 1)) n = (ownOk (l.take k) n && (!(x.a == n) || (!(x.k == 2) || !(getL (ownL (l.take k) n) x.t).isSome || (getL (ownL (l.take k) n) x.t).getD 0 == x.v))) := by
  unfold ownOk
  rw [take_at hx, cutL_snoc]
  by_cases ha : x.a = n
  · rw [if_pos ha, ownG_snoc, show (x.a == n) = true by simpa using ha]
    rfl
  · rw [if_neg ha, List.append_nil, show (x.a == n) = false by simpa using ha]
    simp
theorem ownG_append : ∀ (p r : List Ev) (fs : List Frm), ownG fs (p ++ r) = (ownG fs p && ownG (p.foldl actS fs) r) := by
  intro p
  induction p with
  | nil => intro r fs; simp [ownG]
  | cons x p ih => intro r fs; rw [List.cons_append, ownG, ih, ownG, List.foldl_cons, Bool.and_assoc]
theorem own_pre {l : List Ev} {n : Int} (k : Nat) (h : ownOk (l.take k) n = false) : ownOk l n = false := by
  unfold ownOk at h ⊢
  have e : cutL l n = cutL (l.take k) n ++ cutL (l.drop k) n := by
    unfold cutL
    rw [← List.filter_append, List.take_append_drop]
  rw [e, ownG_append, h]
  rfl
theorem reads_len (l : List Ev) (n : Int) (k : Nat) : (readsL (l.take k) n).length ≤ k := by
  unfold readsL
  have h1 := readsG_len (cutL (l.take k) n) [[]]
  have h2 := cutL_len l n k
  omega
/-- an old cell reads as it did, whatever way was gone -/
theorem hB2cell {w w2 w5 : World} (h2 : Below w.heap.size w w2) {p : Addr} {v : Value} (hc : w2.cell? p = some v) (h5 : Below w.heap.size w w5) (hp : p.block < w.heap.size) : w5.cell? p = some v :=
  (h5.cell hp).trans ((h2.cell hp).symm.trans hc)
set_option maxHeartbeats 6400000 in
theorem rreads_any (w : World) (p : Option Addr) (n c : Nat) (l : List Ev) (h : EvsIn w p n l) (hok : ∀ x ∈ l, 0 ≤ x.v ∧ x.v < 18446744073709551616) (hn : n ≤ 1000000) (t : Int) :
    Calls Tryz.prog 65 #[.slice p n c, .int .i64 t] w fun e w' => ∃ v, e = .returned v ∧ PairsAt w.heap.size w' v (readsL l t) ∧ Below w.heap.size w w' := by
  obtain ⟨i0, hi, hz0, hz1, hz2⟩ := info_parts infoP
  have H := Lib.hid h; have HOK := Lib.hid hok
  clear h hok
  go_enter Tryz.func65, Tryz.ntmps65
  go_wp2_with fail
  go_loopw [5, 6] (fun v i wr => ∃ k : Nat, i = .int .i64 k ∧ k ≤ n ∧ PairsAt w.heap.size wr v (readsL (l.take k) t) ∧ Below w.heap.size w wr) (fun _ i _ => n - (intOf i).toNat)
  case atStart => exact ⟨0, rfl, Nat.zero_le _, World.ownsRow_nil _ _ _ _, Below.refl _ _⟩
  case round =>
    obtain ⟨k, rfl, hk, hV, hB⟩ := hrel
    have HV := Lib.hid hV; have HB := Lib.hid hB
    clear hV hB
    by_cases hlt : k < n
    · obtain ⟨g, off, rfl, hc⟩ := H.out.2.resolve_left (by omega)
      obtain ⟨x, hx, c0, c1, c2, c3⟩ := hc k hlt
      replace c0 := bkeep HB.out c0; replace c1 := bkeep HB.out c1; replace c2 := bkeep HB.out c2; replace c3 := bkeep HB.out c3
      have hw1 : IntKind.i64.wrap ((k : Int) + 1) = (k : Int) + 1 := by rw [IntKind.wrap_i64]; omega
      have hkn : (k : Int) < n := by omega
      have HT := Lib.hid (reads_take hx t)
      have hrl := reads_len l t k
      obtain ⟨xk, xa, xt, xv⟩ := x
      simp only at c0 c1 c2 c3 HT
      clear hc hx
      cases e1 : (xa == t) with
      | false =>
        have HT2 := Lib.hid (show readsL (l.take (k + 1)) t = readsL (l.take k) t by rw [HT.out, e1]; simp)
        have e1' : (xa != t) = true := by simp only [bne, e1]; rfl
        clear e1
        go_wp2_with fail
        exact ⟨⟨k + 1, by go_num, by omega, by rw [HT2.out]; exact HV.out, HB.out⟩, by simp [intOf]; omega⟩
      | true =>
        have e1' : (xa != t) = false := by simp only [bne, e1]; rfl
        cases e2 : (xk == 2) with
        | false =>
          have HT2 := Lib.hid (show readsL (l.take (k + 1)) t = readsL (l.take k) t by rw [HT.out, e1, e2]; simp)
          have e2' : (xk != 2) = true := by simp only [bne, e2]; rfl
          clear e1 e2
          go_wp2_with fail
          exact ⟨⟨k + 1, by go_num, by omega, by rw [HT2.out]; exact HV.out, HB.out⟩, by simp [intOf]; omega⟩
        | true =>
          have e2' : (xk != 2) = false := by simp only [bne, e2]; rfl
          have HT2 := Lib.hid (show readsL (l.take (k + 1)) t = readsL (l.take k) t ++ (if (!(getL (ownL (l.take k) t) xt).isSome) = true then [(xt, xv)] else []) by rw [HT.out, e1, e2]; rfl)
          have HO := Lib.hid (rown_any wr.drew _ n c l (H.out.below HB.out.drew) HOK.out hn k (by omega) t)
          obtain ⟨fs, hfs⟩ : ∃ fs, ownL (l.take k) t = fs := ⟨_, rfl⟩
          have HWF := Lib.hid (show WellS fs from hfs ▸ ownL_well _ _)
          rw [hfs] at HO HT2
          have Q0 : wr.drew.cell? ⟨g, off + k * 4 + 2, none⟩ = some (.int .i64 xt) := c2
          have HC := Lib.hid c3
          clear e1 e2 hfs HT
          go_wp2_with fail
          clear c0 c1
          refine wp_region_held_drew (S := fun w' => w'.cell? ⟨g, off + k * 4 + 2, none⟩ = some (.int .i64 xt)) (by kernel_rfl) Q0 (fun hS9 => ?_)
          refine wpAnyH_take2 (i := 0) (v := ?_) rfl (by kernel_rfl) (by kernel_rfl) (by kernel_rfl) (fun _ _ _ h => h) (Or.inl ⟨by rfl, ?_⟩) (by assumption) ?_; rotate_left; (focus (intro w hSw; (skip); (first | (go_simp; done) | (go_simp; with_reducible rfl)))); (try simp only [Act.put, List.setIfInBounds_toArray, List.set_cons_zero, List.set_cons_succ])
          refine wpAnyH_take2 (i := 1) (v := ?_) rfl (by kernel_rfl) (by kernel_rfl) (by kernel_rfl) (fun _ _ _ h => h) (Or.inl ⟨by rfl, ?_⟩) (by assumption) ?_; rotate_left; (focus (intro w hSw; (skip); (first | (go_simp; done) | (go_simp; with_reducible rfl)))); (try simp only [Act.put, List.setIfInBounds_toArray, List.set_cons_zero, List.set_cons_succ])
          refine wpAnyH_take2 (i := 2) (v := ?_) rfl (by kernel_rfl) (by kernel_rfl) (by kernel_rfl) (fun _ _ _ h => h) (Or.inl ⟨by rfl, ?_⟩) (by assumption) ?_; rotate_left; (focus (intro w hSw; (skip); (first | (go_simp; done) | (go_simp; with_reducible rfl)))); (try simp only [Act.put, List.setIfInBounds_toArray, List.set_cons_zero, List.set_cons_succ])
          refine wpAnyH_take2 (i := 4) (v := ?_) rfl (by kernel_rfl) (by kernel_rfl) (by kernel_rfl) (fun _ _ _ h => h) (Or.inl ⟨by rfl, ?_⟩) (by assumption) ?_; rotate_left; (focus (intro w hSw; (skip); (first | (go_simp; done) | (go_simp; with_reducible rfl)))); (try simp only [Act.put, List.setIfInBounds_toArray, List.set_cons_zero, List.set_cons_succ])
          refine wpAnyH_take2 (i := 5) (v := ?_) rfl (by kernel_rfl) (by kernel_rfl) (by kernel_rfl) (fun _ _ _ h => h) (Or.inl ⟨by rfl, ?_⟩) (by assumption) ?_; rotate_left; (focus (intro w hSw; (skip); (first | (go_simp; done) | (go_simp; with_reducible rfl)))); (try simp only [Act.put, List.setIfInBounds_toArray, List.set_cons_zero, List.set_cons_succ])
          refine wpAnyH_take2 (i := 6) (v := ?_) rfl (by kernel_rfl) (by kernel_rfl) (by kernel_rfl) (fun _ _ _ h => h) (Or.inl ⟨by rfl, ?_⟩) (by assumption) ?_; rotate_left; (focus (intro w hSw; (skip); (first | (go_simp; done) | (go_simp; with_reducible rfl)))); (try simp only [Act.put, List.setIfInBounds_toArray, List.set_cons_zero, List.set_cons_succ])
          refine wpAnyH_take2 (i := 7) (v := ?_) rfl (by kernel_rfl) (by kernel_rfl) (by kernel_rfl) (fun _ _ _ h => h) (Or.inl ⟨by rfl, ?_⟩) (by assumption) ?_; rotate_left; (focus (intro w hSw; (skip); (first | (go_simp; done) | (go_simp; with_reducible rfl)))); (try simp only [Act.put, List.setIfInBounds_toArray, List.set_cons_zero, List.set_cons_succ])
          refine wpAnyH_take2 (i := 8) (v := ?_) rfl (by kernel_rfl) (by kernel_rfl) (by kernel_rfl) (fun _ _ _ h => h) (Or.inl ⟨by rfl, ?_⟩) (by assumption) ?_; rotate_left; (focus (intro w hSw; (skip); (first | (go_simp; done) | (go_simp; with_reducible rfl)))); (try simp only [Act.put, List.setIfInBounds_toArray, List.set_cons_zero, List.set_cons_succ])
          refine wpAnyH_ready (rs := [3]) (by kernel_rfl) (by simp) ?_; refine AllReadyH_cons2 rfl (fun K hK => ?_) AllReadyH.nil
          go_simp
          refine HO.out.mono ?_
          rintro e w2 ⟨q, rfl, hq, hqs, l2⟩
          have HB2 := Lib.hid (show Below w.heap.size w w2 from btrans HB.out.drew (Nat.le_refl _) l2)
          have c2' : w2.cell? ⟨g, off + k * 4 + 2, none⟩ = some (.int .i64 xt) := bkeep l2 Q0
          have HC2 := Lib.hid (show w2.cell? ⟨g, off + k * 4 + 3, none⟩ = some (.int .u64 xv) from bkeep l2 (show wr.drew.cell? _ = _ from HC.out))
          have HV2 := Lib.hid (ownsRow_only HV.out (Only.empty (show Below wr.heap.size wr w2 from btrans (Below.refl _ _).drew (Nat.le_refl _) l2) (Nat.le_refl _)) (fun _ _ h => h))
          have HG := Lib.hid (rget_p hq HWF.out xt)
          clear hq hqs l2 HO HC HV Q0 c2 c3
          dsimp only
          refine hK.out _ _ c2' (fun hS9 => ?_); clear hK K; (try simp only [Act.put, List.setIfInBounds_toArray, List.set_cons_zero, List.set_cons_succ])
          refine wpAnyH_ready (rs := [9]) (by kernel_rfl) (by simp) ?_; refine AllReadyH_cons2 rfl (fun K hK => ?_) AllReadyH.nil
          go_simp
          refine HG.out.mono ?_
          rintro e w3 ⟨rfl, rfl⟩
          dsimp only
          refine hK.out _ _ c2' (fun hS9 => ?_); clear hK K; (try simp only [Act.put, List.setIfInBounds_toArray, List.set_cons_zero, List.set_cons_succ])
          refine wpAnyH_take2 (i := 10) (v := ?_) rfl (by kernel_rfl) (by kernel_rfl) (by kernel_rfl) (fun _ _ _ h => h) (Or.inl ⟨by rfl, ?_⟩) (by assumption) ?_; rotate_left; (focus (intro w hSw; (skip); (first | (go_simp; done) | (go_simp; with_reducible rfl)))); (try simp only [Act.put, List.setIfInBounds_toArray, List.set_cons_zero, List.set_cons_succ])
          refine wpAnyH_take2 (i := 11) (v := ?_) rfl (by kernel_rfl) (by kernel_rfl) (by kernel_rfl) (fun _ _ _ h => h) (Or.inl ⟨by rfl, ?_⟩) (by assumption) ?_; rotate_left; (focus (intro w hSw; (skip); (first | (go_simp; done) | (go_simp; with_reducible rfl)))); (try simp only [Act.put, List.setIfInBounds_toArray, List.set_cons_zero, List.set_cons_succ])
          refine wpAnyH_take2 (i := 12) (v := ?_) rfl (by kernel_rfl) (by kernel_rfl) (by kernel_rfl) (fun _ _ _ h => h) (Or.inl ⟨by rfl, ?_⟩) (by assumption) ?_; rotate_left; (focus (intro w hSw; (skip); (first | (go_simp; done) | (go_simp; with_reducible rfl)))); (try simp only [Act.put, List.setIfInBounds_toArray, List.set_cons_zero, List.set_cons_succ])
          refine wpAnyH_take2 (i := 13) (v := ?_) rfl (by kernel_rfl) (by kernel_rfl) (by kernel_rfl) (fun _ _ _ h => h) (Or.inl ⟨by rfl, ?_⟩) (by assumption) ?_; rotate_left; (focus (intro w hSw; (skip); (first | (go_simp; done) | (go_simp; with_reducible rfl)))); (try simp only [Act.put, List.setIfInBounds_toArray, List.set_cons_zero, List.set_cons_succ])
          refine wpAnyH_take2 (i := 14) (v := ?_) rfl (by kernel_rfl) (by kernel_rfl) (by kernel_rfl) (fun _ _ _ h => h) (Or.inl ⟨by rfl, ?_⟩) (by assumption) ?_; rotate_left; (focus (intro w hSw; (skip); (first | (go_simp; done) | (go_simp; with_reducible rfl)))); (try simp only [Act.put, List.setIfInBounds_toArray, List.set_cons_zero, List.set_cons_succ])
          refine wpAnyH_done (by kernel_rfl) ?_ _
          clear HG
          cases hg : (getL fs xt).isSome with
          | true =>
            have HT3 := Lib.hid (show readsL (l.take (k + 1)) t = readsL (l.take k) t by rw [HT2.out, hg]; simp)
            clear hg
            go_wp2_with fail
            exact ⟨⟨k + 1, by go_num, by omega, by rw [HT3.out]; exact HV2.out, HB2.out⟩, by simp [intOf]; omega⟩
          | false =>
            have HT3 := Lib.hid (show readsL (l.take (k + 1)) t = readsL (l.take k) t ++ [(xt, xv)] by rw [HT2.out, hg]; simp)
            have c3' := HC2.out
            have hsz2 := HB2.out.size
            clear hg HC2
            go_wp2_with fail
            refine wp_region_held_drew (S := fun w' => w'.cell? ⟨g, off + k * 4 + 2, none⟩ = some (.int .i64 xt) ∧ w'.cell? ⟨g, off + k * 4 + 3, none⟩ = some (.int .u64 xv)) (by kernel_rfl) ⟨c2', c3'⟩ (fun hS9 => ?_)
            refine wpAnyH_take2 (i := 0) (v := ?_) rfl (by kernel_rfl) (by kernel_rfl) (by kernel_rfl) (fun _ _ _ h => h) (Or.inl ⟨by rfl, ?_⟩) (by assumption) ?_; rotate_left; (focus (intro w hSw; (skip); (first | (go_simp; done) | (go_simp; with_reducible rfl)))); (try simp only [Act.put, List.setIfInBounds_toArray, List.set_cons_zero, List.set_cons_succ])
            refine wpAnyH_take2 (i := 1) (v := ?_) rfl (by kernel_rfl) (by kernel_rfl) (by kernel_rfl) (fun _ _ _ h => h) (Or.inl ⟨by rfl, ?_⟩) (by assumption) ?_; rotate_left; (focus (intro w hSw; (skip); (first | (go_simp; done) | (go_simp; with_reducible rfl)))); (try simp only [Act.put, List.setIfInBounds_toArray, List.set_cons_zero, List.set_cons_succ])
            refine wpAnyH_take2 (i := 2) (v := ?_) rfl (by kernel_rfl) (by kernel_rfl) (by kernel_rfl) (fun _ _ _ h => h) (Or.inl ⟨by rfl, ?_⟩) (by assumption) ?_; rotate_left; (focus (intro w hSw; (skip); (first | (go_simp; done) | (go_simp; with_reducible rfl)))); (try simp only [Act.put, List.setIfInBounds_toArray, List.set_cons_zero, List.set_cons_succ])
            refine wpAnyH_take2 (i := 3) (v := ?_) rfl (by kernel_rfl) (by kernel_rfl) (by kernel_rfl) (fun _ _ _ h => h) (Or.inl ⟨by rfl, ?_⟩) (by assumption) ?_; rotate_left; (focus (intro w hSw; (skip); (first | (go_simp; done) | (go_simp; with_reducible rfl)))); (try simp only [Act.put, List.setIfInBounds_toArray, List.set_cons_zero, List.set_cons_succ])
            refine wpAnyH_take2 (i := 4) (v := ?_) rfl (by kernel_rfl) (by kernel_rfl) (by kernel_rfl) (fun _ _ _ h => h) (Or.inl ⟨by rfl, ?_⟩) (by assumption) ?_; rotate_left; (focus (intro w hSw; (skip); (first | (go_simp; done) | (go_simp; with_reducible rfl)))); (try simp only [Act.put, List.setIfInBounds_toArray, List.set_cons_zero, List.set_cons_succ])
            refine wpAnyH_take2 (i := 5) (v := ?_) rfl (by kernel_rfl) (by kernel_rfl) (by kernel_rfl) (fun _ _ _ h => h) (Or.inl ⟨by rfl, ?_⟩) (by assumption) ?_; rotate_left; (focus (intro w hSw; (obtain ⟨q0, q1⟩ := hSw); (first | (go_simp; done) | (go_simp; with_reducible rfl)))); (try simp only [Act.put, List.setIfInBounds_toArray, List.set_cons_zero, List.set_cons_succ])
            refine wpAnyH_take2 (i := 6) (v := ?_) rfl (by kernel_rfl) (by kernel_rfl) (by kernel_rfl) (fun _ _ _ h => h) (Or.inl ⟨by rfl, ?_⟩) (by assumption) ?_; rotate_left; (focus (intro w hSw; (skip); (first | (go_simp; done) | (go_simp; with_reducible rfl)))); (try simp only [Act.put, List.setIfInBounds_toArray, List.set_cons_zero, List.set_cons_succ])
            refine wpAnyH_take2 (i := 7) (v := ?_) rfl (by kernel_rfl) (by kernel_rfl) (by kernel_rfl) (fun _ _ _ h => h) (Or.inl ⟨by rfl, ?_⟩) (by assumption) ?_; rotate_left; (focus (intro w hSw; (skip); (first | (go_simp; done) | (go_simp; with_reducible rfl)))); (try simp only [Act.put, List.setIfInBounds_toArray, List.set_cons_zero, List.set_cons_succ])
            refine wpAnyH_take2 (i := 8) (v := ?_) rfl (by kernel_rfl) (by kernel_rfl) (by kernel_rfl) (fun _ _ _ h => h) (Or.inl ⟨by rfl, ?_⟩) (by assumption) ?_; rotate_left; (focus (intro w hSw; (skip); (first | (go_simp; done) | (go_simp; with_reducible rfl)))); (try simp only [Act.put, List.setIfInBounds_toArray, List.set_cons_zero, List.set_cons_succ])
            refine wpAnyH_take2 (i := 9) (v := ?_) rfl (by kernel_rfl) (by kernel_rfl) (by kernel_rfl) (fun _ _ _ h => h) (Or.inl ⟨by rfl, ?_⟩) (by assumption) ?_; rotate_left; (focus (intro w hSw; (skip); (first | (go_simp; done) | (go_simp; with_reducible rfl)))); (try simp only [Act.put, List.setIfInBounds_toArray, List.set_cons_zero, List.set_cons_succ])
            refine wpAnyH_take2 (i := 10) (v := ?_) rfl (by kernel_rfl) (by kernel_rfl) (by kernel_rfl) (fun _ _ _ h => h) (Or.inl ⟨by rfl, ?_⟩) (by assumption) ?_; rotate_left; (focus (intro w hSw; (obtain ⟨q0, q1⟩ := hSw); (first | (go_simp; done) | (go_simp; with_reducible rfl)))); (try simp only [Act.put, List.setIfInBounds_toArray, List.set_cons_zero, List.set_cons_succ])
            refine wpAnyH_take2 (i := 11) (v := ?_) rfl (by kernel_rfl) (by kernel_rfl) (by kernel_rfl) (fun _ _ _ h => h) (Or.inl ⟨by rfl, ?_⟩) (by assumption) ?_; rotate_left; (focus (intro w hSw; (skip); (first | (go_simp; done) | (go_simp; with_reducible rfl)))); (try simp only [Act.put, List.setIfInBounds_toArray, List.set_cons_zero, List.set_cons_succ])
            refine wpAnyH_ready (rs := [12]) (by kernel_rfl) (by simp) ?_; refine AllReadyH_cons2 rfl (fun K hK => ?_) AllReadyH.nil
            go_simp
            have lA : Below w2.heap.size w2.drew (w2.drew.alloc (.cells #[.int .i64 xt, .int .u64 xv] 94)) := by repeat (first | (with_reducible exact Below.refl _ _) | (with_reducible apply Below.drew) | (with_reducible refine below_drewN ?_ _) | (with_reducible refine below_alloc' ?_ ?_ _; (focus ((try simp) <;> omega))) | (with_reducible refine below_set' ?_ ?_ _; (focus ((try simp) <;> omega))))
            have HVA := Lib.hid (ownsRow_only HV2.out (Only.empty (show Below w2.heap.size w2 (w2.drew.alloc (.cells #[.int .i64 xt, .int .u64 xv] 94)) from (Below.refl _ _).drew.trans lA) (Nat.le_refl _)) (fun _ _ h => h))
            have knf : ∀ j u, ([.int .i64 xt, .int .u64 xv] : List Value)[j]? = some u → (w2.drew.alloc (.cells #[.int .i64 xt, .int .u64 xv] 94)).cell? ((⟨w2.drew.heap.size, 0, none⟩ : Addr).add j) = some u := by
              intro j u hu
              rw [Addr.add_lit, Nat.zero_add, blk_cell (blk_new w2.drew _) j]
              simpa using hu
            have hB4 : Below w.heap.size w (w2.drew.alloc (.cells #[.int .i64 xt, .int .u64 xv] 94)) := btrans HB2.out.drew (Nat.le_refl _) lA
            have SA : (w2.drew.alloc (.cells #[.int .i64 xt, .int .u64 xv] 94)).cell? ⟨g, off + k * 4 + 2, none⟩ = some (.int .i64 xt) ∧ (w2.drew.alloc (.cells #[.int .i64 xt, .int .u64 xv] 94)).cell? ⟨g, off + k * 4 + 3, none⟩ = some (.int .u64 xv) := ⟨bkeep ((Below.refl w2.heap.size w2).drew.trans lA) c2', bkeep ((Below.refl w2.heap.size w2).drew.trans lA) c3'⟩
            have hgw : g < w.heap.size := by
              obtain ⟨b', off', e', hc'⟩ := H.out.2.resolve_left (by omega)
              injection e' with e'
              injection e' with e1 _ _
              obtain ⟨_, _, c0', _⟩ := hc' k hlt
              rw [e1]
              exact World.block_lt_of_cell? w _ c0'
            clear lA
            refine hK.out _ _ SA (fun hS9 => ?_); clear hK K; (try simp only [Act.put, List.setIfInBounds_toArray, List.set_cons_zero, List.set_cons_succ])
            refine wpAnyH_ready (rs := [13]) (by kernel_rfl) (by simp) ?_; refine AllReadyH_cons2 rfl (fun K hK => ?_) AllReadyH.nil
            refine step_append_own rfl (.tmp 45) (.tmp 57) 71 rfl w.heap.size 94 i0 (.agg #[.int .i64 0, .int .u64 0]) 2 16 Tryz.underlying71 hi hz0 hz1 hz2 rfl (by decide) _ (readsL (l.take k) t).length (pairVals (readsL (l.take k) t)) rfl HVA.out ⟨w2.drew.heap.size, 0, none⟩ 1 1 [.int .i64 xt, .int .u64 xv] rfl rfl knf (by intro u hu; simp at hu; rcases hu with rfl | rfl <;> rfl) (by unfold maxLen; omega) (by omega) (Nat.le_trans hsz2 (by simp)) ?_
            intro v5 w5 hown5 hgr5 _
            have hB5 : Below w.heap.size w w5 := hB4.grown hgr5 (Nat.le_trans hsz2 (by simp)) (fun k hk => (World.ownsRow.lt HV2.out k hk).1)
            have S5 : w5.cell? ⟨g, off + k * 4 + 2, none⟩ = some (.int .i64 xt) ∧ w5.cell? ⟨g, off + k * 4 + 3, none⟩ = some (.int .u64 xv) := by
              have e2 := hB2cell HB2.out c2' hB5 hgw
              have e3 := hB2cell HB2.out c3' hB5 hgw
              exact ⟨e2, e3⟩
            have HB5 := Lib.hid hB5
            have HP5 := Lib.hid (show PairsAt w.heap.size w5 v5 (readsL (l.take (k + 1)) t) from by rw [HT3.out]; unfold PairsAt; rw [pairVals_append, List.length_append]; exact hown5)
            clear hown5 hgr5 hB5 hB4 knf SA
            dsimp only
            refine hK.out _ _ S5 (fun hS9 => ?_); clear hK K; (try simp only [Act.put, List.setIfInBounds_toArray, List.set_cons_zero, List.set_cons_succ])
            refine wpAnyH_take2 (i := 14) (v := ?_) rfl (by kernel_rfl) (by kernel_rfl) (by kernel_rfl) (fun _ _ _ h => h) (Or.inl ⟨by rfl, ?_⟩) (by assumption) ?_; rotate_left; (focus (intro w hSw; (skip); (first | (go_simp; done) | (go_simp; with_reducible rfl)))); (try simp only [Act.put, List.setIfInBounds_toArray, List.set_cons_zero, List.set_cons_succ])
            refine wpAnyH_done (by kernel_rfl) ?_ _
            go_wp2_with fail
            exact ⟨⟨k + 1, by go_num, by omega, HP5.out, HB5.out⟩, by simp [intOf]; omega⟩
    · obtain rfl : k = n := by omega
      have hv := HV.out
      rw [List.take_of_length_le (by rw [H.out.1]; exact Nat.le_refl _)] at hv
      have HV2 := Lib.hid hv
      clear hv
      go_wp2_with fail
      go_ret
      exact ⟨_, rfl, HV2.out, HB.out⟩
theorem rwrites_any (w : World) (p : Option Addr) (n c : Nat) (l : List Ev) (h : EvsIn w p n l) (hok : ∀ x ∈ l, 0 ≤ x.v ∧ x.v < 18446744073709551616) (hn : n ≤ 1000000) (t : Int) :
    Calls Tryz.prog 66 #[.slice p n c, .int .i64 t] w fun e w' => ∃ v, e = .returned v ∧ PairsAt w.heap.size w' v (allK (getL (ownL l t)) 12) ∧ Below w.heap.size w w' := by
  have HO := Lib.hid (rown_any w p n c l h hok hn n (Nat.le_refl _) t)
  rw [List.take_of_length_le (by rw [h.1]; exact Nat.le_refl _)] at HO
  clear h hok
  go_enter Tryz.func66, Tryz.ntmps66
  go_wp2_with fail
  refine HO.out.mono ?_
  rintro e w1 ⟨q, rfl, hq, hqs, l1⟩
  have HA := Lib.hid (rall_p hq)
  have L1 := Lib.hid l1
  clear hq hqs l1 HO
  go_wp2_with fail
  refine HA.out.mono ?_
  rintro e w2 ⟨v, rfl, hv, l2⟩
  have HV := Lib.hid (ownsRow_base hv fun k hk => Nat.le_trans L1.out.size (hv.lt k hk).1)
  have L2 := Lib.hid (btrans L1.out (Nat.le_refl _) l2)
  clear hv l2 HA
  go_wp2_with fail
  go_ret
  exact ⟨_, rfl, HV.out, L2.out⟩
end Go.Proofs.YtganmdbhmihjpaaGreat.Opa
