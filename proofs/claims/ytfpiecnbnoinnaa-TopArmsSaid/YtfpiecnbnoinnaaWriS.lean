/- The other side: Push, Fork, Get, All, Len. -/
import Derived.Test.YtfpiecnbnoinnaaWriQ
namespace Go.Proofs.Ytfpiecnbnoinnaa.Wri
open Go.RowKit
set_option linter.unusedSimpArgs false
set_option linter.unusedVariables false
set_option maxRecDepth 50000

def RPushPost (w : World) (b : Nat) (gs : List Frm) (e : Ending) (w' : World) : Prop :=
  if 5 ≤ gs.length then e = .returned (.int .i64 4) ∧ w = w' else e = .returned (.int .i64 0) ∧ Only (fun k => k = b) w w' ∧ RLogAt w' b (gs ++ [[]])
set_option maxHeartbeats 1600000 in
theorem rpush_any (w : World) (b : Nat) (gs : List Frm) (h : RLogAt w b gs) : Calls Try.prog 72 #[ptr b] w (RPushPost w b gs) := by
  have hD := rdepth_any w b gs h
  obtain ⟨i0, hi0, hz0, hz1, hz2⟩ := info_parts infoR
  obtain ⟨g, cap, hb, hS, hx1, hx5⟩ := h
  have hblt := blk_lt hb
  obtain ⟨n, hn⟩ : ∃ n, gs.length = n := ⟨_, rfl⟩
  have HN := Lib.hid hn
  rw [hn] at hb hS hD hx1 hx5
  have b0 := blk_cell hb 0
  simp only [List.getElem?_toArray, List.getElem?_cons_zero, List.getElem?_cons_succ] at b0
  have HB := Lib.hid hb; have HS := Lib.hid hS; have HD := Lib.hid hD
  unfold RPushPost
  rw [hn]
  clear hb hS hn hD
  by_cases h5 : 5 ≤ n
  · simp only [if_pos h5]
    have hd : decide ((4 : Int) ≤ (n : Int) - 1) = true := by simp; omega
    go_enter Try.func72, Try.ntmps72
    go_wp2_with fail; refine (HD.out).mono ?_; rintro e w0 ⟨rfl, rfl⟩
    go_wp2
    go_ret
    exact ⟨rfl, rfl⟩
  · simp only [if_neg h5]
    have hd : decide ((4 : Int) ≤ (n : Int) - 1) = false := by simp; omega
    go_enter Try.func72, Try.ntmps72
    go_wp2_with fail
    refine (HD.out).mono ?_
    rintro e w0 ⟨rfl, hw0⟩
    subst hw0
    go_wp2_with (at_builtin; refine wpList_append_own _ rfl _ _ 108 rfl w.heap.size 115 i0 (.agg (rc []).toArray) 24 112 Try.underlying108 hi0 hz0 hz1 hz2 zR (by decide) _ 0 [] rfl (empty_row w _ 24 _ (Nat.le_refl _)) ⟨g, 0, none⟩ n cap (rowV gs) rfl ?c0 ?c1 (rowV_one gs) ?c3 ?c4 ?c5 ?_)
    case c0 => rw [rowV_len, HN.out]
    case c1 =>
      intro j u hu
      have := HS.out.cells (g := g) rfl j u hu
      exact bkeep ((Below.refl _ _).alloc (Nat.le_refl _) _) this
    case c3 => unfold maxLen; omega
    case c4 => omega
    case c5 => simp
    intro v' w1 hown hgr _
    have hB1 : Below w.heap.size w w1 := ((Below.refl _ w).alloc (Nat.le_refl _) (.cells #[] 115)).grown hgr (by simp) (by simp [Value.ownBlock])
    try simp only [Nat.zero_add, List.nil_append] at hown
    rcases hown.2 with ⟨rfl, hn0⟩ | ⟨g', cap', cur', rfl, hg1, hg2, _⟩
    · omega
    have HOWN := Lib.hid hown; have HB1 := Lib.hid hB1
    clear hown hgr hB1 b0 hg2
    go_wp2_with (at_builtin; refine wpList_append_own _ rfl _ _ 108 rfl w.heap.size 115 i0 (.agg (rc []).toArray) 24 112 Try.underlying108 hi0 hz0 hz1 hz2 zR (by decide) _ n (rowV gs) rfl (ownsRow_only HOWN.out (Only.empty ((Below.refl w1.heap.size w1).alloc (Nat.le_refl _) _) (Nat.le_refl _)) (fun _ _ h => h)) ⟨w1.heap.size, 0, none⟩ 1 1 (rc []) rfl (by rw [rc_len]) ?c1 (rc_one []) ?c3 ?c4 ?c5 ?_)
    case c1 =>
      intro j u hu
      have := blk_cell (blk_new w1 (.cells (rc []).toArray 115)) j
      rw [show (⟨w1.heap.size, 0, none⟩ : Addr).add j = ⟨w1.heap.size, j, none⟩ by rw [Addr.add_lit, Nat.zero_add]]
      refine Eq.trans this ?_
      simpa using hu
    case c3 => unfold maxLen; omega
    case c4 => omega
    case c5 => have := HB1.out.size; simp; omega
    intro v' w2 hown hgr _
    have hB2 : Below w.heap.size w w2 := (HB1.out.alloc HB1.out.size _).grown hgr (by have := HB1.out.size; simp; omega) (fun k hk => (HOWN.out.lt k hk).1)
    rcases hown.2 with ⟨rfl, hn0⟩ | ⟨g2, cap2, cur2, rfl, hg3, hg4, _⟩
    · omega
    have HOWN2 := Lib.hid hown; have HB2 := Lib.hid hB2
    have hbb := bblk hB2 HB.out
    have hfb := blk_free hbb
    have b0' := blk_cell hbb 0
    simp only [List.getElem?_toArray, List.getElem?_cons_zero, List.getElem?_cons_succ] at b0'
    have HBB := Lib.hid hbb
    clear hown hgr hB2 hg4 hbb
    go_wp2
    go_ret
    refine ⟨rfl, (Only.of_below (S := fun k => k = b) HB2.out (fun k hk h => by omega)).setCell (p := ⟨b, 0, none⟩) (.inr rfl) _, g2, cap2, ?_, ?_, ?_, ?_⟩
    · rw [blk_set HBB.out 0, List.length_append, HN.out]
      rfl
    · rw [List.length_append, HN.out, rowV_append]
      refine ownsRow_only (S := fun k => k = b) (ownsRow_base (base := w.heap.size) (base' := 0) (v := .slice (some ⟨g2, 0, none⟩) (n + 1) cap2) ?_ (fun _ _ => Nat.zero_le _)) ((Only.refl (fun k => k = b) _).setCell (p := ⟨b, 0, none⟩) (.inr rfl) _) ?_
      · simpa [rowV] using HOWN2.out
      · intro k hk e
        injection hk with hk
        have hk2 : g2 = b := hk.trans e
        omega
    · rw [List.length_append, HN.out]; simp
    · rw [List.length_append, HN.out]; simp; omega
/-! ### Get -/
/-- what was written last -/
def getL (fs : List Frm) (t : Int) : Option Int := fs.findSome? fun f => getF f t
theorem getL_hit {gs : List Frm} {j : Nat} {f : Frm} {t v : Int} (hj : gs[j]? = some f) (hv : getF f t = some v) (h : ∀ i f', j < i → gs[i]? = some f' → getF f' t = none) : getL gs.reverse t = some v := by
  induction gs generalizing j with
  | nil => simp at hj
  | cons x gs ih =>
    unfold getL
    rw [List.reverse_cons, List.findSome?_append]
    cases j with
    | zero =>
      have hn : gs.reverse.findSome? (fun f => getF f t) = none := by
        rw [List.findSome?_eq_none_iff]
        intro y hy
        obtain ⟨i, hi⟩ := List.mem_iff_getElem?.1 (List.mem_reverse.1 hy)
        exact h (i + 1) y (by omega) (by simpa using hi)
      rw [hn]
      simp at hj
      subst hj
      simp [hv]
    | succ j =>
      have := ih (j := j) (by simpa using hj) (fun i f' hi hf => h (i + 1) f' (by omega) (by simpa using hf))
      unfold getL at this
      rw [this]; rfl
theorem getL_none {gs : List Frm} {t : Int} (h : ∀ (i : Nat) f', gs[i]? = some f' → getF f' t = none) : getL gs.reverse t = none := by
  unfold getL
  rw [List.findSome?_eq_none_iff]
  intro y hy
  obtain ⟨i, hi⟩ := List.mem_iff_getElem?.1 (List.mem_reverse.1 hy)
  exact h i y hi
/-! ### All, Len -/
theorem allK_congr {g g' : Int → Option Int} {n : Nat} (h : ∀ k : Nat, k < n → g k = g' k) : allK g n = allK g' n := by
  induction n with
  | zero => rfl
  | succ n ih => rw [allK, allK, ih (fun k hk => h k (by omega)), h n (by omega)]
/-- how many of the first k variables a frame has -/
def cntK (f : Frm) : Nat → Nat
  | 0 => 0
  | k + 1 => cntK f k + if (getF f k).isSome then 1 else 0
theorem cntK_le (f : Frm) (k : Nat) : cntK f k ≤ k := by
  induction k with
  | zero => exact Nat.le_refl _
  | succ k ih => unfold cntK; split <;> omega
def cntG (gs : List Frm) : Nat := (gs.map fun f => cntK f 12).sum
theorem cntG_le (gs : List Frm) : cntG gs ≤ 12 * gs.length := by
  induction gs with
  | nil => exact Nat.le_refl _
  | cons f gs ih =>
    have := cntK_le f 12
    show cntK f 12 + cntG gs ≤ _
    rw [List.length_cons]; omega
theorem cntG_take (gs : List Frm) (k : Nat) (f : Frm) (h : gs[k]? = some f) : cntG (gs.take (k + 1)) = cntG (gs.take k) + cntK f 12 := by
  unfold cntG
  rw [List.take_add_one, h]
  simp
theorem rlen_any (w : World) (b : Nat) (gs : List Frm) (h : RLogAt w b gs) : Calls Try.prog 76 #[ptr b] w fun e w' => e = .returned (.int .i64 (cntG gs : Nat)) ∧ w = w' := by
  obtain ⟨g, cap, hb, hS, hx1, hx5⟩ := h
  obtain ⟨n, hn⟩ : ∃ n, gs.length = n := ⟨_, rfl⟩
  have HN := Lib.hid hn
  rw [hn] at hb hS hx1 hx5
  have b0 := blk_cell hb 0
  simp only [List.getElem?_toArray, List.getElem?_cons_zero, List.getElem?_cons_succ] at b0
  have HS := Lib.hid hS
  clear hb hS hn
  go_enter Try.func76, Try.ntmps76
  go_wp2
  go_loopw [3, 4] (fun s i wr => ∃ k : Nat, i = .int .i64 k ∧ s = .int .i64 (cntG (gs.take k) : Nat) ∧ k ≤ n ∧ wr = w) (fun _ i _ => n - (intOf i).toNat)
  case atStart => exact ⟨0, rfl, rfl, Nat.zero_le _, rfl⟩
  case round =>
    obtain ⟨k, rfl, rfl, hk, rfl⟩ := hrel
    by_cases hlt : k < n
    · obtain ⟨f, hf⟩ : ∃ f, gs[k]? = some f := ⟨gs[k]'(by rw [HN.out]; omega), List.getElem?_eq_getElem _⟩
      have hct := cntG_take gs k f hf
      have hle := cntG_le (gs.take k)
      have hlk : (gs.take k).length ≤ k := List.length_take_le _ _
      have HCT := Lib.hid hct
      obtain ⟨c, hc⟩ : ∃ c, cntG (gs.take k) = c := ⟨_, rfl⟩
      rw [hc] at hle ⊢
      have HC := Lib.hid hc
      have HF := Lib.hid hf
      have hkn : (k : Int) < n := by omega
      clear hct hc hf
      go_wp2
      go_loopw [3, 5] (fun s i wr2 => ∃ t : Nat, i = .int .i64 t ∧ s = .int .i64 (c + cntK f t : Nat) ∧ t ≤ 12 ∧ wr2 = wr) (fun _ i _ => 12 - (intOf i).toNat)
      case atStart => exact ⟨0, rfl, rfl, by decide, rfl⟩
      case round =>
        obtain ⟨t, rfl, rfl, ht, rfl⟩ := hrel
        by_cases ht12 : t < 12
        · have r0 := rowV_get gs k t (by omega)
          rw [HF.out, Option.bind_some, rc_has _ _ ht12] at r0
          have c0 := HS.out.cells (g := g) rfl _ _ r0
          rw [Addr.add_lit, Nat.zero_add] at c0
          have hcl := cntK_le f t
          have hti : (t : Int) < 12 := by omega
          cases hg : getF f t with
          | none =>
            rw [hg] at c0
            simp only [Option.isSome_none] at c0
            have HK := Lib.hid (show cntK f (t + 1) = cntK f t by simp [cntK, hg])
            clear r0 hg
            go_wp2
            exact ⟨⟨t + 1, by go_num, by rw [HK.out], by omega, by first | rfl | trivial⟩, by simp [intOf]; omega⟩
          | some v =>
            rw [hg] at c0
            simp only [Option.isSome_some] at c0
            have HK := Lib.hid (show cntK f (t + 1) = cntK f t + 1 by simp [cntK, hg])
            obtain ⟨q, hq⟩ : ∃ q, c + cntK f t = q := ⟨_, rfl⟩
            rw [hq]
            have HQ := Lib.hid hq
            have hql : q ≤ 1000 := by omega
            clear r0 hg hq
            go_wp2
            exact ⟨⟨t + 1, by go_num, by rw [HK.out, ← HQ.out]; go_num, by omega, by first | rfl | trivial⟩, by simp [intOf]; omega⟩
        · obtain rfl : t = 12 := by omega
          go_wp2
          exact ⟨⟨k + 1, by go_num, by rw [HCT.out, HC.out], by omega, by first | rfl | trivial⟩, by simp [intOf]; omega⟩
    · obtain rfl : k = n := by omega
      have hE : gs.take k = gs := List.take_of_length_le (by rw [HN.out]; exact Nat.le_refl _)
      rw [hE]
      go_wp2
      go_ret
      exact ⟨rfl, rfl⟩
end Go.Proofs.Ytfpiecnbnoinnaa.Wri
