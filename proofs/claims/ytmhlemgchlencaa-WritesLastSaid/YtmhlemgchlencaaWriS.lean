/- The other side: Push, Fork, Get, All, Len. -/
import Derived.Test.YtmhlemgchlencaaWriQ
namespace Go.Proofs.Ytmhlemgchlencaa.Wri
open Go.RowKit
set_option linter.unusedSimpArgs false
set_option linter.unusedVariables false

def RPushPost (w : World) (b : Nat) (gs : List Frm) (e : Ending) (w' : World) : Prop :=
  if 5 ≤ gs.length then e = .returned (.int .i64 4) ∧ w = w' else e = .returned (.int .i64 0) ∧ Only (fun k => k = b) w w' ∧ RLogAt w' b (gs ++ [[]])
set_option maxHeartbeats 1600000 in
theorem rpush_any (w : World) (b : Nat) (gs : List Frm) (h : RLogAt w b gs) : Calls Try.prog 38 #[ptr b] w (RPushPost w b gs) := by
  have hD := rdepth_any w b gs h
  obtain ⟨i0, hi0, hz0, hz1, hz2⟩ := info_parts infoR
  obtain ⟨g, cap, hb, hS, hx1, hx5⟩ := h
  have hblt := blk_lt hb
  obtain ⟨n, hn⟩ : ∃ n, gs.length = n := ⟨_, rfl⟩
  have HN := Lib.hid hn
  rw [hn] at hb hS hD hx1 hx5
  have b0 := blk_cell hb 0
  simp only [List.getElem?_toArray, List.getElem?_cons_zero, List.getElem?_cons_succ] at b0
  have HB := Lib.hid hb; have HS := Lib.hid hS; have HD := Lib.hid hD
  unfold RPushPost
  rw [hn]
  clear hb hS hn hD
  by_cases h5 : 5 ≤ n
  · simp only [if_pos h5]
    have hd : decide ((4 : Int) ≤ (n : Int) - 1) = true := by simp; omega
    go_enter Try.func38, Try.ntmps38
    go_wp2_with fail; refine (HD.out).mono ?_; rintro e w0 ⟨rfl, rfl⟩
    go_wp2
    go_ret
    exact ⟨rfl, rfl⟩
  · simp only [if_neg h5]
    have hd : decide ((4 : Int) ≤ (n : Int) - 1) = false := by simp; omega
    go_enter Try.func38, Try.ntmps38
    go_wp2_with fail
    refine (HD.out).mono ?_
    rintro e w0 ⟨rfl, hw0⟩
    subst hw0
    go_wp2_with (at_builtin; refine wpList_append_own _ rfl _ _ 68 rfl w.heap.size 74 i0 (.agg (rc []).toArray) 24 112 Try.underlying68 hi0 hz0 hz1 hz2 zR (by decide) _ 0 [] rfl (empty_row w _ 24 _ (Nat.le_refl _)) ⟨g, 0, none⟩ n cap (rowV gs) rfl ?c0 ?c1 (rowV_one gs) ?c3 ?c4 ?c5 ?_)
    case c0 => rw [rowV_len, HN.out]
    case c1 =>
      intro j u hu
      have := HS.out.cells (g := g) rfl j u hu
      exact bkeep ((Below.refl _ _).alloc (Nat.le_refl _) _) this
    case c3 => unfold maxLen; omega
    case c4 => omega
    case c5 => simp
    intro v' w1 hown hgr _
    have hB1 : Below w.heap.size w w1 := ((Below.refl _ w).alloc (Nat.le_refl _) (.cells #[] 74)).grown hgr (by simp) (by simp [Value.ownBlock])
    try simp only [Nat.zero_add, List.nil_append] at hown
    rcases hown.2 with ⟨rfl, hn0⟩ | ⟨g', cap', cur', rfl, hg1, hg2, _⟩
    · omega
    have HOWN := Lib.hid hown; have HB1 := Lib.hid hB1
    clear hown hgr hB1 b0 hg2
    go_wp2_with (at_builtin; refine wpList_append_own _ rfl _ _ 68 rfl w.heap.size 74 i0 (.agg (rc []).toArray) 24 112 Try.underlying68 hi0 hz0 hz1 hz2 zR (by decide) _ n (rowV gs) rfl (ownsRow_only HOWN.out (Only.empty ((Below.refl w1.heap.size w1).alloc (Nat.le_refl _) _) (Nat.le_refl _)) (fun _ _ h => h)) ⟨w1.heap.size, 0, none⟩ 1 1 (rc []) rfl (by rw [rc_len]) ?c1 (rc_one []) ?c3 ?c4 ?c5 ?_)
    case c1 =>
      intro j u hu
      have := blk_cell (blk_new w1 (.cells (rc []).toArray 74)) j
      rw [show (⟨w1.heap.size, 0, none⟩ : Addr).add j = ⟨w1.heap.size, j, none⟩ by rw [Addr.add_lit, Nat.zero_add]]
      refine Eq.trans this ?_
      simpa using hu
    case c3 => unfold maxLen; omega
    case c4 => omega
    case c5 => have := HB1.out.size; simp; omega
    intro v' w2 hown hgr _
    have hB2 : Below w.heap.size w w2 := (HB1.out.alloc HB1.out.size _).grown hgr (by have := HB1.out.size; simp; omega) (fun k hk => (HOWN.out.lt k hk).1)
    rcases hown.2 with ⟨rfl, hn0⟩ | ⟨g2, cap2, cur2, rfl, hg3, hg4, _⟩
    · omega
    have HOWN2 := Lib.hid hown; have HB2 := Lib.hid hB2
    have hbb := bblk hB2 HB.out
    have hfb := blk_free hbb
    have b0' := blk_cell hbb 0
    simp only [List.getElem?_toArray, List.getElem?_cons_zero, List.getElem?_cons_succ] at b0'
    have HBB := Lib.hid hbb
    clear hown hgr hB2 hg4 hbb
    go_wp2
    go_ret
    refine ⟨rfl, (Only.of_below (S := fun k => k = b) HB2.out (fun k hk h => by omega)).setCell (p := ⟨b, 0, none⟩) (.inr rfl) _, g2, cap2, ?_, ?_, ?_, ?_⟩
    · rw [blk_set HBB.out 0, List.length_append, HN.out]
      rfl
    · rw [List.length_append, HN.out, rowV_append]
      refine ownsRow_only (S := fun k => k = b) (ownsRow_base (base := w.heap.size) (base' := 0) (v := .slice (some ⟨g2, 0, none⟩) (n + 1) cap2) ?_ (fun _ _ => Nat.zero_le _)) ((Only.refl (fun k => k = b) _).setCell (p := ⟨b, 0, none⟩) (.inr rfl) _) ?_
      · simpa [rowV] using HOWN2.out
      · intro k hk e
        injection hk with hk
        have hk2 : g2 = b := hk.trans e
        omega
    · rw [List.length_append, HN.out]; simp
    · rw [List.length_append, HN.out]; simp; omega
theorem rfork_any (w : World) (b : Nat) (gs : List Frm) (h : RLogAt w b gs) : Calls Try.prog 22 #[ptr b] w fun e w' => ∃ b', e = .returned (ptr b') ∧ w.heap.size ≤ b' ∧ RLogAt w' b' gs ∧ Below w.heap.size w w' := by
  obtain ⟨i0, hi0, hz0, hz1, hz2⟩ := info_parts infoR
  obtain ⟨g, cap, hb, hS, hx1, hx5⟩ := h
  have hblt := blk_lt hb
  obtain ⟨n, hn⟩ : ∃ n, gs.length = n := ⟨_, rfl⟩
  have HN := Lib.hid hn
  rw [hn] at hb hS hx1 hx5
  have b0 := blk_cell hb 0
  simp only [List.getElem?_toArray, List.getElem?_cons_zero, List.getElem?_cons_succ] at b0
  have HB := Lib.hid hb; have HS := Lib.hid hS
  clear hb hS hn
  go_enter Try.func22, Try.ntmps22
  go_wp2_with (at_builtin; refine wpList_append_own _ rfl _ _ 68 rfl w.heap.size 74 i0 (.agg (rc []).toArray) 24 112 Try.underlying68 hi0 hz0 hz1 hz2 zR (by decide) _ 0 [] rfl (empty_row w _ 24 _ (Nat.le_refl _)) ⟨g, 0, none⟩ n cap (rowV gs) rfl ?c0 ?c1 (rowV_one gs) ?c3 ?c4 ?c5 ?_)
  case c0 => rw [rowV_len, HN.out]
  case c1 =>
    intro j u hu
    have := HS.out.cells (g := g) rfl j u hu
    exact bkeep ((Below.refl _ _).alloc (Nat.le_refl _) _) this
  case c3 => unfold maxLen; omega
  case c4 => omega
  case c5 => simp
  intro v' w1 hown hgr _
  have hB1 : Below w.heap.size w w1 := ((Below.refl _ w).alloc (Nat.le_refl _) (.cells #[] 74)).grown hgr (by simp) (by simp [Value.ownBlock])
  try simp only [Nat.zero_add, List.nil_append] at hown
  rcases hown.2 with ⟨rfl, hn0⟩ | ⟨g', cap', cur', rfl, hg1, hg2, _⟩
  · omega
  have HOWN := Lib.hid hown; have HB1 := Lib.hid hB1
  clear hown hgr hB1 b0 hg2
  go_wp2
  go_ret
  have lb : Below w1.heap.size w1 (w1.alloc (.cells #[.slice (some ⟨g', 0, none⟩) n cap'] 70)) := by repeat (first | (with_reducible exact Below.refl _ _) | (with_reducible apply Below.drew) | (with_reducible refine below_drewN ?_ _) | (with_reducible refine below_alloc' ?_ ?_ _; (focus ((try simp) <;> omega))) | (with_reducible refine below_set' ?_ ?_ _; (focus ((try simp) <;> omega))))
  refine ⟨w1.heap.size, rfl, HB1.out.size, ⟨g', cap', ?_, ?_, ?_, ?_⟩, btrans HB1.out (Nat.le_refl _) lb⟩
  · rw [HN.out]; exact blk_new _ _
  · rw [HN.out]; exact ownsRow_only (ownsRow_base HOWN.out (fun _ _ => Nat.zero_le _)) (Only.empty lb (Nat.le_refl _)) (fun _ _ h => h)
  · rw [HN.out]; exact hx1
  · rw [HN.out]; exact hx5
/-! ### Get -/
/-- what was written last -/
def getL (fs : List Frm) (t : Int) : Option Int := fs.findSome? fun f => getF f t
theorem getL_hit {gs : List Frm} {j : Nat} {f : Frm} {t v : Int} (hj : gs[j]? = some f) (hv : getF f t = some v) (h : ∀ i f', j < i → gs[i]? = some f' → getF f' t = none) : getL gs.reverse t = some v := by
  induction gs generalizing j with
  | nil => simp at hj
  | cons x gs ih =>
    unfold getL
    rw [List.reverse_cons, List.findSome?_append]
    cases j with
    | zero =>
      have hn : gs.reverse.findSome? (fun f => getF f t) = none := by
        rw [List.findSome?_eq_none_iff]
        intro y hy
        obtain ⟨i, hi⟩ := List.mem_iff_getElem?.1 (List.mem_reverse.1 hy)
        exact h (i + 1) y (by omega) (by simpa using hi)
      rw [hn]
      simp at hj
      subst hj
      simp [hv]
    | succ j =>
      have := ih (j := j) (by simpa using hj) (fun i f' hi hf => h (i + 1) f' (by omega) (by simpa using hf))
      unfold getL at this
      rw [this]; rfl
theorem getL_none {gs : List Frm} {t : Int} (h : ∀ (i : Nat) f', gs[i]? = some f' → getF f' t = none) : getL gs.reverse t = none := by
  unfold getL
  rw [List.findSome?_eq_none_iff]
  intro y hy
  obtain ⟨i, hi⟩ := List.mem_iff_getElem?.1 (List.mem_reverse.1 hy)
  exact h i y hi
theorem rget_out (w : World) (b : Nat) (t : Int) (ht : ¬ okT t) : Calls Try.prog 32 #[ptr b, .int .i64 t] w fun e w' => e = .returned (.tuple #[.int .u64 0, .bool false]) ∧ w = w' := by
  by_cases h1 : t < 0
  · have hd : decide (t < 0) = true := by simpa using h1
    go_enter Try.func32, Try.ntmps32
    go_wp2
    go_ret2
    exact ⟨rfl, rfl⟩
  · have hd : decide (t < 0) = false := by simpa using h1
    have hd2 : decide (12 ≤ t) = true := by unfold okT at ht; (try simp); omega
    go_enter Try.func32, Try.ntmps32
    go_wp2
    go_ret2
    exact ⟨rfl, rfl⟩
set_option maxHeartbeats 1600000 in
theorem rget_in (w : World) (b : Nat) (gs : List Frm) (h : RLogAt w b gs) (t : Nat) (ht : t < 12) : Calls Try.prog 32 #[ptr b, .int .i64 t] w fun e w' => e = .returned (.tuple #[.int .u64 ((getL gs.reverse t).getD 0), .bool (getL gs.reverse t).isSome]) ∧ w = w' := by
  obtain ⟨g, cap, hb, hS, hx1, hx5⟩ := h
  obtain ⟨n, hn⟩ : ∃ n, gs.length = n := ⟨_, rfl⟩
  have HN := Lib.hid hn
  rw [hn] at hb hS hx1 hx5
  have b0 := blk_cell hb 0
  simp only [List.getElem?_toArray, List.getElem?_cons_zero, List.getElem?_cons_succ] at b0
  have HS := Lib.hid hS
  have hd : decide ((t : Int) < 0) = false := by (try simp) <;> omega
  have hd2 : decide ((12 : Int) ≤ t) = false := by simp; omega
  have ht12 : (t : Int) < 12 := by omega
  have hw : IntKind.i64.wrap ((n : Int) - 1) = (n : Int) - 1 := by rw [IntKind.wrap_i64]; omega
  clear hb hS hn
  go_enter Try.func32, Try.ntmps32
  go_wp2
  go_loopw [6] (fun i wr => ∃ k : Nat, i = .int .i64 ((k : Int) - 1) ∧ k ≤ n ∧ wr = w ∧ ∀ i' f', k ≤ i' → gs[i']? = some f' → getF f' t = none) (fun i _ => (intOf i + 1).toNat)
  case atStart => exact ⟨n, rfl, Nat.le_refl _, rfl, fun i' f' hi hf => by
    have := (List.getElem?_eq_some_iff.1 hf).1
    have := HN.out
    omega⟩
  case round =>
    obtain ⟨k, rfl, hk, rfl, hno⟩ := hrel
    have HNO := Lib.hid hno
    clear hno
    cases k with
    | zero =>
      have hG := getL_none (gs := gs) (t := t) (fun i f' hf => HNO.out i f' (Nat.zero_le _) hf)
      have HG := Lib.hid hG
      clear hG
      go_wp2
      go_ret2
      exact ⟨by rw [HG.out]; rfl, rfl⟩
    | succ j =>
      rw [show ((j + 1 : Nat) : Int) - 1 = (j : Int) by omega]
      obtain ⟨f, hf⟩ : ∃ f, gs[j]? = some f := ⟨gs[j]'(by rw [HN.out]; omega), List.getElem?_eq_getElem _⟩
      have hjn : (j : Int) < n := by omega
      have r0 := rowV_get gs j t (by omega)
      have r1 := rowV_get gs j (12 + t) (by omega)
      rw [hf, Option.bind_some, rc_has _ _ ht] at r0
      rw [hf, Option.bind_some, rc_val _ _ ht] at r1
      have c0 := HS.out.cells (g := g) rfl _ _ r0
      have c1 := HS.out.cells (g := g) rfl _ _ r1
      rw [Addr.add_lit, Nat.zero_add] at c0 c1
      have HF := Lib.hid hf
      have hwj : IntKind.i64.wrap ((j : Int) - 1) = (j : Int) - 1 := by rw [IntKind.wrap_i64]; omega
      have c1' := c1
      rw [← Nat.add_assoc] at c1'
      clear hf r0 r1
      cases hg : getF f t with
      | some v =>
        rw [hg] at c0 c1 c1'
        simp only [Option.getD_some, Option.isSome_some] at c0 c1 c1'
        have hG := getL_hit HF.out hg (fun i f' hi hf => HNO.out i f' (by omega) hf)
        have HG := Lib.hid hG
        clear hG hg
        go_wp2
        go_ret2
        exact ⟨by rw [HG.out]; rfl, rfl⟩
      | none =>
        rw [hg] at c0 c1 c1'
        simp only [Option.getD_none, Option.isSome_none] at c0 c1 c1'
        have hno' : ∀ i' f', j ≤ i' → gs[i']? = some f' → getF f' t = none := fun i' f' hi hf => by
          by_cases e : i' = j
          · subst e; rw [HF.out] at hf; injection hf with hf; rw [← hf]; exact hg
          · exact HNO.out i' f' (by omega) hf
        have HNO2 := Lib.hid hno'
        clear hno' hg
        go_wp2
        exact ⟨⟨j, by first | rfl | trivial, by omega, by first | rfl | trivial, HNO2.out⟩, by simp [intOf]; try omega⟩
/-! ### All, Len -/
theorem rget_any (w : World) (b : Nat) (gs : List Frm) (h : RLogAt w b gs) (t : Int) : Calls Try.prog 32 #[ptr b, .int .i64 t] w fun e w' => e = .returned (.tuple #[.int .u64 ((if okT t then getL gs.reverse t else none).getD 0), .bool (if okT t then getL gs.reverse t else none).isSome]) ∧ w = w' := by
  by_cases ht : okT t
  · obtain ⟨k, rfl⟩ : ∃ k : Nat, t = k := ⟨t.toNat, by unfold okT at ht; omega⟩
    rw [if_pos ht]
    exact rget_in w b gs h k (by unfold okT at ht; omega)
  · rw [if_neg ht]
    exact rget_out w b t ht
theorem allK_congr {g g' : Int → Option Int} {n : Nat} (h : ∀ k : Nat, k < n → g k = g' k) : allK g n = allK g' n := by
  induction n with
  | zero => rfl
  | succ n ih => rw [allK, allK, ih (fun k hk => h k (by omega)), h n (by omega)]
set_option maxHeartbeats 1600000 in
theorem rall_any (w : World) (b : Nat) (gs : List Frm) (h : RLogAt w b gs) : Calls Try.prog 33 #[ptr b] w (AllPost w (getL gs.reverse)) := by
  obtain ⟨i0, hi, hz0, hz1, hz2⟩ := info_parts infoP
  have HL := Lib.hid h
  clear h
  unfold AllPost
  generalize hG : getL gs.reverse = G
  have HG := Lib.hid hG
  clear hG
  go_enter Try.func33, Try.ntmps33
  go_wp2_with fail
  go_loopw [3, 4] (fun s i wr => ∃ k : Nat, i = .int .i64 k ∧ PairsAt w.heap.size wr s (allK G k) ∧ k ≤ 12 ∧ Below w.heap.size w wr) (fun _ i _ => 12 - (intOf i).toNat)
  case atStart => exact ⟨0, rfl, World.ownsRow_nil _ _ _ _, by decide, Below.refl _ _⟩
  case round =>
    obtain ⟨k, rfl, hR, hk, hB⟩ := hrel
    have HB := Lib.hid hB; have HR := Lib.hid hR
    clear hB hR
    by_cases hlt : k < 12
    · have hget := rget_in wr b gs (HL.out.below HB.out) k hlt
      rw [HG.out] at hget
      have HGET := Lib.hid hget
      clear hget
      go_wp2_with fail
      refine (HGET.out).mono ?_
      rintro e w1 ⟨rfl, hw1⟩
      subst hw1
      cases hg : G k with
      | none =>
        have hA : allK G (k + 1) = allK G k := by simp [allK, hg]
        have HA := Lib.hid hA
        clear hA hg HGET
        simp only [Option.getD_none, Option.isSome_none]
        go_wp2_with fail
        exact ⟨⟨k + 1, by go_num, by rw [HA.out]; exact HR.out, by omega, HB.out⟩, by simp [intOf]; omega⟩
      | some v =>
        have hA : allK G (k + 1) = allK G k ++ [((k : Int), v)] := by simp [allK, hg]
        have HA := Lib.hid hA
        have hlen := allK_len G k
        have hsz := HB.out.size
        clear hA hg HGET
        simp only [Option.getD_some, Option.isSome_some]
        go_wp2_with (at_builtin; refine wpList_append_own _ rfl _ _ 32 rfl w.heap.size 26 i0 (.agg #[.int .i64 0, .int .u64 0]) 2 16 Try.underlying32 hi hz0 hz1 hz2 rfl (by decide) _ _ (pairVals (allK G k)) rfl (pairs_grow HR.out ((Below.refl wr.heap.size wr).alloc (Nat.le_refl _) _)) ⟨wr.heap.size, 0, none⟩ 1 1 [.int .i64 k, .int .u64 v] rfl rfl ?c1 ?c2 ?c3 ?c4 ?c5 ?_)
        case c1 =>
          intro j v' hv
          rw [Addr.add_lit]
          have := blk_cell (blk_new wr (.cells #[.int .i64 k, .int .u64 v] 26)) j
          rw [Nat.zero_add, this]
          simpa using hv
        case c2 => simp [Value.oneCell']
        case c3 => unfold maxLen; omega
        case c4 => omega
        case c5 => simp; omega
        intro v' w2 hown hgr _
        have hB2 : Below w.heap.size w w2 := (HB.out.alloc hsz _).grown hgr (by simp; omega) (fun k hk => (HR.out.lt k hk).1)
        have hP2 : PairsAt w.heap.size w2 v' (allK G (k + 1)) := by
          unfold PairsAt
          rw [HA.out, pairVals_append, List.length_append]
          exact hown
        have HB2 := Lib.hid hB2; have HP2 := Lib.hid hP2
        clear hown hgr hB2 hP2
        go_wp2_with fail
        exact ⟨⟨k + 1, by go_num, HP2.out, by omega, HB2.out⟩, by simp [intOf]; omega⟩
    · obtain rfl : k = 12 := by omega
      go_wp2_with fail
      go_ret
      exact ⟨_, rfl, HR.out, HB.out⟩
/-- how many of the first k variables a frame has -/
def cntK (f : Frm) : Nat → Nat
  | 0 => 0
  | k + 1 => cntK f k + if (getF f k).isSome then 1 else 0
theorem cntK_le (f : Frm) (k : Nat) : cntK f k ≤ k := by
  induction k with
  | zero => exact Nat.le_refl _
  | succ k ih => unfold cntK; split <;> omega
def cntG (gs : List Frm) : Nat := (gs.map fun f => cntK f 12).sum
theorem cntG_le (gs : List Frm) : cntG gs ≤ 12 * gs.length := by
  induction gs with
  | nil => exact Nat.le_refl _
  | cons f gs ih =>
    have := cntK_le f 12
    show cntK f 12 + cntG gs ≤ _
    rw [List.length_cons]; omega
theorem cntG_take (gs : List Frm) (k : Nat) (f : Frm) (h : gs[k]? = some f) : cntG (gs.take (k + 1)) = cntG (gs.take k) + cntK f 12 := by
  unfold cntG
  rw [List.take_add_one, h]
  simp
theorem rlen_any (w : World) (b : Nat) (gs : List Frm) (h : RLogAt w b gs) : Calls Try.prog 35 #[ptr b] w fun e w' => e = .returned (.int .i64 (cntG gs : Nat)) ∧ w = w' := by
  obtain ⟨g, cap, hb, hS, hx1, hx5⟩ := h
  obtain ⟨n, hn⟩ : ∃ n, gs.length = n := ⟨_, rfl⟩
  have HN := Lib.hid hn
  rw [hn] at hb hS hx1 hx5
  have b0 := blk_cell hb 0
  simp only [List.getElem?_toArray, List.getElem?_cons_zero, List.getElem?_cons_succ] at b0
  have HS := Lib.hid hS
  clear hb hS hn
  go_enter Try.func35, Try.ntmps35
  go_wp2
  go_loopw [3, 4] (fun s i wr => ∃ k : Nat, i = .int .i64 k ∧ s = .int .i64 (cntG (gs.take k) : Nat) ∧ k ≤ n ∧ wr = w) (fun _ i _ => n - (intOf i).toNat)
  case atStart => exact ⟨0, rfl, rfl, Nat.zero_le _, rfl⟩
  case round =>
    obtain ⟨k, rfl, rfl, hk, rfl⟩ := hrel
    by_cases hlt : k < n
    · obtain ⟨f, hf⟩ : ∃ f, gs[k]? = some f := ⟨gs[k]'(by rw [HN.out]; omega), List.getElem?_eq_getElem _⟩
      have hct := cntG_take gs k f hf
      have hle := cntG_le (gs.take k)
      have hlk : (gs.take k).length ≤ k := List.length_take_le _ _
      have HCT := Lib.hid hct
      obtain ⟨c, hc⟩ : ∃ c, cntG (gs.take k) = c := ⟨_, rfl⟩
      rw [hc] at hle ⊢
      have HC := Lib.hid hc
      have HF := Lib.hid hf
      have hkn : (k : Int) < n := by omega
      clear hct hc hf
      go_wp2
      go_loopw [3, 5] (fun s i wr2 => ∃ t : Nat, i = .int .i64 t ∧ s = .int .i64 (c + cntK f t : Nat) ∧ t ≤ 12 ∧ wr2 = wr) (fun _ i _ => 12 - (intOf i).toNat)
      case atStart => exact ⟨0, rfl, rfl, by decide, rfl⟩
      case round =>
        obtain ⟨t, rfl, rfl, ht, rfl⟩ := hrel
        by_cases ht12 : t < 12
        · have r0 := rowV_get gs k t (by omega)
          rw [HF.out, Option.bind_some, rc_has _ _ ht12] at r0
          have c0 := HS.out.cells (g := g) rfl _ _ r0
          rw [Addr.add_lit, Nat.zero_add] at c0
          have hcl := cntK_le f t
          have hti : (t : Int) < 12 := by omega
          cases hg : getF f t with
          | none =>
            rw [hg] at c0
            simp only [Option.isSome_none] at c0
            have HK := Lib.hid (show cntK f (t + 1) = cntK f t by simp [cntK, hg])
            clear r0 hg
            go_wp2
            exact ⟨⟨t + 1, by go_num, by rw [HK.out], by omega, by first | rfl | trivial⟩, by simp [intOf]; omega⟩
          | some v =>
            rw [hg] at c0
            simp only [Option.isSome_some] at c0
            have HK := Lib.hid (show cntK f (t + 1) = cntK f t + 1 by simp [cntK, hg])
            obtain ⟨q, hq⟩ : ∃ q, c + cntK f t = q := ⟨_, rfl⟩
            rw [hq]
            have HQ := Lib.hid hq
            have hql : q ≤ 1000 := by omega
            clear r0 hg hq
            go_wp2
            exact ⟨⟨t + 1, by go_num, by rw [HK.out, ← HQ.out]; go_num, by omega, by first | rfl | trivial⟩, by simp [intOf]; omega⟩
        · obtain rfl : t = 12 := by omega
          go_wp2
          exact ⟨⟨k + 1, by go_num, by rw [HCT.out, HC.out], by omega, by first | rfl | trivial⟩, by simp [intOf]; omega⟩
    · obtain rfl : k = n := by omega
      have hE : gs.take k = gs := List.take_of_length_le (by rw [HN.out]; exact Nat.le_refl _)
      rw [hE]
      go_wp2
      go_ret
      exact ⟨rfl, rfl⟩
end Go.Proofs.Ytmhlemgchlencaa.Wri
