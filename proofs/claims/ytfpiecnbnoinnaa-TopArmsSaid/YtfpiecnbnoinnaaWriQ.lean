/- The other side: its frames in memory; New, Depth, set. -/
import Derived.Test.YtfpiecnbnoinnaaWriP
import Derived.Deep.MidRow
import Derived.Laws.Rows
import Derived.Laws.Tables
namespace Go.Proofs.Ytfpiecnbnoinnaa.Wri
open Go.RowKit
set_option linter.unusedSimpArgs false
set_option linter.unusedVariables false
set_option maxRecDepth 50000

/-- a frame's cells on the other side: twelve times whether it has one, and twelve values -/
def rc (f : Frm) : List Value := (List.range 12).map (fun t : Nat => .bool (getF f t).isSome) ++ (List.range 12).map (fun t : Nat => .int .u64 ((getF f t).getD 0))
theorem rc_len (f : Frm) : (rc f).length = 24 := by simp [rc]
theorem rc_one (f : Frm) : ∀ u ∈ rc f, u.oneCell' = true := by
  intro u hu
  simp only [rc, List.mem_append, List.mem_map] at hu
  rcases hu with ⟨t, _, rfl⟩ | ⟨t, _, rfl⟩ <;> rfl
theorem rc_has (f : Frm) (t : Nat) (h : t < 12) : (rc f)[t]? = some (.bool (getF f t).isSome) := by
  unfold rc
  rw [List.getElem?_append_left (by simpa using h)]
  simp [h]
theorem rc_val (f : Frm) (t : Nat) (h : t < 12) : (rc f)[12 + t]? = some (.int .u64 ((getF f t).getD 0)) := by
  unfold rc
  rw [List.getElem?_append_right (by simp)]
  simp [h]
theorem rc_put (f : Frm) (t : Nat) (v : Int) (h : t < 12) : ((rc f).set t (.bool true)).set (12 + t) (.int .u64 v) = rc (putF f t v) := by
  apply List.ext_getElem?
  intro j
  by_cases hj : j < 12
  · rw [List.getElem?_set_ne (by omega), rc_has _ _ hj]
    by_cases hjt : j = t
    · subst hjt
      rw [List.getElem?_set_self (by rw [rc_len]; omega), getF_put]
      simp
    · rw [List.getElem?_set_ne (by omega), rc_has _ _ hj, getF_put]
      have : ¬ ((j : Int) = t) := by omega
      simp [this]
  · by_cases hj2 : j < 24
    · obtain ⟨s, rfl⟩ : ∃ s, j = 12 + s := ⟨j - 12, by omega⟩
      have hs : s < 12 := by omega
      rw [rc_val _ _ hs]
      by_cases hjt : s = t
      · subst hjt
        rw [List.getElem?_set_self (by rw [List.length_set, rc_len]; omega), getF_put]
        simp
      · rw [List.getElem?_set_ne (by omega), List.getElem?_set_ne (by omega), rc_val _ _ hs, getF_put]
        have : ¬ ((s : Int) = t) := by omega
        simp [this]
    · rw [List.getElem?_eq_none (by rw [List.length_set, List.length_set, rc_len]; omega), List.getElem?_eq_none (by rw [rc_len]; omega)]
/-- the frames' cells, the first frame first -/
def rowV (gs : List Frm) : List Value := gs.flatMap rc
theorem rowV_len (gs : List Frm) : (rowV gs).length = gs.length * 24 := by
  induction gs with
  | nil => rfl
  | cons f gs ih => rw [rowV, List.flatMap_cons, List.length_append, rc_len, ← rowV, ih, List.length_cons]; omega
theorem rowV_one (gs : List Frm) : ∀ u ∈ rowV gs, u.oneCell' = true := by
  intro u hu
  simp only [rowV, List.mem_flatMap] at hu
  obtain ⟨f, _, hu⟩ := hu
  exact rc_one f u hu
theorem rowV_get (gs : List Frm) : ∀ (i r : Nat), r < 24 → (rowV gs)[i * 24 + r]? = (gs[i]?).bind fun f => (rc f)[r]? := by
  induction gs with
  | nil => intro i r _; simp [rowV]
  | cons f gs ih =>
    intro i r hr
    rw [rowV, List.flatMap_cons, ← rowV]
    cases i with
    | zero => rw [Nat.zero_mul, Nat.zero_add, List.getElem?_append_left (by rw [rc_len]; exact hr)]; rfl
    | succ i =>
      rw [List.getElem?_append_right (by rw [rc_len]; omega), rc_len, show (i + 1) * 24 + r - 24 = i * 24 + r by omega, ih i r hr]
      rfl
theorem rowV_append (gs hs : List Frm) : rowV (gs ++ hs) = rowV gs ++ rowV hs := by simp [rowV]
/-- cells set one by one -/
def setL : List Value → Nat → List Value → List Value
  | xs, _, [] => xs
  | xs, o, v :: r => setL (xs.set o v) (o + 1) r
theorem setL_get : ∀ (vs xs : List Value) (o : Nat), o + vs.length ≤ xs.length → ∀ j, (setL xs o vs)[j]? = if o ≤ j ∧ j < o + vs.length then vs[j - o]? else xs[j]?
  | [], xs, o, _, j => by simp [setL]; omega
  | v :: r, xs, o, h, j => by
    rw [List.length_cons] at h
    rw [setL, setL_get r (xs.set o v) (o + 1) (by rw [List.length_set]; omega) j]
    by_cases h1 : o + 1 ≤ j ∧ j < o + 1 + r.length
    · rw [if_pos h1, if_pos (by rw [List.length_cons]; omega), show j - o = (j - (o + 1)) + 1 by omega, List.getElem?_cons_succ]
    · rw [if_neg h1]
      by_cases h2 : j = o
      · subst h2
        rw [if_pos (by rw [List.length_cons]; omega), List.getElem?_set_self (by omega), Nat.sub_self]; rfl
      · rw [if_neg (by rw [List.length_cons]; omega), List.getElem?_set_ne (by omega)]
theorem setL_row (gs : List Frm) (i : Nat) (f : Frm) (h : i < gs.length) : setL (rowV gs) (i * 24) (rc f) = rowV (gs.set i f) := by
  apply List.ext_getElem?
  intro j
  rw [setL_get _ _ _ (by rw [rc_len, rowV_len]; omega), rc_len]
  obtain ⟨k, r, hr, rfl⟩ : ∃ k r, r < 24 ∧ j = k * 24 + r := ⟨j / 24, j % 24, by omega, by omega⟩
  rw [rowV_get _ _ _ hr, rowV_get _ _ _ hr]
  by_cases hk : k = i
  · subst hk
    rw [if_pos (by omega), show k * 24 + r - k * 24 = r by omega, List.getElem?_set_self h]
    rfl
  · rw [if_neg (by omega), List.getElem?_set_ne (by omega)]
theorem row_setCells {base : Nat} {e : TypeId} {size g cap n : Nat} : ∀ (vs : List Value) (o : Nat) (w : World) (xs : List Value), w.ownsRow base e size (.slice (some ⟨g, 0, none⟩) n cap) n xs → o + vs.length ≤ n * size →
    (w.setCells g o vs).ownsRow base e size (.slice (some ⟨g, 0, none⟩) n cap) n (setL xs o vs)
  | [], o, w, xs, h, _ => h
  | v :: r, o, w, xs, h, hl => by
    rw [List.length_cons] at hl
    exact row_setCells r (o + 1) _ _ (row_set h (by omega)) (by omega)
theorem only_setCells {S : Nat → Prop} {g : Nat} {w : World} (hS : w.heap.size ≤ g ∨ S g) : ∀ (vs : List Value) (o : Nat) (w1 : World), Only S w w1 → Only S w (w1.setCells g o vs)
  | [], o, w1, h => h
  | v :: r, o, w1, h => only_setCells hS r (o + 1) _ (h.setCell (p := ⟨g, o, none⟩) hS v)
theorem infoR : (Try.prog.info? 115).map (fun i => (i.zero, i.size, i.bytes)) = some (some (.agg (rc []).toArray), 24, 112) := by kernel_rfl
theorem zR : (Value.agg (rc []).toArray).cells.size = 24 := by kernel_rfl
theorem sizeR : (Try.prog.info? 115).map (·.size) = some 24 := by kernel_rfl
/-- the other side's log: its frames, the first one first -/
def RLogAt (w : World) (b : Nat) (gs : List Frm) : Prop :=
  ∃ g cap, w.heap[b]? = some (.cells #[.slice (some ⟨g, 0, none⟩) gs.length cap] 110 (0, 0)) ∧ w.ownsRow 0 115 24 (.slice (some ⟨g, 0, none⟩) gs.length cap) gs.length (rowV gs) ∧ 1 ≤ gs.length ∧ gs.length ≤ 5
theorem RLogAt.below {w w' : World} {b : Nat} {gs : List Frm} (h : RLogAt w b gs) (l : Below w.heap.size w w') : RLogAt w' b gs := by
  obtain ⟨g, cap, h1, h2, h3⟩ := h
  exact ⟨g, cap, bblk l h1, ownsRow_only h2 (Only.empty l (Nat.le_refl _)) (fun _ _ h => h), h3⟩
theorem RLogAt.lt {w : World} {b : Nat} {gs : List Frm} (h : RLogAt w b gs) : b < w.heap.size := by
  obtain ⟨g, cap, h1, _⟩ := h
  exact blk_lt h1
theorem empty_row (w : World) (e : TypeId) (size base : Nat) (hb : base ≤ w.heap.size) : (w.alloc (.cells #[] e)).ownsRow base e size (.slice (some ⟨w.heap.size, 0, none⟩) 0 0) 0 [] :=
  ⟨by simp, .inr ⟨w.heap.size, 0, #[], rfl, hb, blk_new _ _, Nat.le_refl _, by decide, by simp, by simp⟩⟩
theorem rnew_any (w : World) : Calls Try.prog 69 #[] w fun e w' => ∃ b, e = .returned (ptr b) ∧ w.heap.size ≤ b ∧ RLogAt w' b [[]] ∧ Below w.heap.size w w' := by
  go_enter Try.func69, Try.ntmps69
  go_wp2
  go_ret
  refine ⟨w.heap.size + 1, by simp [ptr], by omega, ⟨w.heap.size, 1, ?_, ⟨by simp [rowV, rc_len], .inr ⟨w.heap.size, 1, (rc []).toArray, rfl, Nat.zero_le _, ?_, by simp, by decide, by simp [rc_len], by simp [rowV, List.take_of_length_le, rc_len]⟩⟩, by simp, by simp⟩, by repeat (first | (with_reducible exact Below.refl _ _) | (with_reducible apply Below.drew) | (with_reducible refine below_drewN ?_ _) | (with_reducible refine below_alloc' ?_ ?_ _; (focus ((try simp) <;> omega))) | (with_reducible refine below_set' ?_ ?_ _; (focus ((try simp) <;> omega))))⟩
  · simp [↓heap_alloc_eq, ↓heap_set_eq, ↓heap_drew_eq, ↓heap_drewN_eq, setObj, size_drewN]
  · simp [↓heap_alloc_eq, ↓heap_set_eq, ↓heap_drew_eq, ↓heap_drewN_eq, setObj, size_drewN]
    rfl
theorem rdepth_any (w : World) (b : Nat) (gs : List Frm) (h : RLogAt w b gs) : Calls Try.prog 64 #[ptr b] w fun e w' => e = .returned (.int .i64 ((gs.length : Int) - 1)) ∧ w = w' := by
  obtain ⟨g, cap, hb, hS, hx1, hx5⟩ := h
  have b0 := blk_cell hb 0
  simp only [List.getElem?_toArray, List.getElem?_cons_zero, List.getElem?_cons_succ] at b0
  clear hb hS
  obtain ⟨n, hn⟩ : ∃ n, gs.length = n := ⟨_, rfl⟩
  rw [hn] at b0 hx1 hx5 ⊢
  have hw : IntKind.i64.wrap ((n : Int) - 1) = (n : Int) - 1 := by rw [IntKind.wrap_i64]; omega
  clear hn
  go_enter Try.func64, Try.ntmps64
  go_wp2
  go_ret
  exact ⟨rfl, rfl⟩
set_option maxHeartbeats 1600000 in
theorem rset_any (w : World) (b : Nat) (gs : List Frm) (h : RLogAt w b gs) (i : Nat) (hi : i < gs.length) (f : Frm) (A : Array Value) (hA : A.toList = rc f) :
    Calls Try.prog 77 #[ptr b, .int .i64 i, .agg A] w fun e w' => e = .returned (.tuple #[]) ∧ Only (fun k => k = b) w w' ∧ RLogAt w' b (gs.set i f) := by
  obtain ⟨i0, hi0, hz0, hz1, hz2⟩ := info_parts infoR
  obtain ⟨g, cap, hb, hS, hx1, hx5⟩ := h
  have hA24 : A.size = 24 := by have := congrArg List.length hA; simpa [rc_len] using this
  have hA1 : A.all (·.oneCell') = true := Array.all_eq_true_iff_forall_mem.2 (fun v hv => rc_one f v (by rw [← hA]; simpa using hv))
  have b0 := blk_cell hb 0
  simp only [List.getElem?_toArray, List.getElem?_cons_zero, List.getElem?_cons_succ] at b0
  obtain ⟨n, hn⟩ : ∃ n, gs.length = n := ⟨_, rfl⟩
  have HN := Lib.hid hn
  have HB := Lib.hid hb; have HS := Lib.hid hS
  clear b0
  rw [hn] at hi hx1 hx5 HB HS
  have hblt := blk_lt hb
  have hii : (i : Int) < n := by omega
  have L0 := Lib.hid (show Below w.heap.size w (w.alloc (.cells A 115)) by repeat (first | (with_reducible exact Below.refl _ _) | (with_reducible apply Below.drew) | (with_reducible refine below_drewN ?_ _) | (with_reducible refine below_alloc' ?_ ?_ _; (focus ((try simp) <;> omega))) | (with_reducible refine below_set' ?_ ?_ _; (focus ((try simp) <;> omega)))))
  have HX := Lib.hid (blk_new w (.cells A 115))
  have HSZ := Lib.hid (show (Try.prog.info? 115).map (·.size) = some A.size by rw [sizeR, hA24])
  have HAL := Lib.hid hA; have H24 := Lib.hid hA24; have HA1 := Lib.hid hA1
  clear hb hS hn hA hA24 hA1
  go_enter Try.func77, Try.ntmps77
  go_upto_region 1 with (fail)
  have hsz0 := Lib.hid (show (w.alloc (.cells A 115)).heap.size = w.heap.size + 1 by simp)
  generalize w.alloc (.cells A 115) = w0 at *
  have b0 := blk_cell (bblk L0.out HB.out) 0
  have hblt0 := blk_lt (bblk L0.out HB.out)
  simp only [List.getElem?_toArray, List.getElem?_cons_zero, List.getElem?_cons_succ] at b0
  go_wp2_with (at_builtin; refine wpList_append_own _ rfl _ _ 108 rfl w0.heap.size 115 i0 (.agg (rc []).toArray) 24 112 Try.underlying108 hi0 hz0 hz1 hz2 zR (by decide) _ 0 [] rfl (empty_row w0 _ 24 _ (Nat.le_refl _)) ⟨g, 0, none⟩ n cap (rowV gs) rfl ?c0 ?c1 (rowV_one gs) ?c3 ?c4 ?c5 ?_)
  case c0 => rw [rowV_len, HN.out]
  case c1 =>
    intro j u hu
    have := HS.out.cells (g := g) rfl j u hu
    exact bkeep ((Below.refl _ _).alloc (Nat.le_refl _) _) (bkeep L0.out this)
  case c3 => unfold maxLen; omega
  case c4 => omega
  case c5 => simp
  intro v' w1 hown hgr _
  have hB1 : Below w0.heap.size w0 w1 := ((Below.refl _ w0).alloc (Nat.le_refl _) (.cells #[] 115)).grown hgr (by simp) (by simp [Value.ownBlock])
  try simp only [Nat.zero_add, List.nil_append] at hown
  rcases hown.2 with ⟨rfl, hn0⟩ | ⟨g', cap', cur', rfl, hg1, hg2, _⟩
  · omega
  have hfg := blk_free hg2
  have hgl := blk_lt hg2
  have LB1 := Lib.hid (btrans L0.out (Nat.le_refl _) hB1)
  have HX1 := Lib.hid (bblk hB1 HX.out)
  have b0' := bkeep hB1 b0
  have hf0 := blk_free (bblk LB1.out HB.out)
  have HOWN := Lib.hid hown
  have hther : w1.there g' (i * 24) A.size := fun j hj => by
    rw [H24.out] at hj
    refine ⟨?_, hfg _⟩
    have hlen : i * 24 + j < (rowV gs).length := by rw [rowV_len, HN.out]; omega
    have := HOWN.out.cells (g := g') rfl (i * 24 + j) _ (List.getElem?_eq_getElem hlen)
    rw [Addr.add_lit, Nat.zero_add] at this
    rw [this]
    rfl
  have HT := Lib.hid hther
  have hb2 := bblk LB1.out HB.out
  have hne : ¬ b = g' := by have := hsz0.out; omega
  have HO3 := only_setCells (S := fun k => k = g') (g := g') (w := w1) (.inr rfl) A.toList (i * 24) w1 (Only.refl _ _)
  have hc2 := HO3.cell b0' hne
  have hfz2 : ∀ j, (w1.setCells g' (i * 24) A.toList).frozen? ⟨b, j, none⟩ = false := fun j => by rw [World.frozen?_setCells]; exact blk_free hb2 j
  have HO3 := Lib.hid HO3; have HB2 := Lib.hid hb2
  clear hb2 hown hgr hB1 b0 hg2 hther
  go_wp2_with (first | (refine wpList_load_row rfl 115 _ rfl w.heap.size rfl 115 A (0, 0) _ HX1.out Try.underlying115 rfl HSZ.out ?_) | (refine wpList_store_mid rfl 115 _ _ rfl g' (i * 24) A rfl rfl HT.out HSZ.out HA1.out ?_))
  go_end0
  have hrow := row_setCells A.toList (i * 24) w1 _ HOWN.out (by rw [HAL.out, rc_len]; omega)
  rw [HAL.out, setL_row gs i f (by rw [HN.out]; exact hi), ← HAL.out] at hrow
  refine ⟨rfl, ?_, g', cap', ?_, ?_, ?_, ?_⟩
  · have h1 : Only (fun k => k = b) w w1 := Only.of_below LB1.out (fun k hk h => by omega)
    refine Only.setCell (p := ⟨b, 0, none⟩) (h1.after HO3.out (fun k hk e => ?_)) (.inr rfl) _
    have := hsz0.out
    omega
  · rw [blk_set (HO3.out.blk HB2.out hne) 0]
    rw [List.length_set, HN.out]
    rfl
  · rw [List.length_set, HN.out]
    refine ownsRow_only (S := fun k => k = b) (ownsRow_base hrow (fun _ _ => Nat.zero_le _)) ((Only.refl (fun k => k = b) _).setCell (p := ⟨b, 0, none⟩) (.inr rfl) _) ?_
    intro k hk e
    injection hk with hk
    exact hne (e.symm.trans hk.symm)
  · rw [List.length_set, HN.out]; exact hx1
  · rw [List.length_set, HN.out]; exact hx5
end Go.Proofs.Ytfpiecnbnoinnaa.Wri
