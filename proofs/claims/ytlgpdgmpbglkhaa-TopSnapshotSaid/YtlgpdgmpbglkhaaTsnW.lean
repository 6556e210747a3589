/- The statement: as long as the lock counts the snapshot what was read is valid. -/
import Derived.Test.YtlgpdgmpbglkhaaRdB
import Derived.Test.YtlgpdgmpbglkhaaSeqC
import Derived.Test.YtlgpdgmpbglkhaaRow
namespace Go.Proofs.Ytlgpdgmpbglkhaa.Tsn
open Go.RowKit
set_option linter.unusedSimpArgs false
set_option linter.unusedVariables false

abbrev ptr (b : Nat) : Value := .pointer (some ⟨b, 0, none⟩)
theorem infoV : (Try.prog.info? 23).map (fun i => (i.zero, i.size, i.bytes)) = some (some (.int .u64 0), 1, 8) := by kernel_rfl
theorem lock_other {w w' : World} {lb g : Nat} {s : Seq.St} (h : Seq.LockAt w lb s) {cs : Array Value} {t : TypeId} {fr : Nat × Nat} (hg : w.heap[g]? = some (.cells cs t fr)) (ht : t ≠ 3) (hl : t ≠ 48) (ho : Only (fun k => k = g) w w') : Seq.LockAt w' lb s := by
  unfold Seq.LockAt at h ⊢
  cases hs : s.own with
  | none =>
    rw [hs] at h
    simp only at h ⊢
    exact ho.blk h (fun e => by subst e; rw [h] at hg; injection hg with hg; injection hg with _ hg _; exact hl hg.symm)
  | some o =>
    rw [hs] at h
    simp only at h ⊢
    obtain ⟨x, h1, h2, h3⟩ := h
    exact ⟨x, h1, ho.blk h2 (fun e => by subst e; rw [h2] at hg; injection hg with hg; injection hg with _ hg _; exact hl hg.symm), ho.blk h3 (fun e => by subst e; rw [h3] at hg; injection hg with hg; injection hg with _ hg _; exact ht hg.symm)⟩
theorem lock_below {w w' : World} {lb : Nat} {s : Seq.St} (h : Seq.LockAt w lb s) (l : Below w.heap.size w w') : Seq.LockAt w' lb s := h.only (Only.empty l (Nat.le_refl _)) (fun _ _ h => h)
/-- while it is free only its own block is the lock's -/
theorem lock_free {w w' : World} {lb : Nat} {S : Nat → Prop} {s : Seq.St} (h : Seq.LockAt w lb s) (hs : s.own = none) (ho : Only S w w') (hb : ¬ S lb) : Seq.LockAt w' lb s := by
  unfold Seq.LockAt at h ⊢
  rw [hs] at h ⊢
  exact ho.blk h hb
theorem hrow_blk {B : Nat} {w : World} {g cap : Nat} {xs : List Value} (h : w.ownsRow B 23 1 (.slice (some ⟨g, 0, none⟩) 4 cap) 4 xs) : ∃ cs, w.heap[g]? = some (.cells cs 23 (0, 0)) := by
  rcases h.2 with ⟨h0, _⟩ | ⟨g', cap', cur, h0, _, hg, _⟩
  · cases h0
  · injection h0 with h0 _ _
    injection h0 with h0
    injection h0 with h0 _ _
    subst h0
    exact ⟨_, hg⟩
theorem hrow_free {B : Nat} {w : World} {g cap : Nat} {xs : List Value} (h : w.ownsRow B 23 1 (.slice (some ⟨g, 0, none⟩) 4 cap) 4 xs) (q : Nat) : w.frozen? ⟨g, q, none⟩ = false := by
  obtain ⟨cs, hg⟩ := hrow_blk h
  exact blk_free hg q
theorem hrow_cell {B : Nat} {w : World} {g cap : Nat} {hs : List Int} (h : w.ownsRow B 23 1 (.slice (some ⟨g, 0, none⟩) 4 cap) 4 (hs.map fun x => .int .u64 x)) (q : Nat) (hq : q < 4) : w.cell? ⟨g, q, none⟩ = some (.int .u64 (hs.getD q 0)) := by
  have hl : hs.length = 4 := by have := h.1; simpa using this
  refine Rd.row_cell1 (v := .nilFunc) h ?_
  rw [List.getElem?_map, List.getElem?_eq_getElem (by omega), List.getD_eq_getElem?_getD, List.getElem?_eq_getElem (by omega)]
  rfl
theorem hrow_heap {B : Nat} {w : World} {g cap : Nat} {hs : List Int} (h : w.ownsRow B 23 1 (.slice (some ⟨g, 0, none⟩) 4 cap) 4 (hs.map fun x => .int .u64 x)) : (4 : Nat) = 0 ∨ ∃ g' off, (some ⟨g, 0, none⟩ : Option Addr) = some ⟨g', off, none⟩ ∧ ∀ i, i < 4 → w.cell? ⟨g', off + i, none⟩ = some (.int .u64 (hs.getD i 0)) :=
  .inr ⟨g, 0, rfl, fun i hi => by rw [Nat.zero_add]; exact hrow_cell h i hi⟩
/-- four values in a row of their own -/
abbrev HRow (B : Nat) (w : World) (g cap : Nat) (hs : List Int) : Prop := w.ownsRow B 23 1 (.slice (some ⟨g, 0, none⟩) 4 cap) 4 (hs.map fun x => .int .u64 x)
theorem HRow.heap {B : Nat} {w : World} {g cap : Nat} {hs : List Int} (h : HRow B w g cap hs) (hu : ∀ x ∈ hs, 0 ≤ x ∧ x < 18446744073709551616) : Rd.HeapAt w (some ⟨g, 0, none⟩) 4 hs := by
  have hl : hs.length = 4 := by have := h.1; simpa using this
  refine ⟨hl, .inr ⟨g, 0, rfl, fun i hi => ?_⟩, fun i => ?_⟩
  · rw [Nat.zero_add]
    refine Rd.row_cell1 (v := .nilFunc) h ?_
    rw [List.getElem?_map, List.getElem?_eq_getElem (by omega), List.getD_eq_getElem?_getD, List.getElem?_eq_getElem (by omega)]
    rfl
  · rw [List.getD_eq_getElem?_getD]
    cases hx : hs[i]? with
    | none => exact ⟨Int.le_refl 0, by decide⟩
    | some x => exact hu x (List.mem_of_getElem? hx)
theorem HRow.blk {B : Nat} {w : World} {g cap : Nat} {hs : List Int} (h : HRow B w g cap hs) : ∃ cs, w.heap[g]? = some (.cells cs 23 (0, 0)) := by
  rcases h.2 with ⟨h0, _⟩ | ⟨g', cap', cur, h0, _, hg, _⟩
  · cases h0
  · injection h0 with h0 _ _
    injection h0 with h0
    injection h0 with h0 _ _
    subst h0
    exact ⟨_, hg⟩
theorem row_set' {w : World} {base : Nat} {e : TypeId} {size g cap n k : Nat} {xs : List Value} {u : Value} (h : w.ownsRow base e size (.slice (some ⟨g, 0, none⟩) n cap) n xs) (hk : k < n * size) :
    (w.setCell ⟨g, k, none⟩ u).ownsRow base e size (.slice (some ⟨g, 0, none⟩) n cap) n (xs.set k u) := by
  have hxl : xs.length = n * size := h.1
  rcases h.2 with ⟨h0, _⟩ | ⟨g', cap', cur, he, hb, hg, hn, hm, hs, ht⟩
  · cases h0
  injection he with e1 _ e3
  injection e1 with e1
  injection e1 with e1 _ _
  subst e1 e3
  refine ⟨by simpa using hxl, .inr ⟨g, cap, cur.setIfInBounds k u, rfl, hb, blk_set hg k u, hn, hm, by simpa using hs, ?_⟩⟩
  rw [← ht]
  simp only [Array.toList_setIfInBounds]
  rw [List.take_set]
/-- what was read is of the first four variables, as it stood -/
structure Reads (es : List Rd.Ent) (hs : List Int) : Prop where
  wf : Rd.WfE es
  at_ : ∀ e ∈ es, e.1 < 4 ∧ e.2.1 = hs.getD e.1.toNat 0
theorem Reads.nil (hs : List Int) : Reads [] hs := ⟨Rd.WfE.nil, fun e h => by cases h⟩
theorem add_ok {es : List Rd.Ent} {hs : List Int} (hr : ∀ i, i < 4 → rightVal (hs.getD i 0) = true) (h8 : es.length < 8) (t : Nat) (ht : t < 4) : Rd.addE es t (hs.getD t 0) 0 = 0 := by
  have hok : Rd.okT (t : Int) := ⟨by omega, by omega⟩
  unfold Rd.addE
  rw [if_neg (by rintro (h | h); exact h hok; exact absurd h (by decide)), if_neg (by rw [hr t ht]; decide)]
  split
  · rfl
  · rw [if_neg (by omega)]
theorem addS_len (es : List Rd.Ent) (t v ver : Int) : (Rd.addS es t v ver).length ≤ es.length + 1 := by
  unfold Rd.addS
  split <;> simp
theorem Reads.add {es : List Rd.Ent} {hs : List Int} (h : Reads es hs) (hu : ∀ i, 0 ≤ hs.getD i 0 ∧ hs.getD i 0 < 18446744073709551616) (t : Nat) (ht : t < 4) : Reads (Rd.addS es t (hs.getD t 0) 0) hs := by
  refine ⟨h.wf.add t _ 0 (hu t), ?_⟩
  unfold Rd.addS
  split
  · intro e he
    rcases List.mem_append.1 he with he | he
    · exact h.at_ e he
    · rw [List.mem_singleton] at he
      subst he
      exact ⟨by show (t : Int) < 4; omega, by simp⟩
  · exact h.at_
theorem brokenP_iff {hs : List Int} (hl : hs.length = 4) (hr : ∀ i, i < 4 → rightVal (hs.getD i 0) = true) {e : Rd.Ent} (h0 : 0 ≤ e.1) (h4 : e.1 < 4) (hv : rightVal e.2.1 = true) : Rd.brokenP hs e = !(hs.getD e.1.toNat 0 == e.2.1) := by
  unfold Rd.brokenP
  rw [canon_of (hr e.1.toNat (by omega)), canon_of hv, hl]
  have : ¬ ((4 : Int) ≤ e.1) := by omega
  simp [this]
theorem Reads.valid {es : List Rd.Ent} {hs : List Int} (h : Reads es hs) (hl : hs.length = 4) (hr : ∀ i, i < 4 → rightVal (hs.getD i 0) = true) : es.any (Rd.brokenP hs) = false := by
  rw [List.any_eq_false]
  intro e he
  obtain ⟨h1, h2⟩ := h.at_ e he
  have h0 := (h.wf.ok e he).1.1
  rw [brokenP_iff hl hr h0 h1 (by rw [h2]; exact hr _ (by omega)), h2]
  simp
theorem getD_set {hs : List Int} (hl : hs.length = 4) (q : Nat) (hq : q < 4) (v : Int) (i : Nat) : (hs.set q v).getD i 0 = if i = q then v else hs.getD i 0 := by
  rw [List.getD_eq_getElem?_getD, List.getD_eq_getElem?_getD, List.getElem?_set]
  by_cases h : q = i
  · subst h; simp [hl, hq]
  · rw [if_neg h, if_neg (fun e => h e.symm)]
/-- behind a commit: broken just where it was read and is another one -/
theorem Reads.behind {es : List Rd.Ent} {hs : List Int} (h : Reads es hs) (hl : hs.length = 4) (hr : ∀ i, i < 4 → rightVal (hs.getD i 0) = true) (q : Nat) (hq : q < 4) (v : Int) (hv : rightVal v = true) :
    es.any (Rd.brokenP (hs.set q v)) = ((Rd.getE es q).isSome && !(v == hs.getD q 0)) := by
  have hl' : (hs.set q v).length = 4 := by rw [List.length_set, hl]
  have hr' : ∀ i, i < 4 → rightVal ((hs.set q v).getD i 0) = true := by
    intro i hi
    rw [getD_set hl q hq]
    split
    · exact hv
    · exact hr i hi
  have hb : ∀ e ∈ es, Rd.brokenP (hs.set q v) e = if e.1 = (q : Int) then !(v == hs.getD q 0) else false := by
    intro e he
    obtain ⟨h1, h2⟩ := h.at_ e he
    have h0 := (h.wf.ok e he).1.1
    rw [brokenP_iff hl' hr' h0 h1 (by rw [h2]; exact hr _ (by omega)), h2, getD_set hl q hq]
    by_cases hk : e.1 = (q : Int)
    · rw [if_pos hk, if_pos (by omega), hk]; simp
    · rw [if_neg hk, if_neg (by omega)]; simp
  cases hg : Rd.getE es q with
  | none =>
    have hn := Rd.getE_none hg
    rw [List.any_eq_false.2]
    · simp
    · intro e he
      rw [hb e he, if_neg (fun hk => hn (List.mem_map.2 ⟨e, he, hk⟩))]
      simp
  | some x =>
    have hx : x ∈ es ∧ x.1 = (q : Int) := by
      unfold Rd.getE at hg
      exact ⟨List.mem_of_find?_eq_some hg, by simpa using List.find?_some hg⟩
    cases hvv : (v == hs.getD q 0)
    · have : es.any (Rd.brokenP (hs.set q v)) = true := List.any_eq_true.2 ⟨x, hx.1, by rw [hb x hx.1, if_pos hx.2, hvv]; rfl⟩
      rw [this]; rfl
    · have : es.any (Rd.brokenP (hs.set q v)) = false := by
        rw [List.any_eq_false]
        intro e he
        rw [hb e he]
        split
        · rw [hvv]; simp
        · simp
      rw [this]; rfl
theorem five_of {H : Type} {enc : TypeId × Value → H} {w : World} {cs : List Value} (h : Fits enc Try.prog w 24 cs) : ∃ v0 v1 v2 v3 v4 : Int, cs = [.int .u64 v0, .int .u64 v1, .int .u64 v2, .int .u64 v3, .int .u64 v4] ∧ (0 ≤ v0 ∧ v0 < 18446744073709551616) ∧ (0 ≤ v1 ∧ v1 < 18446744073709551616) ∧ (0 ≤ v2 ∧ v2 < 18446744073709551616) ∧ (0 ≤ v3 ∧ v3 < 18446744073709551616) ∧ (0 ≤ v4 ∧ v4 < 18446744073709551616) := by
  obtain ⟨hl, hf⟩ := h.array Try.underlying24
  rw [show Try.prog.cellsOf 24 = 5 by kernel_rfl] at hl
  have hc : Try.prog.cellsOf 23 = 1 := by kernel_rfl
  rw [hc] at hf
  match cs, hl with
  | [c0, c1, c2, c3, c4], _ =>
    have g : ∀ i, i < 5 → ∃ v : Int, ([c0, c1, c2, c3, c4] : List Value)[i]? = some (.int .u64 v) ∧ 0 ≤ v ∧ v < 18446744073709551616 := by
      intro i hi
      obtain ⟨v, h0, w0⟩ := (hf i hi).int (k := .u64) (by kernel_rfl)
      have e0 := take_one h0
      have hb := bounds_u64 w0
      exact ⟨v, by simpa using e0, hb.1, by have := hb.2; omega⟩
    obtain ⟨v0, e0, b0⟩ := g 0 (by decide); obtain ⟨v1, e1, b1⟩ := g 1 (by decide); obtain ⟨v2, e2, b2⟩ := g 2 (by decide); obtain ⟨v3, e3, b3⟩ := g 3 (by decide); obtain ⟨v4, e4, b4⟩ := g 4 (by decide)
    simp at e0 e1 e2 e3 e4
    exact ⟨v0, v1, v2, v3, v4, by rw [e0, e1, e2, e3, e4], b0, b1, b2, b3, b4⟩
def Bytes (w : World) (a : Option Addr) (len : Nat) : Prop :=
  len ≤ 9223372036854775807 ∧ (len = 0 ∨ ∃ b off, a = some ⟨b, off, none⟩ ∧ ∀ i, i < len → ∃ x : Int, w.cell? ⟨b, off + i, none⟩ = some (.int .u8 x) ∧ 0 ≤ x ∧ x ≤ 255)
theorem bytes_of {H : Type} {enc : TypeId × Value → H} {w : World} {a : Option Addr} {len cap : Nat} (h : Fits enc Try.prog w 25 [.slice a len cap]) : Bytes w a len := by
  have hc8 : Try.prog.cellsOf 5 = 1 := by kernel_rfl
  obtain ⟨hm, hh⟩ := h.slice Try.underlying25 (by rw [hc8]; decide)
  refine ⟨hm, ?_⟩
  rcases hh with hh | ⟨b, off, rfl, hh⟩
  · exact .inl hh
  refine .inr ⟨b, off, rfl, fun i hi => ?_⟩
  obtain ⟨cs, hl, hc, hf⟩ := hh i hi
  obtain ⟨x, rfl, wf⟩ := hf.int (k := .u8) (by kernel_rfl)
  rw [hc8] at hc
  have := hc 0 (by decide)
  have hb := bounds_u8 wf
  exact ⟨x, by simpa using this, hb.1, by have := hb.2; omega⟩
/-- what the walk has in hand -/
structure Hand (w w' : World) (lb sb g cap : Nat) (F : Nat → Prop) (es : List Rd.Ent) (hs : List Int) (s : Seq.St) : Prop where
  l : Seq.LockAt w' lb s
  r : Rd.SetAt w' sb F es
  h : HRow w.heap.size w' g cap hs
  lo : Below w.heap.size w w'
  Flo : ∀ k, F k → w.heap.size ≤ k
  Fl : ¬ F lb
  Fg : ¬ F g
  lg : lb ≠ g
  llo : w.heap.size ≤ lb
  glo : w.heap.size ≤ g
theorem Hand.below {w w1 w2 : World} {lb sb g cap : Nat} {F : Nat → Prop} {es : List Rd.Ent} {hs : List Int} {s : Seq.St} (H : Hand w w1 lb sb g cap F es hs s) (l : Below w1.heap.size w1 w2) : Hand w w2 lb sb g cap F es hs s :=
  ⟨lock_below H.l l, H.r.below l, ownsRow_only H.h (Only.empty l (Nat.le_refl _)) (fun _ _ h => h), btrans H.lo (Nat.le_refl _) l, H.Flo, H.Fl, H.Fg, H.lg, H.llo, H.glo⟩
theorem Hand.add {w w1 w2 : World} {lb sb g cap : Nat} {F : Nat → Prop} {es es' : List Rd.Ent} {hs : List Int} {s : Seq.St} (H : Hand w w1 lb sb g cap F es hs s) (hn : s.own = none) (h : Rd.SetAt w2 sb (Grow F w1 w2) es') (ho : Only F w1 w2) : Hand w w2 lb sb g cap (Grow F w1 w2) es' hs s := by
  obtain ⟨cs, hg⟩ := H.h.blk
  have hl := H.l.lt
  have hgl := blk_lt hg
  exact ⟨lock_free H.l hn ho H.Fl, h, ownsRow_only H.h ho (fun k hk hF => H.Fg (by have : g = k := (by simpa [Value.ownBlock] using hk); rw [this]; exact hF)),
    H.lo.trans (ho.lo H.Flo H.lo.size), grow_lo H.Flo H.lo.size, (fun h => h.elim H.Fl (fun h => by omega)), (fun h => h.elim H.Fg (fun h => by omega)), H.lg, H.llo, H.glo⟩
theorem Hand.lock {w w1 w2 : World} {lb sb g cap : Nat} {F : Nat → Prop} {es : List Rd.Ent} {hs : List Int} {s s' : Seq.St} (H : Hand w w1 lb sb g cap F es hs s) (h : Seq.LockAt w2 lb s') (ho : Only (fun k => k = lb) w1 w2) : Hand w w2 lb sb g cap F es hs s' := by
  refine ⟨h, H.r.only ho (fun k hk e => H.Fl (e ▸ hk)), ownsRow_only H.h ho (fun k hk e => H.lg (by have : g = k := (by simpa [Value.ownBlock] using hk); rw [this]; exact e.symm)), H.lo.trans (ho.below H.lo.size fun k hk e => by have := H.llo; omega), H.Flo, H.Fl, H.Fg, H.lg, H.llo, H.glo⟩
theorem Hand.store {w w1 : World} {lb sb g cap : Nat} {F : Nat → Prop} {es : List Rd.Ent} {hs : List Int} {s : Seq.St} (H : Hand w w1 lb sb g cap F es hs s) (q : Nat) (hq : q < 4) (v : Int) : Hand w (w1.setCell ⟨g, q, none⟩ (.int .u64 v)) lb sb g cap F es (hs.set q v) s := by
  obtain ⟨cs, hg⟩ := H.h.blk
  have ho : Only (fun k => k = g) w1 (w1.setCell ⟨g, q, none⟩ (.int .u64 v)) := (Only.refl (fun k => k = g) w1).setCell (p := ⟨g, q, none⟩) (.inr rfl) _
  have hrow := row_set' H.h hq (u := .int .u64 v)
  refine ⟨lock_other H.l hg (by decide) (by decide) ho, H.r.only ho (fun k hk e => H.Fg (e ▸ hk)), ?_, H.lo.trans (ho.below H.lo.size fun k hk e => by have := H.glo; omega), H.Flo, H.Fl, H.Fg, H.lg, H.llo, H.glo⟩
  rw [← List.map_set] at hrow
  exact hrow
end Go.Proofs.Ytlgpdgmpbglkhaa.Tsn
