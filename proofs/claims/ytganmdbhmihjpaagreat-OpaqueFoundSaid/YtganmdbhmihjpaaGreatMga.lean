/- Texts of this seat, one behind the other: Lib, Row, Held, Copy, Map, Val, Rws, WriR, WriM, WriA, WriB, WriC. -/
import Derived.WalkKit
import Derived.ProofKit
import Derived.WalkLawsBesides
import Derived.Lib.Hide
import Derived.Deep.QuietTactic
import Derived.BigQuiet
import Derived.Laws.EntriesVeiled
import Derived.OpenShut
import Derived.StillTailTactics
import Derived.Maps.AppendAt
import Derived.Deep.RegionHeld3
import Derived.Deep.DeepCutAuto
import Derived.ShutString
import Derived.ChangeOld
import Derived.Below
import Derived.Deep.Slices
import Derived.Deep.Fields
import Derived.OrdersHeld
import Derived.Laws.CopyOwn
import Derived.Maps.OwnSet
import Derived.Test.YtganmdbhmihjpaaGreatChecked
import Derived.Laws.BitsAllLaws
import Derived.Laws.Externs
import Derived.RangeFuncNested
import Derived.RangeFuncBound
import Derived.RangeFuncCalls
import Derived.RangeFuncLeaves
import Derived.RangeFuncBox
import Derived.Shelf.Abstract
import Derived.Shelf.RegionOpen
import Derived.OwnWalkIn
import Derived.TacticsInMore
import Derived.LoopNIn
import Derived.LoopIn
/- Small laws on worlds, for the texts of this seat: what a call leaves as it was; what stands in a block. -/
namespace Go.Proofs.YtganmdbhmihjpaaGreat
open Go.RowKit

/-- Outside S the blocks that were there are as they were; the streams too. -/
structure Only (S : Nat → Prop) (w w' : World) : Prop where
  os : w'.os = w.os
  tape : w'.tape = w.tape
  output : w'.output = w.output
  size : w.heap.size ≤ w'.heap.size
  block : ∀ k, k < w.heap.size → ¬ S k → w'.heap[k]? = w.heap[k]?

namespace Only
variable {S T : Nat → Prop} {w w1 w2 : World}
theorem refl (S : Nat → Prop) (w : World) : Only S w w := ⟨rfl, rfl, rfl, Nat.le_refl _, fun _ _ _ => rfl⟩
theorem trans (h : Only S w w1) (k : Only S w1 w2) : Only S w w2 :=
  ⟨k.os.trans h.os, k.tape.trans h.tape, k.output.trans h.output, Nat.le_trans h.size k.size,
    fun i hi hs => (k.block i (Nat.lt_of_lt_of_le hi h.size) hs).trans (h.block i hi hs)⟩
theorem mono (h : Only S w w1) (hs : ∀ k, k < w.heap.size → S k → T k) : Only T w w1 := ⟨h.os, h.tape, h.output, h.size, fun k hk hn => h.block k hk (fun hS => hn (hs k hk hS))⟩
theorem drew (h : Only S w w1) : Only S w w1.drew := ⟨h.os, h.tape, h.output, h.size, h.block⟩
theorem drewN (h : Only S w w1) (n : Nat) : Only S w (w1.drewN n) := ⟨h.os, h.tape, h.output, h.size, h.block⟩
theorem alloc (h : Only S w w1) (o : Obj) : Only S w (w1.alloc o) :=
  ⟨h.os, h.tape, h.output, Nat.le_trans h.size (by simp), fun k hk hs => (Below.heap_alloc _ _ _ (Nat.lt_of_lt_of_le hk h.size)).trans (h.block k hk hs)⟩
theorem setCell (h : Only S w w1) {p : Addr} (hp : w.heap.size ≤ p.block ∨ S p.block) (u : Value) : Only S w (w1.setCell p u) :=
  ⟨h.os, h.tape, h.output, Nat.le_trans h.size (by simp), fun k hk hs => (Below.heap_setCell _ _ _ _ (by
    rintro rfl
    rcases hp with hp | hp
    · omega
    · exact hs hp)).trans (h.block k hk hs)⟩
/-- from an inner world on: what lies behind the old heap is free -/
theorem after (h : Only S w w1) (k : Only T w1 w2) (ht : ∀ i, i < w.heap.size → T i → S i) : Only S w w2 :=
  ⟨k.os.trans h.os, k.tape.trans h.tape, k.output.trans h.output, Nat.le_trans h.size k.size,
    fun i hi hs => (k.block i (Nat.lt_of_lt_of_le hi h.size) (fun hT => hs (ht i hi hT))).trans (h.block i hi hs)⟩
theorem of_below {B : Nat} (h : Below B w w1) (hs : ∀ k, k < w.heap.size → B ≤ k → S k) : Only S w w1 :=
  ⟨h.os, h.tape, h.output, h.size, fun k hk hn => h.block k (by rcases Nat.lt_or_ge k B with g | g; exact g; exact absurd (hs k hk g) hn)⟩
theorem of_grown {row : Option Nat} (h : w.grownBy w1 row) (hs : ∀ k, row = some k → S k) : Only S w w1 :=
  ⟨h.os, h.tape, h.output, h.size, fun k hk hn => h.block k hk (fun e => hn (hs k e.symm))⟩
theorem below {B : Nat} (h : Only S w w1) (hB : B ≤ w.heap.size) (hs : ∀ k, k < B → ¬ S k) : Below B w w1 :=
  ⟨h.os, h.tape, h.output, h.size, fun k hk => h.block k (Nat.lt_of_lt_of_le hk hB) (hs k hk)⟩
/-- a block that was there is there still -/
theorem blk (h : Only S w w1) {k : Nat} {o : Obj} (hk : w.heap[k]? = some o) (hs : ¬ S k) : w1.heap[k]? = some o :=
  (h.block k (lt_of_block hk) hs).trans hk
theorem cell (h : Only S w w1) {p : Addr} {v : Value} (hp : w.cell? p = some v) (hs : ¬ S p.block) : w1.cell? p = some v :=
  (World.cell?_of_block (w := w) (h.block p.block (World.block_lt_of_cell? w p hp) hs)).trans hp
theorem lt (h : Only S w w1) {k : Nat} (hk : k < w.heap.size) : k < w1.heap.size := Nat.lt_of_lt_of_le hk h.size
end Only

/-- An operation whose guard says no, in a region that is walked in the text's order. -/
theorem wpStill_skip {P : Program} {ops : Array Oper} {w : World} {Q : Act → Prop} {a : Act} {o : Oper} {rest : List Oper}
    (hw : Region.wanted o (yielded ops a.tmps) = false) (h : wpStill P ops w Q rest (a.put o.dst undef)) : wpStill P ops w Q (o :: rest) a :=
  wpStill_step fun K hK => by rw [if_neg (by rw [hw]; exact Bool.false_ne_true)]; exact hK _ h

/-- A region that draws its order, all but its last operations still: the text's order; the world under one name. -/
theorem wp_region_tail {P : Program} {id : Nat} {Q : Exit → Act → World → Prop} {a : Act} {w : World} {l : List Oper} (n : Nat) (hm : P.follows .mixedOrders = true) (hB : Region.lexTailB .any l.toArray n = true)
    (h : wpStill P l.toArray w.drew (fun a' => wpList P l.toArray Q (l.drop n) a' w.drew) (l.take n) a) : (Code.region id l.toArray true).wp P Q a w :=
  wp_region_still_tail n hm hB h

/-! ### blocks -/
theorem blk_lt {w : World} {b : Nat} {o : Obj} (h : w.heap[b]? = some o) : b < w.heap.size := lt_of_block h
theorem blk_cell {w : World} {b : Nat} {cs : Array Value} {t : TypeId} {fr : Nat × Nat} (h : w.heap[b]? = some (.cells cs t fr)) (i : Nat) : w.cell? ⟨b, i, none⟩ = cs[i]? := by simp [World.cell?, h]
theorem blk_free {w : World} {b : Nat} {cs : Array Value} {t : TypeId} (h : w.heap[b]? = some (.cells cs t (0, 0))) (i : Nat) : w.frozen? ⟨b, i, none⟩ = false := by simp [World.frozen?, h]
theorem blk_new (w : World) (o : Obj) : (w.alloc o).heap[w.heap.size]? = some o := heap_alloc_new w o
theorem blk_alloc {w : World} {b : Nat} {o : Obj} (h : w.heap[b]? = some o) (o' : Obj) : (w.alloc o').heap[b]? = some o := (Below.heap_alloc _ _ _ (lt_of_block h)).trans h
theorem blk_drew {w : World} {b : Nat} {o : Obj} (h : w.heap[b]? = some o) : w.drew.heap[b]? = some o := h
theorem blk_other {w : World} {b : Nat} {o : Obj} (h : w.heap[b]? = some o) {p : Addr} (hp : b ≠ p.block) (v : Value) : (w.setCell p v).heap[b]? = some o := (Below.heap_setCell _ _ _ _ hp).trans h
theorem blk_set {w : World} {b : Nat} {cs : Array Value} {t : TypeId} {fr : Nat × Nat} (h : w.heap[b]? = some (.cells cs t fr)) (i : Nat) (v : Value) :
    (w.setCell ⟨b, i, none⟩ v).heap[b]? = some (.cells (cs.setIfInBounds i v) t fr) := by
  have hlt := lt_of_block h
  have h' : w.heap[b] = .cells cs t fr := by simpa [Array.getElem?_eq_getElem hlt] using h
  show (w.heap.modify b _)[b]? = _
  rw [Array.getElem?_eq_getElem (by simpa using hlt), Array.getElem_modify_self, h']
  rfl

/-! ### what stands in a block of a world that is written out -/
theorem heap_alloc_eq (w : World) (o : Obj) (k : Nat) : (w.alloc o).heap[k]? = if k = w.heap.size then some o else w.heap[k]? := by
  show (w.heap.push o)[k]? = _
  rw [Array.getElem?_push]
theorem heap_drew_eq (w : World) (k : Nat) : w.drew.heap[k]? = w.heap[k]? := rfl
theorem heap_drewN_eq (w : World) (n k : Nat) : (w.drewN n).heap[k]? = w.heap[k]? := rfl
def setObj (i : Nat) (v : Value) : Obj → Obj
  | .cells c e f => .cells (c.setIfInBounds i v) e f
  | o => o
theorem heap_set_eq (w : World) (b i : Nat) (v : Value) (k : Nat) : (w.setCell ⟨b, i, none⟩ v).heap[k]? = if b = k then (w.heap[k]?).map (setObj i v) else w.heap[k]? := by
  simp only [World.setCell, Array.getElem?_modify]
  split
  · have h : ∀ o : Option Obj, (o.map fun | .cells c elem frozen => .cells (if (none : Option (Nat × Nat)).isSome then c else c.setIfInBounds i v) elem frozen | o => o) = o.map (setObj i v) := by
      intro o
      cases o with
      | none => rfl
      | some o => cases o <;> rfl
    first | rfl | exact h _
  · rfl
theorem below_drewN {B : Nat} {w w1 : World} (h : Below B w w1) (n : Nat) : Below B w (w1.drewN n) := ⟨h.os, h.tape, h.output, h.size, h.block⟩
theorem below_alloc' {B : Nat} {w w1 : World} (hB : B ≤ w1.heap.size) (h : Below B w w1) (o : Obj) : Below B w (w1.alloc o) := h.alloc hB o
theorem below_set' {B : Nat} {w w1 : World} {p : Addr} (hp : B ≤ p.block) (h : Below B w w1) (u : Value) : Below B w (w1.setCell p u) := h.setCell hp u
theorem only_set' {S : Nat → Prop} {w w1 : World} {p : Addr} (hp : w.heap.size ≤ p.block ∨ S p.block) (h : Only S w w1) (u : Value) : Only S w (w1.setCell p u) := h.setCell hp u
/-- A cell that was there reads as it did. -/
theorem bkeep {w w1 : World} (h : Below w.heap.size w w1) {a : Addr} {v : Value} (hc : w.cell? a = some v) : w1.cell? a = some v := (h.cell (World.block_lt_of_cell? w a hc)).trans hc
theorem bblk {w w1 : World} (h : Below w.heap.size w w1) {b : Nat} {o : Obj} (hc : w.heap[b]? = some o) : w1.heap[b]? = some o := (h.block b (lt_of_block hc)).trans hc
theorem btrans {B : Nat} {w w1 w2 : World} (h : Below B w w1) (hB : B ≤ w.heap.size) (k : Below w1.heap.size w1 w2) : Below B w w2 := h.trans (k.mono (Nat.le_trans hB h.size))
theorem size_drewN (w : World) (n : Nat) : (w.drewN n).heap.size = w.heap.size := rfl

/-! ### footprints: the blocks that are an object's own -/
/-- F, and what has been made since. -/
def Grow (F : Nat → Prop) (w w' : World) (k : Nat) : Prop := F k ∨ (w.heap.size ≤ k ∧ k < w'.heap.size)
def Apart (F G : Nat → Prop) : Prop := ∀ k, F k → ¬ G k
def Within (F : Nat → Prop) (w : World) : Prop := ∀ k, F k → k < w.heap.size
theorem Apart.symm {F G : Nat → Prop} (h : Apart F G) : Apart G F := fun k hg hf => h k hf hg
theorem Within.grow {F : Nat → Prop} {w w' : World} (h : Within F w) (hs : w.heap.size ≤ w'.heap.size) : Within (Grow F w w') w' := by
  rintro k (hk | ⟨_, hk⟩)
  · exact Nat.lt_of_lt_of_le (h k hk) hs
  · exact hk
theorem Within.only {F S : Nat → Prop} {w w' : World} (h : Within F w) (ho : Only S w w') : Within F w' := fun k hk => Nat.lt_of_lt_of_le (h k hk) ho.size
theorem Within.below {F : Nat → Prop} {B : Nat} {w w' : World} (h : Within F w) (ho : Below B w w') : Within F w' := fun k hk => Nat.lt_of_lt_of_le (h k hk) ho.size
theorem Apart.grow {F G : Nat → Prop} {w w' : World} (h : Apart F G) (hg : Within G w) : Apart (Grow F w w') G := by
  rintro k (hk | ⟨hk, _⟩) hG
  · exact h k hk hG
  · exact Nat.not_lt.2 hk (hg k hG)
theorem Apart.grow' {F G : Nat → Prop} {w w' : World} (h : Apart F G) (hf : Within F w) : Apart F (Grow G w w') := (h.symm.grow hf).symm
theorem grow_lo {F : Nat → Prop} {lo : Nat} {w w' : World} (h : ∀ k, F k → lo ≤ k) (hs : lo ≤ w.heap.size) : ∀ k, Grow F w w' k → lo ≤ k := by
  rintro k (hk | ⟨hk, _⟩)
  · exact h k hk
  · omega
theorem Only.lo {F : Nat → Prop} {lo : Nat} {w w' : World} (h : Only F w w') (hF : ∀ k, F k → lo ≤ k) (hs : lo ≤ w.heap.size) : Below lo w w' :=
  h.below hs fun k hk hF' => by have := hF k hF'; omega
theorem Only.empty {B : Nat} {w w' : World} (h : Below B w w') (hB : w.heap.size ≤ B) : Only (fun _ => False) w w' := Only.of_below h fun k hk h' => by omega
theorem Only.toBelow {w w' : World} (h : Only (fun _ => False) w w') : Below w.heap.size w w' := h.below (Nat.le_refl _) fun _ _ h => h

/-! ### an owned row -/
theorem ownsRow_only {S : Nat → Prop} {w w' : World} {base : Nat} {e : TypeId} {size n : Nat} {v : Value} {xs : List Value} (h : w.ownsRow base e size v n xs) (ho : Only S w w') (hs : ∀ k, v.ownBlock = some k → ¬ S k) : w'.ownsRow base e size v n xs := by
  refine ⟨h.1, ?_⟩
  rcases h.2 with hn | ⟨g, cap, cur, rfl, hb, hg, rest⟩
  · exact .inl hn
  · exact .inr ⟨g, cap, cur, rfl, hb, ho.blk hg (hs g rfl), rest⟩
theorem ownsRow_lt {w : World} {base : Nat} {e : TypeId} {size n : Nat} {v : Value} {xs : List Value} (h : w.ownsRow base e size v n xs) {k : Nat} (hk : v.ownBlock = some k) : k < w.heap.size := (h.lt k hk).2
theorem ownsRow_base {w : World} {base base' : Nat} {e : TypeId} {size n : Nat} {v : Value} {xs : List Value} (h : w.ownsRow base e size v n xs) (hb : ∀ k, v.ownBlock = some k → base' ≤ k) : w.ownsRow base' e size v n xs := by
  refine ⟨h.1, ?_⟩
  rcases h.2 with hn | ⟨g, cap, cur, rfl, _, rest⟩
  · exact .inl hn
  · exact .inr ⟨g, cap, cur, rfl, hb g rfl, rest⟩

/-- append to a row of one's own, as one step of a region that draws. -/
theorem step_append_own {P : Program} {ops : Array Oper} {o : Oper} {a : Act} {w : World} {K : Act → World → Prop} {Q : Exit → Act → World → Prop} {E : Prop}
    (hgd : o.guard = none) (s x : Operand) (t : TypeId) (hop : o.op = Op.call { callee := Callee.builtin Builtin.append, args := #[s, x], argTypes := #[t, t] })
    (base : Nat) (e : TypeId) (i : TypeInfo) (z : Value) (size bytes : Nat) (ht : P.underlying t = some (.slice e)) (hi : P.info? e = some i) (hz : i.zero = some z)
    (hsize : i.size = size) (hby : i.bytes = bytes) (hzs : z.cells.size = size) (hsz : 0 < size)
    (v : Value) (n : Nat) (xs : List Value) (hs : a.eval s = v) (hown : w.ownsRow base e size v n xs)
    (ad : Addr) (m c : Nat) (news : List Value) (hx : a.eval x = .slice (some ad) m c) (hl : news.length = m * size) (hnews : ∀ j u, news[j]? = some u → w.cell? (ad.add j) = some u) (h1 : ∀ u ∈ news, u.oneCell' = true)
    (h63 : n + m ≤ maxLen) (hbytes : (n + m) * bytes ≤ 140737488355328) (hbase : base ≤ w.heap.size)
    (h : ∀ v' w', w'.ownsRow base e size v' (n + m) (xs ++ news) → w.grownBy w' v.ownBlock → (v'.ownBlock = v.ownBlock ∨ v'.ownBlock = some w.heap.size) → K (a.put o.dst v') w') :
    if Region.wanted o (yielded ops a.tmps) = true then Oper.wp P o a w K Q else E := by
  have hw : Region.wanted o (yielded ops a.tmps) = true := by simp [Region.wanted, hgd]
  rw [if_pos hw]
  obtain ⟨v', w', hr, h2, h3, _, h4⟩ := run_append_own_at (P := P) w base t o.type e i z size bytes ht hi hz hsize hby hzs hsz v n xs hown ad m c news hl hnews h1 h63 hbytes hbase
  unfold Oper.wp execOp
  simp only [hop, resolve, invoke, builtin, Sem.run_bind, Sem.run_pure, Result.andThen_ok, List.map_toArray, List.map_cons, List.map_nil, hs, hx, hr]
  exact h v' w' h2 h3 h4
end Go.Proofs.YtganmdbhmihjpaaGreat
/- What an argument that can be read holds, cell by cell: for the rows of this seat's statements. -/
namespace Go.Proofs.YtganmdbhmihjpaaGreat
open Go.ChangeShapes Go.WideShapes Go.ChangeAt Go.RowKit

section
variable {H : Type} (enc : TypeId × Value → H) (P : Program) (w : World)
/-- These cells can be read at type t. -/
def Fits (t : TypeId) (cs : List Value) : Prop := ∃ (n : Nat) (x : DataW H × List MemPlace), DataW.trod enc P w 0 (fun _ => true) true n t cs = some x
end

section
variable {H : Type} {enc : TypeId × Value → H} {P : Program} {w : World} {t : TypeId} {cs : List Value}
theorem Fits.of {v : Value} {d : DataW H} {ps : List MemPlace} (h : DataW.Trod enc P w 0 (fun _ => true) true t v d ps) : Fits enc P w t v.cells.toList :=
  let ⟨n, hn⟩ := h
  ⟨n, (d, ps), hn⟩
theorem Fits.int {k : IntKind} (h : Fits enc P w t cs) (ht : P.underlying t = some (.int k)) : ∃ n, cs = [.int k n] ∧ (Lit.int k n).wf = true := by
  obtain ⟨n, x, h⟩ := h
  obtain ⟨m, rfl, _, hw⟩ := DataW.trod_int ht h
  exact ⟨m, rfl, hw⟩
theorem Fits.bool (h : Fits enc P w t cs) (ht : P.underlying t = some .bool) : ∃ b, cs = [.bool b] := by
  obtain ⟨n, x, h⟩ := h
  obtain ⟨b, rfl, _⟩ := DataW.trod_bool ht h
  exact ⟨b, rfl⟩
theorem Fits.struct {fs : Array Field} (h : Fits enc P w t cs) (ht : P.underlying t = some (.struct fs)) :
    cs.length = P.cellsOf t ∧ ∀ (i : Nat) (f : Field), fs[i]? = some f → Fits enc P w f.type ((cs.drop f.offset).take (P.cellsOf f.type)) := by
  obtain ⟨n, x, h⟩ := h
  obtain ⟨xs, m, _, _, hl, hx, hf⟩ := DataW.trod_struct ht h
  refine ⟨hl, fun i f hi => ?_⟩
  have hlt : i < xs.length := by rw [hx]; exact (Array.getElem?_eq_some_iff.1 hi).1
  exact ⟨m, xs[i], (hf i f hi).trans (List.getElem?_eq_getElem hlt)⟩
theorem Fits.array {n : Nat} {e : TypeId} (h : Fits enc P w t cs) (ht : P.underlying t = some (.array n e)) :
    cs.length = P.cellsOf t ∧ ∀ i, i < n → Fits enc P w e ((cs.drop (i * P.cellsOf e)).take (P.cellsOf e)) := by
  obtain ⟨m, x, h⟩ := h
  obtain ⟨xs, m', _, _, hl, hx, hf⟩ := DataW.trod_array ht h
  refine ⟨hl, fun i hi => ?_⟩
  have hlt : i < xs.length := by rw [hx]; exact hi
  exact ⟨m', xs[i], (hf i hi).trans (List.getElem?_eq_getElem hlt)⟩
/-- A slice: empty, or a row of cells behind an address without a spot. -/
theorem Fits.slice {e : TypeId} {a : Option Addr} {len cap : Nat} (h : Fits enc P w t [.slice a len cap]) (ht : P.underlying t = some (.slice e)) (hC : 0 < P.cellsOf e) :
    len ≤ 9223372036854775807 ∧ (len = 0 ∨ ∃ b off, a = some ⟨b, off, none⟩ ∧ ∀ i, i < len → ∃ cs', cs'.length = P.cellsOf e ∧ (∀ j, j < P.cellsOf e → w.cell? ⟨b, off + (i * P.cellsOf e + j), none⟩ = cs'[j]?) ∧ Fits enc P w e cs') := by
  obtain ⟨n, x, h⟩ := h
  rcases Go.Deep.open_slice ht h with ⟨h0, _⟩ | ⟨a', len', cap', m, n', D, Pl, hcs, _, hl, hm, hmm, _, hi⟩
  · injection h0 with h0
    injection h0 with h1 h2 h3
    subst h2
    exact ⟨by omega, .inl rfl⟩
  · injection hcs with hcs
    injection hcs with h1 h2 h3
    subst h1 h2 h3
    have hmm' : m = cap := by simpa using hmm
    refine ⟨by simp only [maxLen] at hm; omega, ?_⟩
    rcases Nat.eq_zero_or_pos len with h0 | h0
    · exact .inl h0
    right
    obtain ⟨b, off, spot⟩ := a'
    have hcell : ∀ i, i < len → ∃ cs', cs'.length = P.cellsOf e ∧ (∀ j, j < P.cellsOf e → w.cell? ((⟨b, off, spot⟩ : Addr).add (i * P.cellsOf e + j)) = cs'[j]?) ∧ Fits enc P w e cs' := by
      intro i hil
      obtain ⟨cs', hc, ht'⟩ := hi i (by omega)
      obtain ⟨_, hcl, hat⟩ := World.cells?_some hc
      refine ⟨cs', hcl, fun j hj => ?_, n', _, ht'⟩
      rw [← Go.Deep.add_add]
      exact hat j hj
    have hspot : spot = none := by
      obtain ⟨cs', hcl, hat, _⟩ := hcell 0 h0
      have h := hat 0 hC
      rw [List.getElem?_eq_getElem (by omega)] at h
      have h := World.cell?_spot h
      simpa [Addr.add] using h
    subst hspot
    refine ⟨b, off, rfl, fun i hil => ?_⟩
    obtain ⟨cs', hcl, hat, hf⟩ := hcell i hil
    refine ⟨cs', hcl, fun j hj => ?_, hf⟩
    rw [← hat j hj, Addr.add_lit]
end
/-- The field of a struct, one cell. -/
theorem take_one {α : Type} {l : List α} {i : Nat} {x : α} (h : (l.drop i).take 1 = [x]) : l[i]? = some x := by
  have h2 : ((l.drop i).take 1)[0]? = some x := by rw [h]; rfl
  simpa using h2
end Go.Proofs.YtganmdbhmihjpaaGreat
/- A region that draws its order: what is read is taken first as long as a condition holds; BEHIND ITS LAST OPERATION z (which waits for what was taken) the condition is not asked. After the kit's OrdersHeld. -/
namespace Go.Proofs.YtganmdbhmihjpaaGreat
open Go Go.RowKit
section
variable {P : Program} {ops : Array Oper} {Q : Exit → Act → World → Prop} {md : Region.Mode} {S : World → Prop} {z : Nat}

def wpAnyF (P : Program) (md : Region.Mode) (ops : Array Oper) (Q : Exit → Act → World → Prop) (S : World → Prop) (z : Nat) : Nat → Array Bool → Act → World → Prop
  | 0, listed, a, w => Region.ready md ops listed = [] ∧ Q .normal a w
  | fuel + 1, listed, a, w =>
    (Region.ready md ops listed = [] → Q .normal a w) ∧
    ∀ i ∈ Region.ready md ops listed, wpOp P ops Q i (fun a' w' => (i ≠ z → S w') ∧ wpAnyF P md ops Q S z fuel (listed.setIfInBounds i true) a' w') a w

theorem wpAny_of_F : ∀ (fuel : Nat) (listed : Array Bool) (a : Act) (w : World), wpAnyF P md ops Q S z fuel listed a w → wpAny P md ops Q fuel listed a w
  | 0, _, _, _, h => h
  | fuel + 1, _, _, _, h => ⟨h.1, fun i hi => wpOp_mono (fun a' w' h' => wpAny_of_F fuel _ a' w' h'.2) (h.2 i hi)⟩

/-- z waits for i -/
def waitsB (md : Region.Mode) (ops : Array Oper) (z i : Nat) : Bool :=
  match ops[z]? with
  | some o => o.after.any fun e => Region.binds md e && e.on == i
  | none => false

theorem wpAnyF_first {i : Nat} {oi : Oper} {v : Value} (hi : ops[i]? = some oi) (hsel : ∀ (j : Nat) (o : Oper) cs b, ops[j]? = some o → o.op ≠ .select cs b) (hz : waitsB md ops z i = true)
    (hQ : ∀ c a w, Q (.panic c) (a.put oi.dst v) w → Q (.panic c) a w) :
    ∀ (fuel : Nat) (listed : Array Bool) (a : Act) (w : World),
      (∀ j oj, ops[j]? = some oj → j ≠ i → listed.getD j true = false → (∀ e ∈ oj.after, Region.binds md e = true → e.on ≠ i) → oi.apart ops oj = true) →
      i ∈ Region.ready md ops listed → YieldsIf P ops S oi v a → S w →
      wpAnyF P md ops Q S z fuel (listed.setIfInBounds i true) (a.put oi.dst v) w → wpAnyF P md ops Q S z (fuel + 1) listed a w := by
  have key : ∀ (listed : Array Bool) (j : Nat), i ∈ Region.ready md ops listed → j ∈ Region.ready md ops listed → (∀ oj, ops[j]? = some oj → ∀ e ∈ oj.after, Region.binds md e = true → e.on ≠ i) → j ≠ z := by
    intro listed j _ _ hn hjz
    subst hjz
    unfold waitsB at hz
    split at hz
    · rename_i o ho
      simp only [Array.any_eq_true, Bool.and_eq_true, beq_iff_eq] at hz
      obtain ⟨k, hk, h1, h2⟩ := hz
      exact hn o ho _ (Array.getElem_mem hk) h1 h2
    · cases hz
  intro fuel
  induction fuel with
  | zero =>
    intro listed a w _ hr hy hS H
    refine ⟨fun h => (by rw [h] at hr; cases hr), fun j hj => ?_⟩
    by_cases hji : j = i
    · subst hji; exact hy.wpOp hi hS ⟨fun _ => hS, H⟩
    · have := ready_mono hj hji
      rw [H.1] at this
      cases this
  | succ fuel ih =>
    intro listed a w hfree hr hy hS H
    refine ⟨fun h => (by rw [h] at hr; cases hr), fun j hj => ?_⟩
    by_cases hji : j = i
    · subst hji; exact hy.wpOp hi hS ⟨fun _ => hS, H⟩
    · have h1 := H.2 j (ready_mono hj hji)
      obtain ⟨hjun, oj, hoj, hall⟩ := mem_ready.1 hj
      have hnot : ∀ e ∈ oj.after, Region.binds md e = true → e.on ≠ i := fun e he hb heq => by
        have h1 := hall e he hb
        have h0 := (mem_ready.1 hr).1
        rw [heq] at h1
        rcases Nat.lt_or_ge i listed.size with h' | h'
        · simp [h'] at h0 h1; rw [h0] at h1; cases h1
        · simp [Array.getElem?_eq_none h'] at h1
      have hjz : j ≠ z := key listed j hr hj (fun o ho => by
        rw [hoj] at ho
        injection ho with ho
        subst ho
        exact hnot)
      have h2 := wpOp_putIf hoj (hfree j oj hoj hji hjun hnot) (fun cs b => hsel i oi cs b hi) (fun cs b => hsel j oj cs b hoj) hQ hy h1
      have hfree' : ∀ k ok, ops[k]? = some ok → k ≠ i → (listed.setIfInBounds j true).getD k true = false →
          (∀ e ∈ ok.after, Region.binds md e = true → e.on ≠ i) → oi.apart ops ok = true := fun k ok hk hki hun hno => by
        refine hfree k ok hk hki ?_ hno
        by_cases hjk : j = k
        · subst hjk; exact hjun
        · rw [getD_set_ne true hjk] at hun; exact hun
      refine wpOp_mono (fun a' w' h3 => ⟨h3.2.1, ih (listed.setIfInBounds j true) a' w' hfree' (ready_mono hr (Ne.symm hji)) h3.1 (h3.2.1 hjz) ?_⟩) h2
      rw [Array.setIfInBounds_comm _ _ hji]
      exact h3.2.2

theorem wpAnyF_take {i : Nat} {oi : Oper} {v : Value} {fuel : Nat} {listed : Array Bool} {a : Act} {w : World} (hi' : ops.toList[i]? = some oi)
    (hz : waitsB md ops z i = true)
    (hs : Region.noSelect ops = true) (hf : Region.free md ops listed i = true) (hr : (Region.ready md ops listed).contains i = true)
    (hQ : ∀ c a w, Q (.panic c) (a.put oi.dst v) w → Q (.panic c) a w) (hy : YieldsIf P ops S oi v a) (hS : S w)
    (h : wpAnyF P md ops Q S z fuel (listed.setIfInBounds i true) (a.put oi.dst v) w) : wpAnyF P md ops Q S z (fuel + 1) listed a w :=
  have hi : ops[i]? = some oi := by rw [← Array.getElem?_toList]; exact hi'
  wpAnyF_first hi (Region.noSelect_spec hs) hz hQ fuel listed a w (Region.free_spec hi hf) (by simpa using hr) hy hS h

def AllF (P : Program) (md : Region.Mode) (ops : Array Oper) (Q : Exit → Act → World → Prop) (S : World → Prop) (z : Nat) (fuel : Nat) (listed : Array Bool) (a : Act) (w : World) (rs : List Nat) : Prop :=
  ∀ i ∈ rs, wpOp P ops Q i (fun a' w' => (i ≠ z → S w') ∧ wpAnyF P md ops Q S z fuel (listed.setIfInBounds i true) a' w') a w
theorem AllF.nil {fuel : Nat} {listed : Array Bool} {a : Act} {w : World} : AllF P md ops Q S z fuel listed a w [] := fun _ h => by cases h
theorem AllF.cons {fuel : Nat} {listed : Array Bool} {a : Act} {w : World} {i : Nat} {o : Oper} {rs : List Nat} (ho' : ops.toList[i]? = some o)
    (h : ∀ K' : Act → World → Prop, Hid (∀ a w, (i ≠ z → S w) → wpAnyF P md ops Q S z fuel (listed.setIfInBounds i true) a w → K' a w) → if Region.wanted o (yielded ops a.tmps) = true then Oper.wp P o a w K' Q else K' (a.put o.dst undef) w)
    (hs : AllF P md ops Q S z fuel listed a w rs) : AllF P md ops Q S z fuel listed a w (i :: rs) := fun j hj => by
  have ho : ops[i]? = some o := by rw [← Array.getElem?_toList]; exact ho'
  rcases List.mem_cons.1 hj with rfl | hj
  · exact wpOp_step ho (fun K' hK => h K' (Lib.hid fun a w hS hW => hK a w ⟨hS, hW⟩))
  · exact hs j hj
theorem wpAnyF_ready {rs : List Nat} {fuel : Nat} {listed : Array Bool} {a : Act} {w : World} (hr : Region.ready md ops listed = rs) (hne : rs ≠ [])
    (h : AllF P md ops Q S z fuel listed a w rs) : wpAnyF P md ops Q S z (fuel + 1) listed a w :=
  ⟨fun h0 => absurd (hr ▸ h0) hne, hr ▸ h⟩
theorem wpAnyF_done {listed : Array Bool} {a : Act} {w : World} (hr : Region.ready md ops listed = []) (h : Q .normal a w) : ∀ fuel, wpAnyF P md ops Q S z fuel listed a w
  | 0 => ⟨hr, h⟩
  | _ + 1 => ⟨fun _ => h, by rw [hr]; simp⟩
theorem wp_region_F {id : Nat} {a : Act} {w : World} (S : World → Prop) (z : Nat) (hm : P.follows .mixedOrders = true)
    (h : wpAnyF P .any ops Q S z ops.size (Array.replicate ops.size false) a w.drew) : (Code.region id ops true).wp P Q a w :=
  wp_region_any hm (wpAny_of_F _ _ _ _ h)

/-- append(empty row of one's own, an owned row, nil or not) -/
theorem step_append_copy {P : Program} {ops : Array Oper} {o : Oper} {a : Act} {w : World} {K : Act → World → Prop} {Q : Exit → Act → World → Prop} {E : Prop}
    (hgd : o.guard = none) (s x : Operand) (t : TypeId) (hop : o.op = Op.call { callee := Callee.builtin Builtin.append, args := #[s, x], argTypes := #[t, t] })
    (base : Nat) (e : TypeId) (i : TypeInfo) (z : Value) (size bytes : Nat) (ht : P.underlying t = some (.slice e)) (hi : P.info? e = some i) (hz : i.zero = some z)
    (hsize : i.size = size) (hby : i.bytes = bytes) (hzs : z.cells.size = size) (hsz : 0 < size)
    (g : Nat) (hs : a.eval s = .slice (some ⟨g, 0, none⟩) 0 0) (hown : w.ownsRow base e size (.slice (some ⟨g, 0, none⟩) 0 0) 0 [])
    (vx : Value) (n b0 : Nat) (xs : List Value) (hx : a.eval x = vx) (hX : w.ownsRow b0 e size vx n xs) (h1 : ∀ u ∈ xs, u.oneCell' = true)
    (h63 : n ≤ maxLen) (hbytes : n * bytes ≤ 140737488355328) (hbase : base ≤ w.heap.size)
    (h : ∀ v' w', w'.ownsRow base e size v' n xs → w.grownBy w' (some g) → (v'.ownBlock = some g ∨ v'.ownBlock = some w.heap.size) → K (a.put o.dst v') w') :
    if Region.wanted o (yielded ops a.tmps) = true then Oper.wp P o a w K Q else E := by
  rcases hX.2 with ⟨rfl, rfl⟩ | ⟨g', cap, cur, rfl, _, hg, _⟩
  · have hxs : xs = [] := List.eq_nil_of_length_eq_zero (by simpa using hX.1)
    subst hxs
    have hw : Region.wanted o (yielded ops a.tmps) = true := by simp [Region.wanted, hgd]
    rw [if_pos hw]
    have hr : (Builtin.append_ #[t, t] o.type #[.slice (some ⟨g, 0, none⟩) 0 0, .slice none 0 0]).run P w = .ok (.slice (some ⟨g, 0, none⟩) 0 0) w := by
      simp [Builtin.append_, run_underlying ht, sizeOf, typeInfo, hi, Builtin.lenOf, Builtin.firstCells, loadCells, loadCellsFrom, storeCells]
    unfold Oper.wp execOp
    simp only [hop, resolve, invoke, builtin, Sem.run_bind, Sem.run_pure, Result.andThen_ok, List.map_toArray, List.map_cons, List.map_nil, hs, hx, hr]
    exact h _ _ hown ⟨rfl, rfl, rfl, Nat.le_refl _, fun _ _ _ => rfl⟩ (.inl rfl)
  · refine step_append_own hgd s x t hop base e i z size bytes ht hi hz hsize hby hzs hsz _ 0 [] hs hown ⟨g', 0, none⟩ n cap xs hx hX.1 ?_ h1 (by omega) (by rw [Nat.zero_add]; exact hbytes) hbase ?_
    · intro j u hu
      have := hX.cells (g := g') rfl j u hu
      exact this
    · intro v' w' h2 h3 h4
      simp only [Nat.zero_add, List.nil_append] at h2
      exact h v' w' h2 h3 h4
end
end Go.Proofs.YtganmdbhmihjpaaGreat
/- copy of a whole row, whatever the size of its elements, as a step of a region that draws. -/
namespace Go.Proofs.YtganmdbhmihjpaaGreat
open Go Go.RowKit
/-- copy(a whole row of one's own, an owned row as long, nil or not) -/
theorem oper_copy_all {P : Program} {o : Oper} {a : Act} {w : World} {K : Act → World → Prop} {Q : Exit → Act → World → Prop}
    (d s : Operand) (t : TypeId) (ho : o.op = .call { callee := .builtin .copy, args := #[d, s], argTypes := #[t, t] })
    (e : TypeId) (i : TypeInfo) (size : Nat) (hu : P.underlying t = some (.slice e)) (hq : P.info? e = some i) (hi : i.size = size)
    (g n : Nat) (hd : a.eval d = .slice (some ⟨g, 0, none⟩) n n) (zs : Array Value) (hz : w.heap[g]? = some (.cells zs e (0, 0))) (hzl : zs.size = n * size)
    (vx : Value) (b0 : Nat) (xs : List Value) (hs : a.eval s = vx) (hX : w.ownsRow b0 e size vx n xs) (h1 : ∀ u ∈ xs, u.oneCell' = true) (hm : n ≤ maxLen)
    (h : ∀ w', (∀ base, base ≤ g → w'.ownsRow base e size (.slice (some ⟨g, 0, none⟩) n n) n xs) → Only (fun k => k = g) w w' → K (a.put o.dst (goInt n)) w') :
    Oper.wp P o a w K Q := by
  have hxl : xs.length = n * size := hX.1
  have fin : ∀ w' : World, w'.heap[g]? = some (.cells xs.toArray e (0, 0)) → ∀ base, base ≤ g → w'.ownsRow base e size (.slice (some ⟨g, 0, none⟩) n n) n xs := by
    intro w' h base hb
    refine ⟨hxl, .inr ⟨g, n, xs.toArray, rfl, hb, h, Nat.le_refl _, hm, by simpa using hxl, ?_⟩⟩
    rw [← hxl]
    simp
  rcases hX.2 with ⟨rfl, rfl⟩ | ⟨g', cap, cur, rfl, _, hg, _⟩
  · have hx0 : xs = [] := List.eq_nil_of_length_eq_zero (by simpa using hX.1)
    subst hx0
    have hz0 : zs = #[] := Array.eq_empty_of_size_eq_zero (by simpa using hzl)
    subst hz0
    have hrun := run_copy_nil (P := P) w t t o.type e ⟨g, 0, none⟩ 0 0 hu (by simp [hq])
    unfold Oper.wp
    simp [execOp, ho, resolve, invoke, builtin, hd, hs, hrun, Result.andThen]
    exact h w (fin w hz) (Only.refl _ _)
  · have hsrc : ∀ j v, xs[j]? = some v → w.cell? ((⟨g', 0, none⟩ : Addr).add j) = some v := fun j u hu => hX.cells (g := g') rfl j u hu
    have hl := run_loadCells_list (P := P) w ⟨g', 0, none⟩ xs hsrc
    have hst := run_storeCells_at P g 0 e xs 0 zs w hz (by simp; omega) h1
    have hfull : zs.toList.take (0 + 0) ++ xs ++ zs.toList.drop (0 + 0 + xs.length) = xs := by
      simp
      omega
    rw [hfull] at hst
    have hrun : (Builtin.copy_ #[t, t] o.type #[.slice (some ⟨g, 0, none⟩) n n, .slice (some ⟨g', 0, none⟩) n cap]).run P w = .ok (goInt n) (w.setRow g xs.toArray) := by
      simp [Builtin.copy_, run_underlying hu, Builtin.lenOf, Builtin.firstCells, sizeOf, typeInfo, hq, hi, ← hxl, hl, hst]
    unfold Oper.wp
    simp [execOp, ho, resolve, invoke, builtin, hd, hs, hrun, Result.andThen]
    refine h _ (fin _ (setRow_heap w g _ _ e _ hz)) ⟨rfl, rfl, rfl, by simp [World.setRow], fun k hk hn => setRow_other w g k _ hn⟩

theorem wpList_copy_all {P : Program} {ops : Array Oper} {o : Oper} {rest : List Oper} {a : Act} {w : World} {Q : Exit → Act → World → Prop}
    (hgd : o.guard = none) (d s : Operand) (t : TypeId) (ho : o.op = .call { callee := .builtin .copy, args := #[d, s], argTypes := #[t, t] })
    (e : TypeId) (i : TypeInfo) (size : Nat) (hu : P.underlying t = some (.slice e)) (hq : P.info? e = some i) (hi : i.size = size)
    (g n : Nat) (hd : a.eval d = .slice (some ⟨g, 0, none⟩) n n) (zs : Array Value) (hz : w.heap[g]? = some (.cells zs e (0, 0))) (hzl : zs.size = n * size)
    (vx : Value) (b0 : Nat) (xs : List Value) (hs : a.eval s = vx) (hX : w.ownsRow b0 e size vx n xs) (h1 : ∀ u ∈ xs, u.oneCell' = true) (hm : n ≤ maxLen)
    (h : ∀ w', (∀ base, base ≤ g → w'.ownsRow base e size (.slice (some ⟨g, 0, none⟩) n n) n xs) → Only (fun k => k = g) w w' → wpList P ops Q rest (a.put o.dst (goInt n)) w') :
    wpList P ops Q (o :: rest) a w :=
  wpList_plain hgd fun _ hK => oper_copy_all d s t ho e i size hu hq hi g n hd zs hz hzl vx b0 xs hs hX h1 hm fun w' h2 h3 => hK _ _ (h w' h2 h3)
end Go.Proofs.YtganmdbhmihjpaaGreat
/- Maps keyed by int, as functions: what a look-up tells, what a store and a delete leave. -/
namespace Go.Proofs.YtganmdbhmihjpaaGreat
open Go.RowKit Go.Maps
set_option linter.unusedVariables false
set_option maxRecDepth 50000

def heldR : Value → Option (DataW Value × List MemPlace) := fun v => some (.held v, [])
def inInt (t : Int) : Prop := -9223372036854775808 ≤ t ∧ t ≤ 9223372036854775807
/-- block b is a map of at most n entries that holds just m -/
def MapIs (P : Program) (k : TypeId) (w : World) (b n : Nat) (m : Int → Option Value) : Prop :=
  ∃ D : DataW Value, w.ownsMap P k heldR b n D ∧ ∀ t : Int, inInt t → Maps.has D (.int .i64 t) = (m t).isSome ∧ ∀ v, m t = some v → ∀ z, D.atKey (.int .i64 t) z = .held v
def updM (m : Int → Option Value) (t : Int) (v : Option Value) : Int → Option Value := fun s => if s = t then v else m s
theorem inInt_wf {t : Int} (h : inInt t) : (Lit.int .i64 t).wf = true := by
  have h1 := h.1; have h2 := h.2
  simp only [Lit.wf]
  simp
  exact ⟨h1, h2⟩
section
variable {P : Program} {k : TypeId} {w w' : World} {b n : Nat} {m : Int → Option Value}
theorem MapIs.made (P : Program) (k : TypeId) (w : World) : MapIs P k (w.alloc (.map #[] 0)) w.heap.size 0 (fun _ => none) :=
  ⟨_, World.ownsMap_made w P k heldR, fun t _ => ⟨rfl, fun v h => by cases h⟩⟩
theorem MapIs.lt (h : MapIs P k w b n m) : b < w.heap.size := by obtain ⟨D, h, _⟩ := h; exact h.lt
theorem MapIs.mono (h : MapIs P k w b n m) {n' : Nat} (hn : n ≤ n') : MapIs P k w b n' m := by obtain ⟨D, h, e⟩ := h; exact ⟨D, h.mono hn, e⟩
theorem MapIs.obj (h : MapIs P k w b n m) : ∃ es c, w.heap[b]? = some (.map es c) := by
  obtain ⟨D, ⟨es, c, h, _⟩, _⟩ := h
  exact ⟨es, c, h⟩
theorem MapIs.only {S : Nat → Prop} (h : MapIs P k w b n m) (ho : Only S w w') (hs : ¬ S b) : MapIs P k w' b n m := by
  obtain ⟨D, ⟨es, c, h, r⟩, e⟩ := h
  exact ⟨D, ⟨es, c, ho.blk h hs, r⟩, e⟩
theorem MapIs.below (h : MapIs P k w b n m) (l : Below w.heap.size w w') : MapIs P k w' b n m := h.only (Only.empty l (Nat.le_refl _)) (fun h => h)
theorem MapIs.set (h : MapIs P k w b n m) {a : Addr} (ha : b ≠ a.block) (u : Value) : MapIs P k (w.setCell a u) b n m := by
  obtain ⟨D, h, e⟩ := h
  exact ⟨D, h.setCell ha u, e⟩
theorem MapIs.not_cells (h : MapIs P k w b n m) {cs : Array Value} {t : TypeId} {fr : Nat × Nat} (hb : w.heap[b]? = some (.cells cs t fr)) : False := by
  obtain ⟨es, c, h⟩ := h.obj
  rw [h] at hb
  cases hb
theorem only_of_turned (h : w.mapTurned w' b) : Only (fun k => k = b) w w' := Only.of_grown h.grown (fun k e => by injection e with e; exact e.symm)
section
variable {T e : TypeId} (K : P.underlying k = some (.int .i64)) (ht : P.underlying T = some (.map k e)) {z : Value}
include K ht
theorem MapIs.look_ok (h : MapIs P k w b n m) (hz : (zeroValue e).run P w = .ok z w) {t : Int} (hi : inInt t) :
    (Instr.lookup T (.map (some b)) (.int .i64 t) true).run P w = .ok (.tuple #[(m t).getD z, .bool (m t).isSome]) w := by
  obtain ⟨D, h, hm⟩ := h
  obtain ⟨h1, h2⟩ := hm t hi
  obtain ⟨v, ps, hr, hv⟩ := h.look_ok (int_keyed K) ht hz (zd := .held z) (zp := []) rfl (keyOf_int_mk K (inInt_wf hi))
  rw [hr, h1]
  have hv' : DataW.held v = D.atKey (.int .i64 t) (.held z) := by
    have := congrArg (fun o => o.map Prod.fst) hv
    simpa [heldR] using this
  cases hmt : m t with
  | none =>
    rw [hmt] at h1
    rw [Maps.atKey_of_not_has h1] at hv'
    injection hv' with hv'
    subst hv'; rfl
  | some u =>
    rw [h2 u hmt] at hv'
    injection hv' with hv'
    subst hv'; rfl
theorem MapIs.look (h : MapIs P k w b n m) (hz : (zeroValue e).run P w = .ok z w) {t : Int} (hi : inInt t) :
    (Instr.lookup T (.map (some b)) (.int .i64 t) false).run P w = .ok ((m t).getD z) w := by
  obtain ⟨D, h, hm⟩ := h
  obtain ⟨h1, h2⟩ := hm t hi
  obtain ⟨v, ps, hr, hv⟩ := h.lookup (int_keyed K) ht hz (zd := .held z) (zp := []) rfl (keyOf_int_mk K (inInt_wf hi))
  rw [hr]
  have hv' : DataW.held v = D.atKey (.int .i64 t) (.held z) := by
    have := congrArg (fun o => o.map Prod.fst) hv
    simpa [heldR] using this
  cases hmt : m t with
  | none =>
    rw [hmt] at h1
    rw [Maps.atKey_of_not_has h1] at hv'
    injection hv' with hv'
    subst hv'; rfl
  | some u =>
    rw [h2 u hmt] at hv'
    injection hv' with hv'
    subst hv'; rfl
theorem MapIs.store (h : MapIs P k w b n m) (hn : n < 1000000) {t : Int} (hi : inInt t) (v : Value) :
    ∃ w', (Instr.mapUpdate T (.map (some b)) (.int .i64 t) v).run P w = .ok () w' ∧ MapIs P k w' b (n + 1) (updM m t (some v)) ∧ Only (fun k => k = b) w w' := by
  obtain ⟨D, h, hm⟩ := h
  obtain ⟨w', hr, h', hT⟩ := h.store (int_keyed K) ht (by unfold maxLen; omega) (val := v) (d := .held v) (ps := []) (keyOf_int_mk K (inInt_wf hi)) rfl
  refine ⟨w', hr, ⟨_, h', fun s hs => ?_⟩, only_of_turned hT⟩
  obtain ⟨h1, h2⟩ := hm s hs
  have hk : WideAt.IsKeyLit (.int .i64 t) := by first | trivial | exact .int | simp [WideAt.IsKeyLit]
  unfold updM
  by_cases he : s = t
  · subst he
    rw [if_pos rfl]
    refine ⟨Maps.has_put_same h.isMap hk _, fun u hu z => ?_⟩
    injection hu with hu
    subst hu
    exact Maps.atKey_put_same h.isMap hk _ _
  · rw [if_neg he]
    have hne : Lit.int .i64 s ≠ Lit.int .i64 t := fun e => he (by injection e)
    refine ⟨by rw [Maps.has_put_other hne]; exact h1, fun u hu z => ?_⟩
    rw [Maps.atKey_put_other hne]
    exact h2 u hu z
theorem MapIs.drop (h : MapIs P k w b n m) {t : Int} (hi : inInt t) (ty : TypeId) :
    ∃ w', (Builtin.delete_ #[T, k] ty #[.map (some b), .int .i64 t]).run P w = .ok (.tuple #[]) w' ∧ MapIs P k w' b n (updM m t none) ∧ Only (fun k => k = b) w w' := by
  obtain ⟨D, h, hm⟩ := h
  obtain ⟨w', hr, h', hT⟩ := h.drop (int_keyed K) ht (keyOf_int_mk K (inInt_wf hi)) ty
  refine ⟨w', hr, ⟨_, h', fun s hs => ?_⟩, only_of_turned hT⟩
  obtain ⟨h1, h2⟩ := hm s hs
  unfold updM
  by_cases he : s = t
  · subst he
    rw [if_pos rfl]
    exact ⟨Maps.has_del_same, fun u hu z => by cases hu⟩
  · rw [if_neg he]
    have hne : Lit.int .i64 s ≠ Lit.int .i64 t := fun e => he (by injection e)
    refine ⟨by rw [Maps.has_del_other hne]; exact h1, fun u hu z => ?_⟩
    rw [Maps.atKey_del_other hne]
    exact h2 u hu z
end
theorem MapIs.congr {m' : Int → Option Value} (h : MapIs P k w b n m) (he : ∀ t, inInt t → m t = m' t) : MapIs P k w b n m' := by
  obtain ⟨D, h, hm⟩ := h
  exact ⟨D, h, fun t ht => by rw [← he t ht]; exact hm t ht⟩
end
end Go.Proofs.YtganmdbhmihjpaaGreat
/- Right values by bits; the right one that a value counts as. -/
namespace Go.Proofs.YtganmdbhmihjpaaGreat
open Go.RowKit
set_option linter.unusedSimpArgs false
set_option linter.unusedVariables false
set_option maxRecDepth 50000

def rightVal (v : Int) : Bool := decide (v % 9223372036854775808 ≤ 9218868437227405312) || (v == 9221120237041090560)
def canonVal (v : Int) : Int := if rightVal v then v else 9221120237041090560
theorem canon_right (v : Int) : rightVal (canonVal v) = true := by
  unfold canonVal
  split
  · assumption
  · decide
theorem canon_of {v : Int} (h : rightVal v = true) : canonVal v = v := by unfold canonVal; rw [if_pos h]
theorem canon_u64 {v : Int} (h : 0 ≤ v ∧ v < 18446744073709551616) : 0 ≤ canonVal v ∧ canonVal v < 18446744073709551616 := by
  unfold canonVal
  split
  · exact h
  · decide
theorem andNot_sign (v : Int) (h : 0 ≤ v ∧ v < 18446744073709551616) : bits .andNot .u64 v 9223372036854775808 = v % 9223372036854775808 := by
  rw [u64_andNot v _ h.1 h.2 (by decide) (by decide)]
  obtain ⟨V, rfl⟩ := Int.eq_ofNat_of_zero_le h.1
  have : V &&& (18446744073709551615 - (9223372036854775808 : Int).toNat) = V % 9223372036854775808 := by
    show V &&& (2 ^ 63 - 1) = V % 2 ^ 63
    exact Nat.and_two_pow_sub_one_eq_mod V 63
  rw [Int.toNat_natCast, this]
  simp
theorem vRight_any (w : World) (v : Int) (h : 0 ≤ v ∧ v < 18446744073709551616) : Calls Tryz.prog 30 #[.int .u64 v] w fun e w' => e = .returned (.bool (rightVal v)) ∧ w = w' := by
  have hb := andNot_sign v h
  unfold rightVal
  by_cases h1 : v % 9223372036854775808 ≤ 9218868437227405312
  · have hd : decide (v % 9223372036854775808 ≤ 9218868437227405312) = true := by simpa using h1
    rw [hd]
    clear h1 h
    go_enter Tryz.func30, Tryz.ntmps30
    go_wp2_with fail
    go_ret
    exact ⟨rfl, rfl⟩
  · have hd : decide (v % 9223372036854775808 ≤ 9218868437227405312) = false := by simpa using h1
    rw [hd]
    clear h1 h
    go_enter Tryz.func30, Tryz.ntmps30
    go_wp2_with fail
    go_ret
    exact ⟨rfl, rfl⟩
end Go.Proofs.YtganmdbhmihjpaaGreat
/- Rows of one's own: writing into them, cutting them short. -/
namespace Go.Proofs.YtganmdbhmihjpaaGreat
open Go.RowKit
set_option linter.unusedVariables false
set_option maxRecDepth 50000

theorem wp_at {P : Program} {c : Code} {Q : Exit → Act → World → Prop} {a : Act} {w : World} (R : World → Prop) (hw : R w) (h : ∀ w', R w' → c.wp P Q a w') : c.wp P Q a w := h w hw
theorem ownsRow_slice {w : World} {base : Nat} {e : TypeId} {size n : Nat} {v : Value} {xs : List Value} (h : w.ownsRow base e size v n xs) : ∃ a c, v = .slice a n c := by
  rcases h.2 with ⟨rfl, rfl⟩ | ⟨g, cap, cur, rfl, _⟩
  · exact ⟨_, _, rfl⟩
  · exact ⟨_, _, rfl⟩
theorem row_ne {w : World} {base : Nat} {e : TypeId} {size n : Nat} {v : Value} {xs : List Value} (h : w.ownsRow base e size v n xs) {k : Nat} {cs : Array Value} {t : TypeId} {fr : Nat × Nat} (hb : w.heap[k]? = some (.cells cs t fr)) (ht : t ≠ e) : v.ownBlock ≠ some k := by
  intro hk
  rcases h.2 with ⟨rfl, _⟩ | ⟨g, cap, cur, rfl, _, hg, _⟩
  · cases hk
  · have : g = k := by simpa [Value.ownBlock] using hk
    subst this
    rw [hg] at hb
    injection hb with hb
    injection hb with _ hb _
    exact ht hb.symm
theorem row_obj {w : World} {base : Nat} {e : TypeId} {size n : Nat} {v : Value} {xs : List Value} (h : w.ownsRow base e size v n xs) {k : Nat} (hk : v.ownBlock = some k) : ∃ cs, w.heap[k]? = some (.cells cs e (0, 0)) := by
  rcases h.2 with ⟨rfl, _⟩ | ⟨g, cap, cur, rfl, _, hg, _⟩
  · cases hk
  · have : g = k := by simpa [Value.ownBlock] using hk
    subst this
    exact ⟨_, hg⟩
theorem row_set {w : World} {base : Nat} {e : TypeId} {size g cap n k : Nat} {xs : List Value} {u : Value} (h : w.ownsRow base e size (.slice (some ⟨g, 0, none⟩) n cap) n xs) (hk : k < n * size) :
    (w.setCell ⟨g, k, none⟩ u).ownsRow base e size (.slice (some ⟨g, 0, none⟩) n cap) n (xs.set k u) := by
  have hxl : xs.length = n * size := h.1
  rcases h.2 with ⟨h0, _⟩ | ⟨g', cap', cur, he, hb, hg, hn, hm, hs, ht⟩
  · cases h0
  injection he with e1 _ e3
  injection e1 with e1
  injection e1 with e1 _ _
  subst e1 e3
  refine ⟨by simpa using hxl, .inr ⟨g, cap, cur.setIfInBounds k u, rfl, hb, blk_set hg k u, hn, hm, by simpa using hs, ?_⟩⟩
  rw [← ht]
  simp only [Array.toList_setIfInBounds]
  rw [List.take_set]
def setL : List Value → Nat → List Value → List Value
  | xs, _, [] => xs
  | xs, o, v :: r => setL (xs.set o v) (o + 1) r
theorem setL_get : ∀ (vs xs : List Value) (o : Nat), o + vs.length ≤ xs.length → ∀ j, (setL xs o vs)[j]? = if o ≤ j ∧ j < o + vs.length then vs[j - o]? else xs[j]?
  | [], xs, o, _, j => by simp [setL]; omega
  | v :: r, xs, o, h, j => by
    rw [List.length_cons] at h
    rw [setL, setL_get r (xs.set o v) (o + 1) (by rw [List.length_set]; omega) j]
    by_cases h1 : o + 1 ≤ j ∧ j < o + 1 + r.length
    · rw [if_pos h1, if_pos (by rw [List.length_cons]; omega), show j - o = (j - (o + 1)) + 1 by omega, List.getElem?_cons_succ]
    · rw [if_neg h1]
      by_cases h2 : j = o
      · subst h2
        rw [if_pos (by rw [List.length_cons]; omega), List.getElem?_set_self (by omega)]
        simp
      · rw [List.getElem?_set_ne (fun e => h2 e.symm), if_neg (by rw [List.length_cons]; omega)]
theorem setL_take (vs xs : List Value) (o : Nat) (h : o + vs.length ≤ xs.length) : (setL xs o vs).take o = xs.take o := by
  apply List.ext_getElem?
  intro j
  rw [List.getElem?_take, List.getElem?_take]
  split
  · rw [setL_get _ _ _ h, if_neg (by omega)]
  · rfl
theorem row_setCells {base : Nat} {e : TypeId} {size g cap n : Nat} : ∀ (vs : List Value) (o : Nat) (w : World) (xs : List Value), w.ownsRow base e size (.slice (some ⟨g, 0, none⟩) n cap) n xs → o + vs.length ≤ n * size →
    (w.setCells g o vs).ownsRow base e size (.slice (some ⟨g, 0, none⟩) n cap) n (setL xs o vs)
  | [], o, w, xs, h, _ => h
  | v :: r, o, w, xs, h, hl => by
    rw [List.length_cons] at hl
    exact row_setCells r (o + 1) _ _ (row_set h (by omega)) (by omega)
theorem only_setCells {S : Nat → Prop} {g : Nat} {w : World} (hS : w.heap.size ≤ g ∨ S g) : ∀ (vs : List Value) (o : Nat) (w1 : World), Only S w w1 → Only S w (w1.setCells g o vs)
  | [], o, w1, h => h
  | v :: r, o, w1, h => only_setCells hS r (o + 1) _ (h.setCell (p := ⟨g, o, none⟩) hS v)
theorem row_shrink {w : World} {base : Nat} {e : TypeId} {size g cap n i : Nat} {xs : List Value} (h : w.ownsRow base e size (.slice (some ⟨g, 0, none⟩) n cap) n xs) (hi : i ≤ n) :
    w.ownsRow base e size (.slice (some ⟨g, 0, none⟩) i cap) i (xs.take (i * size)) := by
  have hxl : xs.length = n * size := h.1
  have hm := Nat.mul_le_mul_right size hi
  rcases h.2 with ⟨h0, _⟩ | ⟨g', cap', cur, he, hb, hg, hn, hmx, hs, ht⟩
  · cases h0
  injection he with e1 _ e3
  injection e1 with e1
  injection e1 with e1 _ _
  subst e1 e3
  refine ⟨by rw [List.length_take]; omega, .inr ⟨g, cap, cur, rfl, hb, hg, by omega, hmx, hs, ?_⟩⟩
  rw [← ht, List.take_take, Nat.min_eq_left hm]
theorem row_cell1 {w : World} {v : Value} {base n e : Nat} {g cap : Nat} {xs : List Value} (h : w.ownsRow base e 1 (.slice (some ⟨g, 0, none⟩) n cap) n xs) {i : Nat} {u : Value} (hi : xs[i]? = some u) : w.cell? ⟨g, i, none⟩ = some u := by
  have e0 := h.cells (g := g) rfl _ _ hi
  rwa [Addr.add_lit, Nat.zero_add] at e0
end Go.Proofs.YtganmdbhmihjpaaGreat
/- A range over an iterator that keeps its place in a box of its own: the law for a body that goes on or returns. -/
namespace Go.Proofs.YtganmdbhmihjpaaGreat.Wri
open Go.RowKit Go.Shelf
set_option linter.unusedSimpArgs false
set_option linter.unusedVariables false
set_option maxRecDepth 50000

/-- what a round that goes on keeps: all that lay ahead of nb; the iterator's own box -/
structure KeepB (nb Bs : Nat) (W W' : World) : Prop where
  lo : Below nb W W'
  box : W'.heap[Bs]? = W.heap[Bs]?
theorem KeepB.refl (nb Bs : Nat) (W : World) : KeepB nb Bs W W := ⟨Below.refl _ _, rfl⟩
theorem KeepB.trans {nb Bs : Nat} {A B C : World} (h : KeepB nb Bs A B) (k : KeepB nb Bs B C) : KeepB nb Bs A C := ⟨h.lo.trans k.lo, k.box.trans h.box⟩
theorem KeepB.putObj {nb Bs : Nat} (W : World) {l : Nat} (o : Obj) (hW : nb ≤ W.heap.size) (hl : nb ≤ l) (hb : l ≠ Bs) : KeepB nb Bs W (W.putObj l o) :=
  ⟨(Below.refl nb W).grown (grownBy_putObj' W l o) hW (fun k e => by cases e; exact hl) , World.putObj_heap_other (Ne.symm hb)⟩

/-- how a round of the body ends: it goes on, or it returns -/
def RoundEnd {α : Type} (B nb Bs : Nat) (I Ix : List α → World → Prop) (xs : List α) (W : World) : Exit → Act → World → Prop
  | .normal, _, W' => KeepsFrom B W W' ∧ KeepB nb Bs W W' ∧ I xs W'
  | .ret, _, W' => KeepsFrom B W W' ∧ Ix xs W'
  | _, _, _ => False

/-- an iterator over zs that writes no cell but its own box -/
def SeqBox {α : Type} (F : Fence) (n : Nat) (P : Program) (g : Nat) (lb : Array Value) (encs : α → Array Value) (nb Bs : Nat) (zs : List α) (w : World) : Prop :=
  ∀ (l : Nat) (J Jx : List α → World → Prop) (W : World), Below w.heap.size w W → (∀ s W v, J s W → J s (W.setCell ⟨Bs, 0, none⟩ v)) →
    (∀ pre x W1, J pre W1 → (∃ post, zs = pre ++ x :: post) → YieldAt F (n - 1) P l (encs x) W1 fun e W' =>
      (e = .returned (.bool true) ∧ J (pre ++ [x]) W' ∧ KeepB nb Bs W1 W') ∨ (e = .returned (.bool false) ∧ Jx (pre ++ [x]) W')) →
    J [] W →
    CallsIn F n P g (#[.func (.yield l) #[] #[]] ++ lb) W fun e W' => (∃ v, e = .returned v) ∧ (J zs W' ∨ ∃ pre, Jx pre W')

theorem range_box {α : Type} {F : Fence} {n : Nat} {P : Program} {g : Operand} {ps : Array Tmp} {assign body : Code} {Q : Exit → Act → World → Prop} {a : Act} {w : World}
    (hro : F.round = none) (h1 : 1 ≤ n) {gf : Nat} {lb : Array Value} (hg : a.eval g = .func (.func gf) #[] lb) (hFg : F.fn gf) (eg : ∀ args w, (callFunc gf args).run P w = .ok (.enter gf args) w)
    {encs : α → Array Value} {nb Bs : Nat} {zs : List α} (hseq : SeqBox F (n - 1) P gf lb encs nb Bs zs w) (hnb : nb ≤ w.heap.size) (hBs : Bs < w.heap.size) (hps : ∀ x, (encs x).size = ps.size)
    (I Ix : List α → World → Prop) (hI : OwnFrom w.heap.size I) (hIx : OwnFrom w.heap.size Ix) (hIb : ∀ s W v, I s W → I s (W.setCell ⟨Bs, 0, none⟩ v)) (h0 : I [] w) (a₁ : α → Act)
    (hassign : ∀ (l : Nat) (x : α) (W : World) (K : Act → World → Prop), K (a₁ x) W →
      assign.wpIn (F.inRound l) (n - 1 - 1) P (Exit.then K (fun _ _ _ => False)) { tmps := (ps.zip (encs x)).foldl (fun t (p, v) => t.setIfInBounds p v) a.tmps, defers := [] } W)
    (hbody : ∀ (l : Nat) (pre : List α) (x : α) (W : World), I pre W → (∃ post, zs = pre ++ x :: post) → body.wpIn (F.inRound l) (n - 1 - 1) P (RoundEnd w.heap.size nb Bs I Ix (pre ++ [x]) W) (a₁ x) W)
    (hdone : ∀ (D : Nat) (W : World), w.heap.size ≤ D → I zs W → W.heap[D]? = some (.deferred (some [])) → Q .normal { a with defers := { target := .collected D, args := #[] } :: a.defers } W)
    (hstop : ∀ (D : Nat) (pre : List α) (W : World), w.heap.size ≤ D → Ix pre W → W.heap[D]? = some (.deferred (some [])) → Code.ret.wpIn F n P Q { a with defers := { target := .collected D, args := #[] } :: a.defers } W) :
    (Code.rangeFunc g ps assign body).wpIn F n P Q a w := by
  refine wpIn_rangeFunc fun fn hfn => ?_
  rw [hro]
  -- the loop's record R, in its states, lies in block w.heap.size + 1; the mark's block is w.heap.size
  let R : LoopState → Option Code → Loop := fun st pe => { state := st, pending := pe, fn, tmps := a.tmps, params := ps, assign, body, defers := w.heap.size }
  let W1 : World := (w.alloc (.deferred (some []))).alloc (.loop (R .ready none))
  let At : Loop → World → Prop := fun r W => W.heap[w.heap.size + 1]? = some (.loop r) ∧ W.heap[w.heap.size]? = some (.deferred (some []))
  have hsz : (w.alloc (.deferred (some []))).heap.size = w.heap.size + 1 := by simp
  have hAt1 : At (R .ready none) W1 := by
    refine ⟨?_, ?_⟩
    · have := World.alloc_heap_new (w.alloc (.deferred (some []))) (.loop (R .ready none))
      rwa [hsz] at this
    · exact (Below.heap_alloc _ _ _ (by rw [hsz]; omega)).trans (World.alloc_heap_new w _)
  -- a turn of the record keeps the mark
  have hput : ∀ (r r' : Loop) (W : World), At r W → At r' (W.putObj (w.heap.size + 1) (.loop r')) := fun r r' W h =>
    ⟨World.putObj_heap_same (Array.getElem?_eq_some_iff.1 h.1).1, (World.putObj_heap_other (by omega)).trans h.2⟩
  have hIput : ∀ (s : List α) (r r' : Loop) (W : World), At r W → I s W → I s (W.putObj (w.heap.size + 1) (.loop r')) := fun s r r' W h hi => hI.putObj _ hi (by omega) h.1 rfl
  have hIxput : ∀ (s : List α) (r r' : Loop) (W : World), At r W → Ix s W → Ix s (W.putObj (w.heap.size + 1) (.loop r')) := fun s r r' W h hi => hIx.putObj _ hi (by omega) h.1 rfl
  have hkeep : ∀ (r : Loop) (W W' : World), At r W → KeepsFrom w.heap.size W W' → At r W' := fun r W W' h k => ⟨k.same _ _ (by omega) h.1 rfl, k.same _ _ (Nat.le_refl _) h.2 rfl⟩
  refine ⟨w.heap.size + 1, [{ target := .collected w.heap.size, args := #[] }], W1, { target := .fn (.func gf) lb, args := #[.func (.yield (w.heap.size + 1)) #[] #[]] }, W1, gf,
    #[.func (.yield (w.heap.size + 1)) #[] #[]] ++ lb, W1, run_enterLoop_outer _ _ _ _ _, ?_, ?_, ?_, fun _ => h1, ?_⟩
  · simp only [resolve, hg]
    simp [go_sem]
  · intro f' hf'
    simp [Target.leads] at hf'
    subst hf'
    exact hFg
  · simp [invoke, go_sem, eg]
  refine (hseq (w.heap.size + 1) (fun pre W => I pre W ∧ At (R .ready none) W) (fun pre W => Ix pre W ∧ At (R .done (some .ret)) W) W1
    (((Below.refl _ w).alloc (Nat.le_refl _) _).alloc (by rw [hsz]; omega) _) ?_ ?_ ⟨hI.alloc _ (hI.alloc _ h0), hAt1⟩).mono ?_
  · rintro s W v ⟨hi, h⟩
    have hk := KeepsOthers.setCell W ⟨Bs, 0, none⟩ v
    exact ⟨hIb s W v hi, hk.same _ _ h.1 rfl, hk.same _ _ h.2 rfl⟩
  · rintro pre x W ⟨hi, h⟩ hx
    refine ⟨fn, _, assign, body, run_yield h.1 (hps x), roundIn_of_wpIn hfn (hassign _ x W _ ?_)⟩
    refine ⟨_, run_beginRound h.1 rfl, ?_⟩
    have hb := hput _ { R .ready none with state := .busy } W h
    refine wpIn_mono (hbody _ pre x _ (hIput pre _ _ W h hi) hx) ?_
    rintro e a3 W3 hp
    cases e with
    | normal =>
      obtain ⟨hk3, hkb, hi3⟩ := hp
      have h3 := hkeep _ _ _ hb hk3
      refine ⟨_, _, run_endRound (P := P) none h3.1, .inl ⟨rfl, ⟨hIput _ _ _ W3 h3 hi3, hput _ _ W3 h3⟩, ?_⟩⟩
      have s0 := (Array.getElem?_eq_some_iff.1 h.1).1
      have s3 := (Array.getElem?_eq_some_iff.1 h3.1).1
      exact (KeepB.putObj W _ (by omega) (by omega) (by omega)).trans (hkb.trans (KeepB.putObj W3 _ (by omega) (by omega) (by omega)))
    | ret =>
      obtain ⟨hk3, hi3⟩ := hp
      have h3 := hkeep _ _ _ hb hk3
      exact ⟨_, _, run_endRound (P := P) (some .ret) h3.1, .inr ⟨rfl, hIxput _ _ _ W3 h3 hi3, hput _ _ W3 h3⟩⟩
    | exit id => exact hp.elim
    | goto t => exact hp.elim
    | panic ch => exact hp.elim
    | outgrown => exact hp.elim
  · rintro e W2 ⟨⟨v, rfl⟩, (⟨hi, h⟩ | ⟨pre, hi, h⟩)⟩
    · exact ⟨none, _, run_endLoop (P := P) h.1 (by simp [R]), hdone _ _ (Nat.le_refl _) (hIput _ _ _ W2 h hi) (hput _ _ W2 h).2⟩
    · exact ⟨some .ret, _, run_endLoop (P := P) h.1 (by simp [R]), hstop _ pre _ (Nat.le_refl _) (hIxput _ _ _ W2 h hi) (hput _ _ W2 h).2⟩
end Go.Proofs.YtganmdbhmihjpaaGreat.Wri
/- What was written, in plain words; how frames stand in memory. -/
namespace Go.Proofs.YtganmdbhmihjpaaGreat.Wri
open Go.RowKit
set_option linter.unusedSimpArgs false
set_option linter.unusedVariables false
set_option maxRecDepth 50000

abbrev ptr (b : Nat) : Value := .pointer (some ⟨b, 0, none⟩)
abbrev Frm := List (Int × Int)
def pairVals (f : Frm) : List Value := f.flatMap fun p => [.int .i64 p.1, .int .u64 p.2]
theorem pairVals_length (f : Frm) : (pairVals f).length = f.length * 2 := by
  induction f with
  | nil => rfl
  | cons x f ih => simp [pairVals] at ih ⊢; omega
theorem pairVals_get (f : Frm) (i : Nat) (p : Int × Int) (h : f[i]? = some p) : (pairVals f)[i * 2]? = some (.int .i64 p.1) ∧ (pairVals f)[i * 2 + 1]? = some (.int .u64 p.2) := by
  induction f generalizing i with
  | nil => simp at h
  | cons x f ih =>
    cases i with
    | zero => simp at h; subst h; exact ⟨rfl, rfl⟩
    | succ i =>
      have := ih i (by simpa using h)
      have e : pairVals (x :: f) = .int .i64 x.1 :: .int .u64 x.2 :: pairVals f := rfl
      rw [e, show (i + 1) * 2 = i * 2 + 1 + 1 by omega, show i * 2 + 1 + 1 + 1 = (i * 2 + 1) + 1 + 1 by omega]
      simpa using this
theorem pairVals_one (f : Frm) : ∀ u ∈ pairVals f, u.oneCell' = true := by
  intro u hu
  obtain ⟨p, _, hp⟩ := List.mem_flatMap.1 hu
  simp at hp
  rcases hp with rfl | rfl <;> rfl
theorem pairVals_append (f g : Frm) : pairVals (f ++ g) = pairVals f ++ pairVals g := by simp [pairVals]
theorem pairVals_set (f : Frm) (i : Nat) (t v v' : Int) (h : f[i]? = some (t, v)) : (pairVals f).set (i * 2 + 1) (.int .u64 v') = pairVals (f.set i (t, v')) := by
  induction f generalizing i with
  | nil => simp at h
  | cons x f ih =>
    cases i with
    | zero => simp at h; subst h; rfl
    | succ i =>
      have := ih i (by simpa using h)
      have e : ∀ (y : Int × Int) (g : Frm), pairVals (y :: g) = .int .i64 y.1 :: .int .u64 y.2 :: pairVals g := fun _ _ => rfl
      rw [e, show (i + 1) * 2 + 1 = (i * 2 + 1) + 1 + 1 by omega, List.set_cons_succ, List.set_cons_succ, this, List.set_cons_succ, e]
/-- a frame's value of a variable -/
def getF (f : Frm) (t : Int) : Option Int := (f.find? fun p => p.1 == t).map (·.2)
/-- a frame with a value more, or another one -/
def putF : Frm → Int → Int → Frm
  | [], t, v => [(t, v)]
  | p :: f, t, v => if p.1 = t then (t, v) :: f else p :: putF f t v
theorem getF_put (f : Frm) (t v s : Int) : getF (putF f t v) s = if s = t then some v else getF f s := by
  induction f with
  | nil =>
    by_cases h : s = t
    · simp [putF, getF, h]
    · have : ¬ t = s := fun e => h e.symm
      simp [putF, getF, h, this]
  | cons p f ih =>
    unfold putF
    by_cases hp : p.1 = t
    · rw [if_pos hp]
      by_cases h : s = t
      · simp [getF, h]
      · have h2 : ¬ t = s := fun e => h e.symm
        have h3 : ¬ p.1 = s := by rw [hp]; exact h2
        simp [getF, h, h2, h3]
    · rw [if_neg hp]
      by_cases h3 : p.1 = s
      · have h : ¬ s = t := by rw [← h3]; exact hp
        simp [getF, h3, h]
      · have e1 : getF (p :: putF f t v) s = getF (putF f t v) s := by simp [getF, h3]
        have e2 : getF (p :: f) s = getF f s := by simp [getF, h3]
        rw [e1, e2, ih]
/-- the first k are not t: where t stands -/
theorem putF_at (f : Frm) (i : Nat) (t v v' : Int) (h : f[i]? = some (t, v)) (hn : ∀ j p, j < i → f[j]? = some p → p.1 ≠ t) : putF f t v' = f.set i (t, v') := by
  induction f generalizing i with
  | nil => simp at h
  | cons x f ih =>
    cases i with
    | zero => simp at h; subst h; simp [putF]
    | succ i =>
      have hx : x.1 ≠ t := hn 0 x (by omega) rfl
      rw [putF, if_neg hx, List.set_cons_succ, ih i (by simpa using h) (fun j p hj hp => hn (j + 1) p (by omega) (by simpa using hp))]
theorem putF_new (f : Frm) (t v : Int) (hn : ∀ j p, j < f.length → f[j]? = some p → p.1 ≠ t) : putF f t v = f ++ [(t, v)] := by
  induction f with
  | nil => rfl
  | cons x f ih =>
    have hx : x.1 ≠ t := hn 0 x (by simp) rfl
    rw [putF, if_neg hx, ih (fun j p hj hp => hn (j + 1) p (by simp; omega) (by simpa using hp))]
    rfl
theorem getF_at (f : Frm) (i : Nat) (t v : Int) (h : f[i]? = some (t, v)) (hn : ∀ j p, j < i → f[j]? = some p → p.1 ≠ t) : getF f t = some v := by
  induction f generalizing i with
  | nil => simp at h
  | cons x f ih =>
    cases i with
    | zero => simp at h; subst h; simp [getF]
    | succ i =>
      have hx : x.1 ≠ t := hn 0 x (by omega) rfl
      have e : getF (x :: f) t = getF f t := by simp [getF, hx]
      rw [e]
      exact ih i (by simpa using h) (fun j p hj hp => hn (j + 1) p (by omega) (by simpa using hp))
theorem getF_none (f : Frm) (t : Int) (hn : ∀ j p, j < f.length → f[j]? = some p → p.1 ≠ t) : getF f t = none := by
  induction f with
  | nil => rfl
  | cons x f ih =>
    have hx : x.1 ≠ t := hn 0 x (by simp) rfl
    have e : getF (x :: f) t = getF f t := by simp [getF, hx]
    rw [e]
    exact ih (fun j p hj hp => hn (j + 1) p (by simp; omega) (by simpa using hp))

/-- a frame in memory -/
abbrev FrAt (w : World) (v : Value) (f : Frm) : Prop := w.ownsRow 0 94 2 v f.length (pairVals f)
/-- a row that was made since -/
def Fr (w : World) (u : Value) : Prop := ∀ k, u.ownBlock = some k → w.heap.size ≤ k
def StackAt (w : World) (p : Value) : List (Value × Frm) → Prop
  | [] => p = .pointer none
  | x :: r => ∃ b q, p = ptr b ∧ w.heap[b]? = some (.cells #[x.1, q] 142 (0, 0)) ∧ FrAt w x.1 x.2 ∧ x.2.length ≤ 1000 ∧ StackAt w q r
theorem frAt_below {w w' : World} {v : Value} {f : Frm} (h : FrAt w v f) (l : Below w.heap.size w w') : FrAt w' v f :=
  ownsRow_only h (Only.empty l (Nat.le_refl _)) (fun _ _ h => h)
theorem StackAt.below {w w' : World} (l : Below w.heap.size w w') : ∀ {p : Value} {xs : List (Value × Frm)}, StackAt w p xs → StackAt w' p xs
  | _, [], h => h
  | _, x :: r, ⟨b, q, e, hb, hf, hl, hr⟩ => ⟨b, q, e, bblk l hb, frAt_below hf l, hl, StackAt.below l hr⟩
theorem frAt_cell {w : World} {g cap n : Nat} {f : Frm} (h : FrAt w (.slice (some ⟨g, 0, none⟩) n cap) f) {i : Nat} {p : Int × Int} (hi : f[i]? = some p) :
    w.cell? ⟨g, i * 2, none⟩ = some (.int .i64 p.1) ∧ w.cell? ⟨g, i * 2 + 1, none⟩ = some (.int .u64 p.2) := by
  obtain ⟨h0, h1⟩ := pairVals_get f i p hi
  have hc := h.cells (g := g) rfl
  have e0 := hc _ _ h0
  have e1 := hc _ _ h1
  rw [Addr.add_lit, Nat.zero_add] at e0 e1
  exact ⟨e0, e1⟩
/-- a frame's slice value -/
theorem frAt_slice {w : World} {v : Value} {f : Frm} (h : FrAt w v f) : (v = .slice none 0 0 ∧ f = []) ∨ ∃ g cap, v = .slice (some ⟨g, 0, none⟩) f.length cap := by
  rcases h.2 with ⟨rfl, h0⟩ | ⟨g, cap, cur, rfl, _⟩
  · exact .inl ⟨rfl, List.length_eq_zero_iff.1 h0⟩
  · exact .inr ⟨g, cap, rfl⟩
theorem row_set {w : World} {base : Nat} {e : TypeId} {size g cap n k : Nat} {xs : List Value} {u : Value} (h : w.ownsRow base e size (.slice (some ⟨g, 0, none⟩) n cap) n xs) (hk : k < n * size) :
    (w.setCell ⟨g, k, none⟩ u).ownsRow base e size (.slice (some ⟨g, 0, none⟩) n cap) n (xs.set k u) := by
  have hxl : xs.length = n * size := h.1
  rcases h.2 with ⟨h0, _⟩ | ⟨g', cap', cur, he, hb, hg, hn, hm, hs, ht⟩
  · cases h0
  injection he with e1 _ e3
  injection e1 with e1
  injection e1 with e1 _ _
  subst e1 e3
  refine ⟨by simpa using hxl, .inr ⟨g, cap, cur.setIfInBounds k u, rfl, hb, blk_set hg k u, hn, hm, by simpa using hs, ?_⟩⟩
  rw [← ht]
  simp only [Array.toList_setIfInBounds]
  rw [List.take_set]
end Go.Proofs.YtganmdbhmihjpaaGreat.Wri
/- Frames: push, get, put; right values. -/
namespace Go.Proofs.YtganmdbhmihjpaaGreat.Wri
open Go.RowKit
set_option linter.unusedSimpArgs false
set_option linter.unusedVariables false
set_option maxRecDepth 50000

theorem infoP : (Tryz.prog.info? 94).map (fun i => (i.zero, i.size, i.bytes)) = some (some (.agg #[.int .i64 0, .int .u64 0]), 2, 16) := by kernel_rfl
theorem push_any (w : World) (o : Option Addr) (a : Option Addr) (n c : Nat) : Calls Tryz.prog 88 #[.pointer o, .slice a n c] w fun e w' => e = .returned (ptr w.heap.size) ∧ w' = w.alloc (.cells #[.slice a n c, .pointer o] 142) := by
  go_enter Tryz.func88, Tryz.ntmps88
  go_wp2_with fail
  go_ret
  exact ⟨rfl, rfl⟩
theorem get_any (w : World) (v : Value) (f : Frm) (h : FrAt w v f) (hl : f.length ≤ 1000) (t : Int) : Calls Tryz.prog 94 #[v, .int .i64 t] w fun e w' => e = .returned (.tuple #[.int .u64 ((getF f t).getD 0), .bool (getF f t).isSome]) ∧ Below w.heap.size w w' := by
  have HF := Lib.hid h
  rcases frAt_slice h with ⟨rfl, rfl⟩ | ⟨g, cap, rfl⟩
  · clear h
    go_enter Tryz.func94, Tryz.ntmps94
    go_wp2_with fail
    go_loopw [10] (fun i wr => i = .int .i64 0 ∧ wr = w) (fun i _ => 0)
    case atStart => exact ⟨rfl, rfl⟩
    case round =>
      obtain ⟨rfl, rfl⟩ := hrel
      go_wp2_with fail
      go_ret2
      exact ⟨rfl, Below.refl _ _⟩
  · clear h
    obtain ⟨n, hn⟩ : ∃ n, f.length = n := ⟨_, rfl⟩
    have HN := Lib.hid hn
    rw [hn] at hl HF
    rw [hn]
    clear hn
    go_enter Tryz.func94, Tryz.ntmps94
    go_wp2_with fail
    go_loopw [10] (fun i wr => ∃ k : Nat, i = .int .i64 k ∧ k ≤ n ∧ Below w.heap.size w wr ∧ ∀ j p, j < k → f[j]? = some p → p.1 ≠ t) (fun i _ => n - (intOf i).toNat)
    case atStart => exact ⟨0, rfl, Nat.zero_le _, Below.refl _ _, fun j p hj => by omega⟩
    case round =>
      obtain ⟨k, rfl, hk, hB, hno⟩ := hrel
      have HB := Lib.hid hB; have HNO := Lib.hid hno
      clear hB hno
      by_cases hlt : k < n
      · obtain ⟨p, hp⟩ : ∃ p, f[k]? = some p := ⟨f[k]'(by rw [HN.out]; exact hlt), List.getElem?_eq_getElem _⟩
        obtain ⟨c0, c1⟩ := frAt_cell (n := n) HF.out hp
        replace c0 := bkeep HB.out c0; replace c1 := bkeep HB.out c1
        obtain ⟨pt, pv⟩ := p
        simp only at c0 c1
        have lb : Below wr.heap.size wr (wr.alloc (.cells #[.int .i64 pt, .int .u64 pv] 94)) := by repeat (first | (with_reducible exact Below.refl _ _) | (with_reducible apply Below.drew) | (with_reducible refine below_drewN ?_ _) | (with_reducible refine below_alloc' ?_ ?_ _; (focus ((try simp) <;> omega))) | (with_reducible refine below_set' ?_ ?_ _; (focus ((try simp) <;> omega))))
        have HL := Lib.hid (btrans HB.out (Nat.le_refl _) lb)
        have HP := Lib.hid hp
        clear hp lb
        by_cases he : pt = t
        · subst he
          have hg := getF_at f k pt pv HP.out HNO.out
          have HG := Lib.hid hg
          clear hg
          go_wp2_with fail
          go_ret2
          exact ⟨by rw [HG.out]; rfl, HL.out⟩
        · have hq : (pt == t) = false := by simpa using he
          have hno' : ∀ j p, j < k + 1 → f[j]? = some p → p.1 ≠ t := fun j p hj hjp => by
            by_cases hjk : j = k
            · subst hjk; rw [HP.out] at hjp; injection hjp with e; rw [← e]; exact he
            · exact HNO.out j p (by omega) hjp
          have HNO2 := Lib.hid hno'
          clear hno' he
          go_wp2_with fail
          exact ⟨⟨k + 1, by go_num, by omega, HL.out, HNO2.out⟩, by simp [intOf]; omega⟩
      · have hg := getF_none f t (fun j p hj hjp => HNO.out j p (by have := HN.out; omega) hjp)
        have HG := Lib.hid hg
        clear hg
        go_wp2_with fail
        go_ret2
        exact ⟨by rw [HG.out]; rfl, HB.out⟩

/-! ### Clone -/
theorem cloneF_any (w : World) (v : Value) (n : Nat) (xs : List Value) (h : w.ownsRow 0 94 2 v n xs) (hn : n ≤ 1000) (h1 : ∀ u ∈ xs, u.oneCell' = true) : Calls Tryz.prog 120 #[v] w fun e w' =>
    ∃ v', e = .returned v' ∧ w'.ownsRow w.heap.size 94 2 v' n xs ∧ Below w.heap.size w w' := by
  obtain ⟨i0, hi, hz0, hz1, hz2⟩ := info_parts infoP
  have hnil : ∀ (a : Option Addr) (l c : Nat) (w : World), (binOp .eql 121 (.slice a l c) (.slice none 0 0)).run Tryz.prog w = .ok (.bool a.isNone) w := fun a l c w => Lib.run_eql_slice_nil (P := Tryz.prog) w 121 94 a l c 0 0 Tryz.underlying121
  rcases h.2 with ⟨rfl, rfl⟩ | ⟨g, cap, cur, rfl, _, hg, _⟩
  · have h0 : w.ownsRow w.heap.size 94 2 (.slice none 0 0) 0 xs := ⟨h.1, .inl ⟨rfl, rfl⟩⟩
    have H := Lib.hid h0; clear h0 h h1 hn
    go_enter Tryz.func120, Tryz.ntmps120
    go_wp2
    go_ret
    exact ⟨_, rfl, H.out, Below.refl _ _⟩
  · have hl : xs.length = n * 2 := h.1
    have hE : (w.alloc (.cells #[] 94)).ownsRow w.heap.size 94 2 (.slice (some ⟨w.heap.size, 0, none⟩) 0 0) 0 [] := by
      have := World.ownsRow_lit (base := w.heap.size) (e := 94) (size := 2) w #[] 0 (Nat.le_refl _) (by decide) (by simp)
      simpa using this
    have hs := h.cells (g := g) rfl
    have hglt := blk_lt hg
    have HS := Lib.hid hs; have H1 := Lib.hid h1; have HE := Lib.hid hE; have HL := Lib.hid hl
    clear hs h1 hE hl h hg
    go_enter Tryz.func120, Tryz.ntmps120
    go_wp2_with (at_builtin; refine wpList_append_own _ rfl _ _ 121 rfl w.heap.size 94 i0 (.agg #[.int .i64 0, .int .u64 0]) 2 16 Tryz.underlying121 hi hz0 hz1 hz2 rfl (by decide) _ 0 [] rfl HE.out ⟨g, 0, none⟩ n cap xs rfl HL.out ?c1 H1.out ?c3 ?c4 ?c5 ?_)
    case c1 =>
      intro j u hu
      have := HS.out j u hu
      rw [Addr.add_lit] at this ⊢
      exact bkeep ((Below.refl _ _).alloc (Nat.le_refl _) _) this
    case c3 => unfold maxLen; omega
    case c4 => omega
    case c5 => simp
    intro v' w1 hown hgr _
    have hB : Below w.heap.size w w1 := ((Below.refl _ w).alloc (Nat.le_refl _) (.cells #[] 94)).grown hgr (by simp) (by simp [Value.ownBlock])
    have hW := Lib.hid hown; have HB := Lib.hid hB
    clear hown hgr hB HS H1 HE
    go_wp2
    go_ret
    exact ⟨_, rfl, by simpa using hW.out, HB.out⟩
/-! ### put -/
theorem putF_len (f : Frm) (t v : Int) : (putF f t v).length ≤ f.length + 1 := by
  induction f with
  | nil => simp [putF]
  | cons p f ih =>
    unfold putF
    split
    · simp
    · simp; omega
theorem put_any (w : World) (v : Value) (f : Frm) (h : FrAt w v f) (hl : f.length ≤ 900) (t u : Int) : Calls Tryz.prog 104 #[v, .agg #[.int .i64 t, .int .u64 u]] w fun e w' =>
    ∃ a n c, e = .returned (.slice a n c) ∧ FrAt w' (.slice a n c) (putF f t u) ∧ Below w.heap.size w w' ∧ Fr w (.slice a n c) := by
  obtain ⟨i0, hi, hz0, hz1, hz2⟩ := info_parts infoP
  obtain ⟨n, hn⟩ : ∃ n, f.length = n := ⟨_, rfl⟩
  have HN := Lib.hid hn
  have HF := Lib.hid h
  have lb : Below w.heap.size w (w.alloc (.cells #[.int .i64 t, .int .u64 u] 94)) := by repeat (first | (with_reducible exact Below.refl _ _) | (with_reducible apply Below.drew) | (with_reducible refine below_drewN ?_ _) | (with_reducible refine below_alloc' ?_ ?_ _; (focus ((try simp) <;> omega))) | (with_reducible refine below_set' ?_ ?_ _; (focus ((try simp) <;> omega))))
  have hbx := blk_new w (.cells #[.int .i64 t, .int .u64 u] 94)
  have hF0 := Lib.hid (frAt_below h lb)
  have HB0 := Lib.hid lb; have HBX := Lib.hid hbx
  clear h lb hbx hn
  go_enter Tryz.func104, Tryz.ntmps104
  go_wp2_with fail
  generalize w.alloc (.cells #[.int .i64 t, .int .u64 u] 94) = w0 at *
  refine (cloneF_any w0 v _ _ hF0.out (by omega) (pairVals_one f)).mono ?_
  rintro e w1 ⟨v1, rfl, o1, l1⟩
  have hb1 := bblk l1 HBX.out
  have hsz0 := blk_lt HBX.out
  have HO := Lib.hid o1; have HL1 := Lib.hid (btrans HB0.out (Nat.le_refl _) l1)
  have b0 := blk_cell hb1 0; have b1 := blk_cell hb1 1
  simp only [List.getElem?_toArray, List.getElem?_cons_zero, List.getElem?_cons_succ] at b0 b1
  clear o1 l1 hb1 hF0 HBX HB0 HF
  -- behind the loop: nothing was found
  have HEND := Lib.hid (show (∀ j p, j < f.length → f[j]? = some p → p.1 ≠ t) → putF f t u = f ++ [(t, u)] from putF_new f t u)
  have hrow := HO.out
  rw [HN.out] at hrow
  have HROW := Lib.hid hrow
  have hle := HL1.out.size
  have hn9 : n ≤ 900 := by rw [← HN.out]; exact hl
  clear hrow HO
  rcases HROW.out.2 with ⟨rfl, rfl⟩ | ⟨g, cap, cur, rfl, hg0, hg, _⟩
  · have hf : f = [] := List.length_eq_zero_iff.1 HN.out
    subst hf
    have hE : (w1.alloc (.cells #[.int .i64 t, .int .u64 u] 94)).ownsRow w1.heap.size 94 2 (.slice none 0 0) 0 [] := World.ownsRow_nil _ _ _ _
    have HE := Lib.hid hE
    clear hE
    go_wp2_with fail
    go_loopw [11] (fun i wr => i = .int .i64 0 ∧ wr = w1) (fun i _ => 0)
    case atStart => exact ⟨rfl, rfl⟩
    case round =>
      obtain ⟨rfl, rfl⟩ := hrel
      go_wp2_with (at_builtin; refine wpList_append_own _ rfl _ _ 121 rfl wr.heap.size 94 i0 (.agg #[.int .i64 0, .int .u64 0]) 2 16 Tryz.underlying121 hi hz0 hz1 hz2 rfl (by decide) _ 0 [] rfl HE.out ⟨wr.heap.size, 0, none⟩ 1 1 [.int .i64 t, .int .u64 u] rfl rfl ?c1 ?c2 ?c3 ?c4 ?c5 ?_)
      case c1 =>
        intro j v hv
        rw [Addr.add_lit]
        have := blk_cell (blk_new wr (.cells #[.int .i64 t, .int .u64 u] 94)) j
        rw [Nat.zero_add, this]
        simpa using hv
      case c2 => simp [Value.oneCell']
      case c3 => unfold maxLen; omega
      case c4 => omega
      case c5 => simp
      intro v' w2 hown hgr _
      have hB : Below w.heap.size w w2 := (HL1.out.alloc hle _).grown hgr (by simp; omega) (by simp [Value.ownBlock])
      obtain ⟨g', cap', rfl⟩ := ownsRow_succ hown
      have HW := Lib.hid hown; have HB := Lib.hid hB
      clear hown hgr hB
      go_wp2_with fail
      go_ret
      exact ⟨_, _, _, rfl, ownsRow_base (base' := 0) HW.out (fun k _ => Nat.zero_le _), HB.out, fun k hk => Nat.le_trans hle (HW.out.lt k hk).1⟩
  · have hgl := blk_lt hg
    have hg1 : w.heap.size ≤ g := by omega
    have hfr := blk_free hg
    clear hg
    go_wp2_with fail
    go_loopw [11] (fun i wr => ∃ k : Nat, i = .int .i64 k ∧ k ≤ n ∧ Below w1.heap.size w1 wr ∧ ∀ j p, j < k → f[j]? = some p → p.1 ≠ t) (fun i _ => n - (intOf i).toNat)
    case atStart => exact ⟨0, rfl, Nat.zero_le _, Below.refl _ _, fun j p hj => by omega⟩
    case round =>
      obtain ⟨k, rfl, hk, hB, hno⟩ := hrel
      have HB := Lib.hid hB; have HNO := Lib.hid hno
      have HR := Lib.hid (ownsRow_only HROW.out (Only.empty hB (Nat.le_refl _)) (fun _ _ h => h))
      have hszr := hB.size
      have b0r := bkeep hB b0; have b1r := bkeep hB b1
      have hfrr : ∀ i, wr.frozen? ⟨g, i, none⟩ = false := fun i => by
        rcases HR.out.2 with ⟨h0, _⟩ | ⟨g2, cap2, cur2, he2, _, hg2, _⟩
        · cases h0
        · injection he2 with e1 _ _
          injection e1 with e1
          injection e1 with e1 _ _
          subst e1
          exact blk_free hg2 i
      clear hB hno
      by_cases hlt : k < n
      · obtain ⟨p, hp⟩ : ∃ p, f[k]? = some p := ⟨f[k]'(by rw [HN.out]; exact hlt), List.getElem?_eq_getElem _⟩
        have hFR : FrAt wr (.slice (some ⟨g, 0, none⟩) n cap) f := by
          have := ownsRow_base (base' := 0) HR.out (fun k _ => Nat.zero_le _)
          unfold FrAt
          rwa [HN.out]
        obtain ⟨c0, c1⟩ := frAt_cell hFR hp
        obtain ⟨pt, pv⟩ := p
        simp only at c0 c1
        have HP := Lib.hid hp; have HFR := Lib.hid hFR
        clear hp hFR
        by_cases he : pt = t
        · subst he
          have hq : (pt == pt) = true := by simp
          have hput := putF_at f k pt pv u HP.out HNO.out
          have hset := row_set (u := .int .u64 u) (k := k * 2 + 1) HR.out (by omega)
          rw [pairVals_set f k pt pv u HP.out] at hset
          have HPUT := Lib.hid hput; have HSET := Lib.hid hset
          clear hput hset
          go_wp2_with fail
          go_quiet (fail)
          go_wp2_with fail
          go_ret
          refine ⟨_, _, _, rfl, ?_, ?_, fun k hk => Nat.le_trans hg1 (Nat.le_of_eq (by simpa [Value.ownBlock] using hk))⟩
          · rw [HPUT.out]
            unfold FrAt
            rw [List.length_set, HN.out]
            exact ownsRow_base (base' := 0) HSET.out (fun k _ => Nat.zero_le _)
          · exact ((btrans HL1.out (Nat.le_refl _) HB.out).trans (below_drewN (Below.refl _ _) _)).setCell (p := ⟨g, k * 2 + 1, none⟩) hg1 _
        · have hq : (pt == t) = false := by simpa using he
          have hno' : ∀ j p, j < k + 1 → f[j]? = some p → p.1 ≠ t := fun j p hj hjp => by
            by_cases hjk : j = k
            · subst hjk; rw [HP.out] at hjp; injection hjp with e; rw [← e]; exact he
            · exact HNO.out j p (by omega) hjp
          have HNO2 := Lib.hid hno'
          clear hno' he
          go_wp2_with fail
          go_quiet (fail)
          go_wp2_with fail
          exact ⟨⟨k + 1, by go_num, by omega, below_drewN HB.out _, HNO2.out⟩, by simp [intOf]; omega⟩
      · have hke : k = n := by omega
        subst hke
        have hput := HEND.out (fun j p hj hjp => HNO.out j p (by rw [← HN.out]; exact hj) hjp)
        have hE : (wr.alloc (.cells #[.int .i64 t, .int .u64 u] 94)).ownsRow w0.heap.size 94 2 (.slice (some ⟨g, 0, none⟩) k cap) k (pairVals f) :=
          ownsRow_only HR.out (Only.alloc (Only.refl (fun _ => False) _) _) (fun _ _ h => h)
        have HE := Lib.hid hE; have HPUT := Lib.hid hput
        clear hE hput
        have hk9 : k ≤ 900 := by have := HN.out; omega
        go_wp2_with (at_builtin; refine wpList_append_own _ rfl _ _ 121 rfl w0.heap.size 94 i0 (.agg #[.int .i64 0, .int .u64 0]) 2 16 Tryz.underlying121 hi hz0 hz1 hz2 rfl (by decide) _ k (pairVals f) rfl HE.out ⟨wr.heap.size, 0, none⟩ 1 1 [.int .i64 t, .int .u64 u] rfl rfl ?c1 ?c2 ?c3 ?c4 ?c5 ?_)
        case c1 =>
          intro j v hv
          rw [Addr.add_lit]
          have := blk_cell (blk_new wr (.cells #[.int .i64 t, .int .u64 u] 94)) j
          rw [Nat.zero_add, this]
          simpa using hv
        case c2 => simp [Value.oneCell']
        case c3 => unfold maxLen; omega
        case c4 => omega
        case c5 => simp; omega
        intro v' w2 hown hgr _
        have hB : Below w.heap.size w w2 := ((btrans HL1.out (Nat.le_refl _) HB.out).alloc (by omega) _).grown hgr (by simp; omega) (by simp [Value.ownBlock]; omega)
        obtain ⟨g', cap', rfl⟩ := ownsRow_succ hown
        have HW := Lib.hid hown; have HB2 := Lib.hid hB
        clear hown hgr hB
        go_wp2_with fail
        go_ret
        refine ⟨_, _, _, rfl, ?_, HB2.out, fun k hk => Nat.le_trans (Nat.le_of_lt hsz0) (HW.out.lt k hk).1⟩
        rw [HPUT.out]
        unfold FrAt
        rw [List.length_append, HN.out, pairVals_append]
        exact ownsRow_base (base' := 0) HW.out (fun k _ => Nat.zero_le _)
end Go.Proofs.YtganmdbhmihjpaaGreat.Wri
/- Right values, by bits and by the document. -/
namespace Go.Proofs.YtganmdbhmihjpaaGreat.Wri
open Go.RowKit
set_option linter.unusedSimpArgs false
set_option linter.unusedVariables false
set_option maxRecDepth 50000

def rightVal (v : Int) : Bool := decide (v % 9223372036854775808 ≤ 9218868437227405312) || (v == 9221120237041090560)
theorem andNot_sign (v : Int) (h : 0 ≤ v ∧ v < 18446744073709551616) : bits .andNot .u64 v 9223372036854775808 = v % 9223372036854775808 := by
  rw [u64_andNot v _ h.1 h.2 (by decide) (by decide)]
  obtain ⟨V, rfl⟩ := Int.eq_ofNat_of_zero_le h.1
  have : V &&& (18446744073709551615 - (9223372036854775808 : Int).toNat) = V % 9223372036854775808 := by
    show V &&& (2 ^ 63 - 1) = V % 2 ^ 63
    exact Nat.and_two_pow_sub_one_eq_mod V 63
  rw [Int.toNat_natCast, this]
  simp
theorem vRight_any (w : World) (v : Int) (h : 0 ≤ v ∧ v < 18446744073709551616) : Calls Tryz.prog 30 #[.int .u64 v] w fun e w' => e = .returned (.bool (rightVal v)) ∧ w = w' := by
  have hb := andNot_sign v h
  unfold rightVal
  by_cases h1 : v % 9223372036854775808 ≤ 9218868437227405312
  · have hd : decide (v % 9223372036854775808 ≤ 9218868437227405312) = true := by simpa using h1
    rw [hd]
    clear h1 h
    go_enter Tryz.func30, Tryz.ntmps30
    go_wp2_with fail
    go_ret
    exact ⟨rfl, rfl⟩
  · have hd : decide (v % 9223372036854775808 ≤ 9218868437227405312) = false := by simpa using h1
    rw [hd]
    clear h1 h
    go_enter Tryz.func30, Tryz.ntmps30
    go_wp2_with fail
    go_ret
    exact ⟨rfl, rfl⟩
theorem order_self (x : Nat) : (Ieee.double.order x x == some Ordering.eq) = decide (x % 9223372036854775808 ≤ 9218868437227405312) := by
  have hs : Ieee.double.signWeight = 9223372036854775808 := by decide
  have hi : Ieee.double.infRung = 9218868437227405312 := by decide
  unfold Ieee.Format.order Ieee.Format.read
  simp only [hs, hi]
  by_cases h1 : x % 9223372036854775808 < Ieee.double.binade
  · have hb : Ieee.double.binade = 4503599627370496 := by decide
    rw [if_pos h1]
    have h2 : x % 9223372036854775808 ≤ 9218868437227405312 := by rw [hb] at h1; omega
    simp [Ieee.Datum.order, h2]
  · rw [if_neg h1]
    by_cases h2 : x % 9223372036854775808 < 9218868437227405312
    · rw [if_pos h2]
      have h3 : x % 9223372036854775808 ≤ 9218868437227405312 := by omega
      simp [Ieee.Datum.order, h3]
    · rw [if_neg h2]
      by_cases h3 : x % 9223372036854775808 = 9218868437227405312
      · rw [if_pos h3]
        have h4 : x % 9223372036854775808 ≤ 9218868437227405312 := by omega
        simp [Ieee.Datum.order, h4]
      · rw [if_neg h3]
        have h4 : ¬ x % 9223372036854775808 ≤ 9218868437227405312 := by omega
        simp [Ieee.Datum.order, h4]
theorem rRight_any (w : World) (v : Int) (h : 0 ≤ v ∧ v < 18446744073709551616) : Calls Tryz.prog 45 #[.int .u64 v] w fun e w' => e = .returned (.bool (rightVal v)) ∧ w = w' := by
  have hfb : ∀ W : World, (callFunc 64 #[.int .u64 v]).run Tryz.prog W = .ok (.value (.float .f64 v.toNat)) W := fun W => by kernel_rfl
  have ho := order_self v.toNat
  have e1 : decide (v.toNat % 9223372036854775808 ≤ 9218868437227405312) = decide (v % 9223372036854775808 ≤ 9218868437227405312) := by
    obtain ⟨V, rfl⟩ := Int.eq_ofNat_of_zero_le h.1
    rw [Int.toNat_natCast]
    congr 1
    apply propext
    omega
  rw [e1] at ho
  have ho2 : (FloatKind.f64.format.order v.toNat v.toNat == some Ordering.eq) = decide (v % 9223372036854775808 ≤ 9218868437227405312) := ho
  unfold rightVal
  by_cases h1 : v % 9223372036854775808 ≤ 9218868437227405312
  · have hd : decide (v % 9223372036854775808 ≤ 9218868437227405312) = true := by simpa using h1
    rw [hd] at ho2 ⊢
    have hq : FloatKind.f64.format.order v.toNat v.toNat = some Ordering.eq := by simpa using ho2
    clear h1 h ho e1
    go_enter Tryz.func45, Tryz.ntmps45
    go_wp2_with fail
    go_ret
    exact ⟨rfl, rfl⟩
  · have hd : decide (v % 9223372036854775808 ≤ 9218868437227405312) = false := by simpa using h1
    rw [hd] at ho2 ⊢
    have hq : ¬ FloatKind.f64.format.order v.toNat v.toNat = some Ordering.eq := by simpa using ho2
    clear h1 h ho e1
    go_enter Tryz.func45, Tryz.ntmps45
    go_wp2_with fail
    go_ret
    exact ⟨rfl, rfl⟩
end Go.Proofs.YtganmdbhmihjpaaGreat.Wri
/- Get and Len of a log: they range over its frames. -/
namespace Go.Proofs.YtganmdbhmihjpaaGreat.Wri
open Go.RowKit Go.Shelf
set_option linter.unusedSimpArgs false
set_option linter.unusedVariables false
set_option maxRecDepth 50000
attribute [local go_sem] Oper.semAt_some

theorem StackAt.len {w : World} : ∀ {p : Value} {xs ys : List (Value × Frm)}, StackAt w p xs → StackAt w p ys → xs.length = ys.length
  | _, [], [], _, _ => rfl
  | _, [], y :: ys, h, ⟨b, q, e, _⟩ => by rw [show _ = _ from h] at e; cases e
  | _, x :: xs, [], ⟨b, q, e, _⟩, h => by rw [show _ = _ from h] at e; cases e
  | _, x :: xs, y :: ys, ⟨b, q, e, hb, _, _, hr⟩, ⟨b', q', e', hb', _, _, hr'⟩ => by
    subst e
    injection e' with e1
    injection e1 with e1
    injection e1 with e1 _ _
    subst e1
    rw [hb] at hb'
    injection hb' with h1
    injection h1 with h2 _ _
    have h3 : q = q' := by
      have := congrArg (fun a : Array Value => a[1]?) h2
      simpa using this
    subst h3
    simp [StackAt.len hr hr']
open Classical in
/-- how many frames lie behind a pointer -/
noncomputable def lenOf (w : World) (v : Option Value) : Nat := if h : ∃ q xs, v = some q ∧ StackAt w q xs then (Classical.choose (Classical.choose_spec h)).length else 0
theorem lenOf_eq {w : World} {q : Value} {xs : List (Value × Frm)} (h : StackAt w q xs) : lenOf w (some q) = xs.length := by
  unfold lenOf
  have hx : ∃ q' xs', some q = some q' ∧ StackAt w q' xs' := ⟨q, xs, rfl, h⟩
  rw [dif_pos hx]
  have hs := Classical.choose_spec (Classical.choose_spec hx)
  have e := hs.1
  injection e with e
  exact StackAt.len hs.2 (Eq.subst (motive := fun z => StackAt w z xs) e h)
theorem StackAt.isPtr {w : World} {q : Value} {xs : List (Value × Frm)} (h : StackAt w q xs) : ∃ o, q = .pointer o := by
  cases xs with
  | nil => exact ⟨_, h⟩
  | cons x xs =>
    obtain ⟨b, q', e, _⟩ := h
    exact ⟨_, e⟩

theorem all_in (F : Fence) (n : Nat) (hf : F.fn 93) (hro : F.round = none) (p : Option Addr) (w : World) :
    CallsIn F n Tryz.prog 93 #[.pointer p] w fun e w' => e = .returned (.func (.func 106) #[] #[.pointer (some ⟨w.heap.size, 0, none⟩)]) ∧ w' = w.alloc (.cells #[.pointer p] 119) := by
  refine callsIn_of_wp Tryz.func93 rfl hf ?_ hro
  simp only [Tryz.ntmps93, List.size_toArray, List.length_cons, List.length_nil, Nat.reduceAdd, Nat.reduceSub, Array.replicate_succ, Array.replicate_zero, List.push_toArray, List.append_toArray, List.nil_append, List.cons_append]
  gi_wp2
  go_ret
  exact ⟨rfl, rfl⟩

set_option maxRecDepth 100000 in
set_option maxHeartbeats 2000000 in
theorem all_box (F : Fence) (n : Nat) (hf : F.fn 106) (hro : F.round = none) (hn : 1 ≤ n) (w0 w : World) (Bs : Nat) (p : Value) (zs : List (Value × Frm)) (hB : Boxed w Bs 119 p) (hnb : w0.heap.size ≤ Bs) (hS : StackAt w0 p zs) (hl : Below w0.heap.size w0 w) :
    SeqBox F n Tryz.prog 106 #[.pointer (some ⟨Bs, 0, none⟩)] (fun x : Value × Frm => #[x.1]) w0.heap.size Bs zs w := fun l J Jx W hW hJb hY h0 => by
  have hBW : Boxed W Bs 119 p := (hW.block Bs hB.lt).trans hB
  have hlW : Below w0.heap.size w0 W := hl.trans (hW.mono hl.size)
  refine callsIn_of_wp Tryz.func106 rfl hf ?_ hro
  simp only [Tryz.ntmps106, List.size_toArray, List.length_cons, List.length_nil, Nat.reduceAdd, Nat.reduceSub, Array.replicate_succ, Array.replicate_zero, List.push_toArray, List.append_toArray, List.nil_append, List.cons_append]
  gi_wp2
  gi_loopw [] (fun wr => ∃ (pre rest : List (Value × Frm)) (q : Value), zs = pre ++ rest ∧ Boxed wr Bs 119 q ∧ StackAt w0 q rest ∧ Below w0.heap.size w0 wr ∧ J pre wr) (fun wr => lenOf w0 (wr.cell? ⟨Bs, 0, none⟩))
  case atStart => exact ⟨[], zs, p, rfl, hBW, hS, hlW, h0⟩
  case round =>
    obtain ⟨pre, rest, q, hx, hb, hs, hlo, hJ⟩ := hrel
    have cb := hb.cell
    have fb := hb.frozen
    cases rest with
    | nil =>
      obtain rfl : q = .pointer none := hs
      gi_wp2
      go_end0
      exact ⟨⟨_, rfl⟩, .inl (by rw [hx, List.append_nil]; exact hJ)⟩
    | cons x rest =>
      have hs' := hs
      obtain ⟨b, q', rfl, hn', hf', hl', hr⟩ := hs
      obtain ⟨o', rfl⟩ := hr.isPtr
      have hbw : b < w0.heap.size := blk_lt hn'
      have hnr : wr.heap[b]? = some (.cells #[x.1, .pointer o'] 142 (0, 0)) := (hlo.block b hbw).trans hn'
      have c0 := blk_cell hnr 0
      simp only [List.getElem?_toArray, List.getElem?_cons_zero, List.getElem?_cons_succ] at c0
      obtain ⟨fn, tmps, assign, body, hy, hR⟩ := hY pre x wr hJ ⟨rest, hx⟩
      have HR := Lib.hid hR
      clear hR
      gi_wp2
      refine HR.out.mono ?_
      rintro e W3 (⟨rfl, hJ3, hk3⟩ | ⟨rfl, hJx3⟩)
      · have hb3 : Boxed W3 Bs 119 (ptr b) := hk3.box.trans hb
        have cb3 := hb3.cell
        have fb3 := hb3.frozen
        have hl3 : Below w0.heap.size w0 W3 := hlo.trans hk3.lo
        have hn3 : W3.heap[b]? = some (.cells #[x.1, .pointer o'] 142 (0, 0)) := (hl3.block b hbw).trans hn'
        have c1 := blk_cell hn3 1
        simp only [List.getElem?_toArray, List.getElem?_cons_zero, List.getElem?_cons_succ] at c1
        gi_wp2
        go_roundw
        case rel => exact ⟨pre ++ [x], rest, .pointer o', by rw [hx]; simp, hb3.set _, hr, hl3.setCell (p := ⟨Bs, 0, none⟩) hnb _, hJb _ _ _ hJ3⟩
        case measure =>
          rw [cb, (hb3.set (.pointer o')).cell, lenOf_eq hr, lenOf_eq hs']
          simp
      · gi_wp2
        refine bodyPost_ret (results_none rfl _ _ _) rfl ?_
        exact ⟨⟨_, rfl⟩, .inr ⟨_, hJx3⟩⟩

/-- a log in memory: its frames, the uppermost first -/
def LogAt (w : World) (b : Nat) (xs : List (Value × Frm)) : Prop :=
  ∃ o, w.heap[b]? = some (.cells #[.pointer o, .int .i64 ((xs.length : Int) - 1)] 123 (0, 0)) ∧ StackAt w (.pointer o) xs ∧ 1 ≤ xs.length ∧ xs.length ≤ 5
theorem LogAt.below {w w' : World} {b : Nat} {xs : List (Value × Frm)} (h : LogAt w b xs) (l : Below w.heap.size w w') : LogAt w' b xs := by
  obtain ⟨o, h1, h2, h3⟩ := h
  exact ⟨o, bblk l h1, h2.below l, h3⟩
theorem StackAt.mem {w : World} : ∀ {p : Value} {xs : List (Value × Frm)}, StackAt w p xs → ∀ x ∈ xs, FrAt w x.1 x.2 ∧ x.2.length ≤ 1000
  | _, [], _, x, hx => by cases hx
  | _, y :: ys, ⟨b, q, e, hb, hf, hl, hr⟩, x, hx => by
    rcases List.mem_cons.1 hx with rfl | hx
    · exact ⟨hf, hl⟩
    · exact StackAt.mem hr x hx
/-- how many entries all frames have -/
def lenAll (xs : List (Value × Frm)) : Int := (xs.map fun x => (x.2.length : Int)).sum
theorem lenAll_snoc (pre : List (Value × Frm)) (x : Value × Frm) : lenAll (pre ++ [x]) = lenAll pre + x.2.length := by simp [lenAll]
theorem lenAll_bound (xs : List (Value × Frm)) (h : ∀ x ∈ xs, x.2.length ≤ 1000) : 0 ≤ lenAll xs ∧ lenAll xs ≤ 1000 * xs.length := by
  induction xs with
  | nil => simp [lenAll]
  | cons x xs ih =>
    have h1 := ih (fun y hy => h y (List.mem_cons_of_mem _ hy))
    have h2 := h x (List.mem_cons_self ..)
    have e : lenAll (x :: xs) = x.2.length + lenAll xs := rfl
    rw [e, List.length_cons]
    omega
theorem keeps_of_below {B : Nat} {W W' : World} (h : Below W.heap.size W W') : KeepsFrom B W W' := ⟨h.size, fun k o _ hk _ => (h.block k (Array.getElem?_eq_some_iff.1 hk).1).trans hk⟩
theorem boxed_below {W W' : World} {B : Nat} {t : TypeId} {v : Value} (h : Boxed W B t v) (l : Below W.heap.size W W') : Boxed W' B t v := (l.block B h.lt).trans h
set_option maxRecDepth 100000 in
set_option maxHeartbeats 4000000 in
theorem len_in (F : Fence) (n : Nat) (h3 : F.fn 103) (h5 : F.fn 93) (h7 : F.fn 106) (hro : F.round = none) (hn : 3 ≤ n) (w : World) (b : Nat) (xs : List (Value × Frm)) (h : LogAt w b xs) :
    CallsIn F n Tryz.prog 103 #[ptr b] w fun e w' => e = .returned (.int .i64 (lenAll xs)) ∧ Below w.heap.size w w' := by
  have h1 : 1 ≤ n := by omega
  obtain ⟨o, hb, hS, hx1, hx5⟩ := h
  have hblt := blk_lt hb
  have b0 := blk_cell hb 0
  simp only [List.getElem?_toArray, List.getElem?_cons_zero] at b0
  refine callsIn_of_wp_marks Tryz.func103 rfl h3 ?_ hro
  simp only [Tryz.ntmps103, List.size_toArray, List.length_cons, List.length_nil, Nat.reduceAdd, Nat.reduceSub, Array.replicate_succ, Array.replicate_zero, List.push_toArray, List.append_toArray, List.nil_append, List.cons_append]
  gi_wp2_with (gi_at_call 93; refine (all_in F (n - 1) h5 hro _ _).mono ?_; rintro e w' ⟨rfl, rfl⟩)
  have bN := (Boxed.new w 3 (.int .i64 0)).alloc (.cells #[.pointer o] 119)
  have bS := Boxed.new (w.alloc (.cells #[.int .i64 0] 3)) 119 (.pointer o)
  simp only [World.size_alloc] at bS
  have hB0 : Below w.heap.size w ((w.alloc (.cells #[.int .i64 0] 3)).alloc (.cells #[.pointer o] 119)) := by repeat (first | (with_reducible exact Below.refl _ _) | (with_reducible apply Below.drew) | (with_reducible refine below_drewN ?_ _) | (with_reducible refine below_alloc' ?_ ?_ _; (focus ((try simp) <;> omega))) | (with_reducible refine below_set' ?_ ?_ _; (focus ((try simp) <;> omega))))
  have hsz : ((w.alloc (.cells #[.int .i64 0] 3)).alloc (.cells #[.pointer o] 119)).heap.size = w.heap.size + 2 := by simp
  obtain ⟨W0, hW0⟩ : ∃ W0, ((w.alloc (.cells #[.int .i64 0] 3)).alloc (.cells #[.pointer o] 119)) = W0 := ⟨_, rfl⟩
  rw [hW0] at bN bS hB0 hsz ⊢
  clear hW0
  refine range_box hro h1 (gf := 106) (lb := #[.pointer (some ⟨w.heap.size + 1, 0, none⟩)]) rfl h7 (enters_of Tryz.func106 (by kernel_rfl) rfl)
    (all_box F (n - 1) h7 hro (by omega) w W0 (w.heap.size + 1) (.pointer o) xs bS (by omega) hS hB0) (by omega) (by omega) (fun _ => rfl)
    (fun pre W => Boxed W w.heap.size 3 (.int .i64 (lenAll pre)) ∧ Below w.heap.size w W)
    (fun _ _ => False)
    (OwnFrom.and (Own.from (boxed_own _ _ _) _) (ownFrom_below (Nat.le_refl _) (by omega)))
    (fun _ _ _ _ hs _ _ => hs)
    (fun s W v hs => ⟨hs.1.other (by omega) _, hs.2.setCell (p := ⟨w.heap.size + 1, 0, none⟩) (by simp) _⟩)
    ⟨bN, hB0⟩
    (fun x => { tmps := #[ptr b, undef, .int .i64 0, .pointer (some ⟨w.heap.size, 0, none⟩), x.1, ptr b, .bool false, ptr b, .pointer (some ⟨b, 0, none⟩), .pointer (some ⟨b, 0, none⟩), .pointer o, .func (.func 106) #[] #[.pointer (some ⟨w.heap.size + 1, 0, none⟩)], x.1, undef, undef, undef, undef, undef], defers := [] }) ?assign ?body ?done ?stop
  case assign =>
    intro l x W K hK
    gi_wp2
    exact hK
  case body =>
    rintro l pre x W ⟨bN1, hB1⟩ ⟨post, hx⟩
    have cN := bN1.cell; have fN := bN1.frozen
    have hmem : x ∈ xs := by rw [hx]; simp
    obtain ⟨hF, hl⟩ := StackAt.mem hS x hmem
    have hbd := lenAll_bound pre (fun y hy => (StackAt.mem hS y (by rw [hx]; simp [hy])).2)
    have hpl : pre.length ≤ 5 := by rw [hx] at hx5; simp at hx5; omega
    have hw : IntKind.i64.wrap (lenAll pre + x.2.length) = lenAll pre + x.2.length := by rw [IntKind.wrap_i64]; omega
    have hw0 : IntKind.i64.wrap (lenAll pre) = lenAll pre := by rw [IntKind.wrap_i64]; omega
    have hsn := lenAll_snoc pre x
    obtain ⟨xv, xf⟩ := x
    simp only at hF hl hw hsn
    have HSN := Lib.hid hsn
    rcases frAt_slice hF with ⟨rfl, rfl⟩ | ⟨g, cap, rfl⟩
    all_goals
      clear hF hsn hx hmem hbd
      gi_wp2
      refine ⟨(KeepsOthers.setCell _ _ _).from _, ⟨(Below.refl w.heap.size W).setCell (p := ⟨w.heap.size, 0, none⟩) (Nat.le_refl _) _, ?_⟩, ?_, hB1.setCell (p := ⟨w.heap.size, 0, none⟩) (Nat.le_refl _) _⟩
      · exact Below.heap_setCell _ _ _ _ (by show w.heap.size + 1 ≠ w.heap.size; omega)
      · rw [HSN.out]
        first
          | exact bN1.set _
          | (have := bN1.set (.int .i64 (lenAll pre)); simpa using this)
  case done =>
    rintro D W hD ⟨bN1, hB1⟩ hK
    have cN := bN1.cell
    gi_wp2
    refine ⟨by simp, .inl ⟨_, _, rfl, run_takeDeferred hK, ?_⟩⟩
    exact ⟨_, results_tmp rfl _ _ _, rfl, hB1.trans (belowK_b (w := w) (Nat.le_refl _) W D _ _ (by omega) hK rfl rfl)⟩
  case stop =>
    rintro D pre W hD h _
    exact h.elim
theorem len_any (w : World) (b : Nat) (xs : List (Value × Frm)) (h : LogAt w b xs) : Calls Tryz.prog 103 #[ptr b] w fun e w' => e = .returned (.int .i64 (lenAll xs)) ∧ Below w.heap.size w w' :=
  callsIn_wide.1 (len_in Fence.wide 3 trivial trivial trivial rfl (by decide) w b xs h)

/-- what was written last to a variable -/
def getS : List (Value × Frm) → Int → Option Int
  | [], _ => none
  | x :: r, t => match getF x.2 t with | some v => some v | none => getS r t
theorem getS_hit {ini post : List (Value × Frm)} {x : Value × Frm} {t v : Int} (h : ∀ y ∈ ini, getF y.2 t = none) (hx : getF x.2 t = some v) : getS (ini ++ x :: post) t = some v := by
  induction ini with
  | nil => simp [getS, hx]
  | cons y ini ih =>
    have h0 := h y (List.mem_cons_self ..)
    simp only [List.cons_append, getS, h0]
    exact ih (fun z hz => h z (List.mem_cons_of_mem _ hz))
theorem getS_none {xs : List (Value × Frm)} {t : Int} (h : ∀ y ∈ xs, getF y.2 t = none) : getS xs t = none := by
  induction xs with
  | nil => rfl
  | cons y xs ih =>
    have h0 := h y (List.mem_cons_self ..)
    simp only [getS, h0]
    exact ih (fun z hz => h z (List.mem_cons_of_mem _ hz))
set_option maxRecDepth 100000 in
set_option maxHeartbeats 4000000 in
theorem get_in (n : Nat) (hn : 3 ≤ n) (w : World) (b : Nat) (xs : List (Value × Frm)) (h : LogAt w b xs) (t : Int) :
    CallsIn Fence.wide n Tryz.prog 79 #[ptr b, .int .i64 t] w fun e w' => e = .returned (.tuple #[.int .u64 ((getS xs t).getD 0), .bool (getS xs t).isSome]) ∧ Below w.heap.size w w' := by
  have h1 : 1 ≤ n := by omega
  obtain ⟨o, hb, hS, hx1, hx5⟩ := h
  have hblt := blk_lt hb
  have hB3 : Below w.heap.size w (((w.alloc (.cells #[.int .i64 t] 3)).alloc (.cells #[.int .u64 0] 58)).alloc (.cells #[.bool false] 4)) := by repeat (first | (with_reducible exact Below.refl _ _) | (with_reducible apply Below.drew) | (with_reducible refine below_drewN ?_ _) | (with_reducible refine below_alloc' ?_ ?_ _; (focus ((try simp) <;> omega))) | (with_reducible refine below_set' ?_ ?_ _; (focus ((try simp) <;> omega))))
  have b0 := blk_cell (bblk hB3 hb) 0
  simp only [List.getElem?_toArray, List.getElem?_cons_zero] at b0
  refine callsIn_of_wp_marks Tryz.func79 rfl trivial ?_ rfl
  simp only [Tryz.ntmps79, List.size_toArray, List.length_cons, List.length_nil, Nat.reduceAdd, Nat.reduceSub, Array.replicate_succ, Array.replicate_zero, List.push_toArray, List.append_toArray, List.nil_append, List.cons_append]
  gi_wp2_with (refine ⟨trivial, ?_⟩; gi_at_call 93; refine (all_in Fence.wide (n - 1) trivial rfl _ _).mono ?_; rintro e w' ⟨rfl, rfl⟩)
  have bT := (((Boxed.new w 3 (.int .i64 t)).alloc (.cells #[.int .u64 0] 58)).alloc (.cells #[.bool false] 4)).alloc (.cells #[.pointer o] 119)
  have bV := ((Boxed.new (w.alloc (.cells #[.int .i64 t] 3)) 58 (.int .u64 0)).alloc (.cells #[.bool false] 4)).alloc (.cells #[.pointer o] 119)
  have bI := (Boxed.new ((w.alloc (.cells #[.int .i64 t] 3)).alloc (.cells #[.int .u64 0] 58)) 4 (.bool false)).alloc (.cells #[.pointer o] 119)
  have bS := Boxed.new (((w.alloc (.cells #[.int .i64 t] 3)).alloc (.cells #[.int .u64 0] 58)).alloc (.cells #[.bool false] 4)) 119 (.pointer o)
  simp only [World.size_alloc] at bV bI bS
  have hB0 : Below w.heap.size w ((((w.alloc (.cells #[.int .i64 t] 3)).alloc (.cells #[.int .u64 0] 58)).alloc (.cells #[.bool false] 4)).alloc (.cells #[.pointer o] 119)) := by repeat (first | (with_reducible exact Below.refl _ _) | (with_reducible apply Below.drew) | (with_reducible refine below_drewN ?_ _) | (with_reducible refine below_alloc' ?_ ?_ _; (focus ((try simp) <;> omega))) | (with_reducible refine below_set' ?_ ?_ _; (focus ((try simp) <;> omega))))
  have hsz : ((((w.alloc (.cells #[.int .i64 t] 3)).alloc (.cells #[.int .u64 0] 58)).alloc (.cells #[.bool false] 4)).alloc (.cells #[.pointer o] 119)).heap.size = w.heap.size + 4 := by simp
  obtain ⟨W0, hW0⟩ : ∃ W0, ((((w.alloc (.cells #[.int .i64 t] 3)).alloc (.cells #[.int .u64 0] 58)).alloc (.cells #[.bool false] 4)).alloc (.cells #[.pointer o] 119)) = W0 := ⟨_, rfl⟩
  rw [hW0] at bT bV bI bS hB0 hsz ⊢
  clear hW0 hB3 b0
  refine range_box rfl h1 (gf := 106) (lb := #[.pointer (some ⟨w.heap.size + 1 + 1 + 1, 0, none⟩)]) rfl trivial (enters_of Tryz.func106 (by kernel_rfl) rfl)
    (all_box Fence.wide (n - 1) trivial rfl (by omega) w W0 (w.heap.size + 1 + 1 + 1) (.pointer o) xs bS (by omega) hS hB0) (by omega) (by omega) (fun _ => rfl)
    (fun pre W => (((∀ y ∈ pre, getF y.2 t = none) ∧ Boxed W w.heap.size 3 (.int .i64 t)) ∧ Boxed W (w.heap.size + 1) 58 (.int .u64 0) ∧ Boxed W (w.heap.size + 1 + 1) 4 (.bool false)) ∧ (Below w.heap.size w W ∧ W0.heap.size ≤ W.heap.size))
    (fun pre W => (∃ ini last post v, pre = ini ++ [last] ∧ xs = ini ++ last :: post ∧ (∀ y ∈ ini, getF y.2 t = none) ∧ getF last.2 t = some v ∧ Boxed W (w.heap.size + 1) 58 (.int .u64 v) ∧ Boxed W (w.heap.size + 1 + 1) 4 (.bool true)) ∧ Below w.heap.size w W)
    (OwnFrom.and (OwnFrom.and (OwnFrom.and (ownFrom_pure _ _) (Own.from (boxed_own _ _ _) _)) (OwnFrom.and (Own.from (boxed_own _ _ _) _) (Own.from (boxed_own _ _ _) _))) (OwnFrom.and (ownFrom_below (Nat.le_refl _) (by omega)) (fun _ X Y row hs hg hr => Nat.le_trans hs hg.size)))
    (OwnFrom.and (fun s X Y row hs hg hr => by
      obtain ⟨ini, last, post, v, e1, e2, e3, e4, e5, e6⟩ := hs
      exact ⟨ini, last, post, v, e1, e2, e3, e4, boxed_own _ _ (fun (_ : Unit) => Value.int .u64 v) () X Y row e5 hg (fun r e => (hr r e).2), boxed_own _ _ (fun (_ : Unit) => Value.bool true) () X Y row e6 hg (fun r e => (hr r e).2)⟩) (ownFrom_below (Nat.le_refl _) (by omega)))
    (fun s W v hs => ⟨⟨⟨hs.1.1.1, hs.1.1.2.other (by omega) _⟩, hs.1.2.1.other (by omega) _, hs.1.2.2.other (by omega) _⟩, hs.2.1.setCell (p := ⟨w.heap.size + 1 + 1 + 1, 0, none⟩) (by simp; omega) _, by have := hs.2.2; simpa using this⟩)
    ⟨⟨⟨by simp, bT⟩, bV, bI⟩, hB0, Nat.le_refl _⟩
    (fun x => { tmps := #[ptr b, .int .i64 t, undef, .pointer (some ⟨w.heap.size, 0, none⟩), .pointer (some ⟨w.heap.size + 1, 0, none⟩), .pointer (some ⟨w.heap.size + 1 + 1, 0, none⟩), x.1, undef, undef, ptr b, .bool false, ptr b, .pointer (some ⟨b, 0, none⟩), .pointer (some ⟨b, 0, none⟩), .pointer o, .func (.func 106) #[] #[.pointer (some ⟨w.heap.size + 1 + 1 + 1, 0, none⟩)], x.1, undef, undef, undef, undef, undef, undef, undef, undef], defers := [] }) ?assign ?body ?done ?stop
  case assign =>
    intro l x W K hK
    gi_wp2
    exact hK
  case body =>
    rintro l pre x W ⟨⟨⟨hp, bT1⟩, bV1, bI1⟩, hB1, hs1⟩ ⟨post, hx⟩
    have cT := bT1.cell
    have hmem : x ∈ xs := by rw [hx]; simp
    obtain ⟨hF, hl⟩ := StackAt.mem hS x hmem
    have hFW : FrAt W x.1 x.2 := frAt_below (w := w) hF hB1
    have hG := get_any W x.1 x.2 hFW hl t
    have h1' : 1 ≤ n - 1 - 1 := by omega
    clear hF hFW hmem
    cases hgx : getF x.2 t with
    | none =>
      rw [hgx] at hG
      have HG := Lib.hid hG; have HGX := Lib.hid hgx
      clear hG hgx
      gi_wp2_with (refine ⟨trivial, ?_⟩; gi_at_call 94; refine (CallsIn.inRound l (callsIn_wide.2 HG.out)).mono ?_; rintro e W' ⟨rfl, hbl⟩)
      exact ⟨keeps_of_below hbl, ⟨hbl.mono hB1.size, hbl.block _ (by omega)⟩, ⟨⟨fun y hy => (List.mem_append.1 hy).elim (hp y) (fun e => by simp at e; subst e; exact HGX.out), boxed_below bT1 hbl⟩, boxed_below bV1 hbl, boxed_below bI1 hbl⟩, btrans hB1 (Nat.le_refl _) hbl, Nat.le_trans hs1 hbl.size⟩
    | some v =>
      rw [hgx] at hG
      have HG := Lib.hid hG; have HGX := Lib.hid hgx
      clear hG hgx
      gi_wp2_with (refine ⟨trivial, ?_⟩; gi_at_call 94; refine (CallsIn.inRound l (callsIn_wide.2 HG.out)).mono ?_; rintro e W' ⟨rfl, hbl⟩; have bV2 := boxed_below bV1 hbl; have bI2 := boxed_below bI1 hbl; have cV := bV2.cell; have fV := bV2.frozen; have cI := bI2.cell; have fI := bI2.frozen)
      exact ⟨(keeps_of_below hbl).trans (((KeepsOthers.setCell _ _ _).trans (KeepsOthers.setCell _ _ _)).from _), ⟨pre, x, post, v, rfl, hx, hp, HGX.out, (bV2.set _).other (by omega) _, (bI2.other (by omega) _).set _⟩, ((btrans hB1 (Nat.le_refl _) hbl).setCell (p := ⟨w.heap.size + 1, 0, none⟩) (by simp) _).setCell (p := ⟨w.heap.size + 1 + 1, 0, none⟩) (by simp; omega) _⟩
  case done =>
    rintro D W hD ⟨⟨⟨hp, bT1⟩, bV1, bI1⟩, hB1, hs1⟩ hK
    have cV := bV1.cell; have fV := bV1.frozen
    have cI := bI1.cell; have fI := bI1.frozen
    gi_wp2
    have hK2 := ((KeepsOthers.setCell W ⟨w.heap.size + 1, 0, none⟩ (.int .u64 0)).trans (KeepsOthers.setCell _ ⟨w.heap.size + 1 + 1, 0, none⟩ (.bool false))).same D _ hK rfl
    have bR2 := (bV1.set (.int .u64 0)).other (B' := w.heap.size + 1 + 1) (by omega) (.bool false)
    have bB2 := (bI1.other (B' := w.heap.size + 1) (by omega) (.int .u64 0)).set (.bool false)
    have hZ : Below w.heap.size w ((W.setCell ⟨w.heap.size + 1, 0, none⟩ (.int .u64 0)).setCell ⟨w.heap.size + 1 + 1, 0, none⟩ (.bool false)) := (hB1.setCell (p := ⟨w.heap.size + 1, 0, none⟩) (by simp) _).setCell (p := ⟨w.heap.size + 1 + 1, 0, none⟩) (by simp; omega) _
    generalize (W.setCell ⟨w.heap.size + 1, 0, none⟩ (.int .u64 0)).setCell ⟨w.heap.size + 1 + 1, 0, none⟩ (.bool false) = WZ at *
    refine ⟨by simp, .inl ⟨_, _, rfl, run_takeDeferred hK2, ?_⟩⟩
    have c5 := cell_kept bR2.cell (grownBy_putObj' _ D (.deferred none)) (fun r e => by cases e; exact ⟨_, hK2, rfl⟩)
    have c6 := cell_kept bB2.cell (grownBy_putObj' _ D (.deferred none)) (fun r e => by cases e; exact ⟨_, hK2, rfl⟩)
    rw [getS_none hp]
    refine ⟨.tuple #[.int .u64 0, .bool false], ?_, rfl, hZ.trans (belowK_b (w := w) (Nat.le_refl _) _ D _ _ (by omega) hK2 rfl rfl)⟩
    simp [results, Tryz.f79, go_sem, c5, c6]
  case stop =>
    rintro D pre W hD ⟨⟨ini, last, post, v, e1, e2, e3, e4, e5, e6⟩, hB⟩ hK
    gi_wp2
    refine ⟨by simp, .inl ⟨_, _, rfl, run_takeDeferred hK, ?_⟩⟩
    have c5 := cell_kept e5.cell (grownBy_putObj' _ D (.deferred none)) (fun r e => by cases e; exact ⟨_, hK, rfl⟩)
    have c6 := cell_kept e6.cell (grownBy_putObj' _ D (.deferred none)) (fun r e => by cases e; exact ⟨_, hK, rfl⟩)
    rw [e2, getS_hit e3 e4]
    refine ⟨.tuple #[.int .u64 v, .bool true], ?_, rfl, hB.trans (belowK_b (w := w) (Nat.le_refl _) W D _ _ (by omega) hK rfl rfl)⟩
    simp [results, Tryz.f79, go_sem, c5, c6]
theorem lget_any (w : World) (b : Nat) (xs : List (Value × Frm)) (h : LogAt w b xs) (t : Int) : Calls Tryz.prog 79 #[ptr b, .int .i64 t] w fun e w' => e = .returned (.tuple #[.int .u64 ((getS xs t).getD 0), .bool (getS xs t).isSome]) ∧ Below w.heap.size w w' :=
  callsIn_wide.1 (get_in 3 (by decide) w b xs h t)
end Go.Proofs.YtganmdbhmihjpaaGreat.Wri
