/- A range over an iterator that keeps its place in a box of its own: the law for a body that goes on or returns. -/
import Derived.Test.YtgjemjogncnbnaaLib
import Derived.RangeFuncNested
import Derived.RangeFuncBound
import Derived.RangeFuncCalls
import Derived.RangeFuncLeaves
import Derived.RangeFuncBox
import Derived.Shelf.Abstract
import Derived.Shelf.RegionOpen
import Derived.WalkKit
import Derived.OwnWalkIn
import Derived.TacticsInMore
import Derived.LoopNIn
import Derived.LoopIn
namespace Go.Proofs.Ytgjemjogncnbnaa.Wri
open Go.RowKit Go.Shelf
set_option linter.unusedSimpArgs false
set_option linter.unusedVariables false
set_option maxRecDepth 50000

/-- what a round that goes on keeps: all that lay ahead of nb; the iterator's own box -/
structure KeepB (nb Bs : Nat) (W W' : World) : Prop where
  lo : Below nb W W'
  box : W'.heap[Bs]? = W.heap[Bs]?
theorem KeepB.refl (nb Bs : Nat) (W : World) : KeepB nb Bs W W := ⟨Below.refl _ _, rfl⟩
theorem KeepB.trans {nb Bs : Nat} {A B C : World} (h : KeepB nb Bs A B) (k : KeepB nb Bs B C) : KeepB nb Bs A C := ⟨h.lo.trans k.lo, k.box.trans h.box⟩
theorem KeepB.putObj {nb Bs : Nat} (W : World) {l : Nat} (o : Obj) (hW : nb ≤ W.heap.size) (hl : nb ≤ l) (hb : l ≠ Bs) : KeepB nb Bs W (W.putObj l o) :=
  ⟨(Below.refl nb W).grown (grownBy_putObj' W l o) hW (fun k e => by cases e; exact hl) , World.putObj_heap_other (Ne.symm hb)⟩

/-- how a round of the body ends: it goes on, or it returns -/
def RoundEnd {α : Type} (B nb Bs : Nat) (I Ix : List α → World → Prop) (xs : List α) (W : World) : Exit → Act → World → Prop
  | .normal, _, W' => KeepsFrom B W W' ∧ KeepB nb Bs W W' ∧ I xs W'
  | .ret, _, W' => KeepsFrom B W W' ∧ Ix xs W'
  | _, _, _ => False

/-- an iterator over zs that writes no cell but its own box -/
def SeqBox {α : Type} (F : Fence) (n : Nat) (P : Program) (g : Nat) (lb : Array Value) (encs : α → Array Value) (nb Bs : Nat) (zs : List α) (w : World) : Prop :=
  ∀ (l : Nat) (J Jx : List α → World → Prop) (W : World), Below w.heap.size w W → (∀ s W v, J s W → J s (W.setCell ⟨Bs, 0, none⟩ v)) →
    (∀ pre x W1, J pre W1 → (∃ post, zs = pre ++ x :: post) → YieldAt F (n - 1) P l (encs x) W1 fun e W' =>
      (e = .returned (.bool true) ∧ J (pre ++ [x]) W' ∧ KeepB nb Bs W1 W') ∨ (e = .returned (.bool false) ∧ Jx (pre ++ [x]) W')) →
    J [] W →
    CallsIn F n P g (#[.func (.yield l) #[] #[]] ++ lb) W fun e W' => (∃ v, e = .returned v) ∧ (J zs W' ∨ ∃ pre, Jx pre W')

theorem range_box {α : Type} {F : Fence} {n : Nat} {P : Program} {g : Operand} {ps : Array Tmp} {assign body : Code} {Q : Exit → Act → World → Prop} {a : Act} {w : World}
    (hro : F.round = none) (h1 : 1 ≤ n) {gf : Nat} {lb : Array Value} (hg : a.eval g = .func (.func gf) #[] lb) (hFg : F.fn gf) (eg : ∀ args w, (callFunc gf args).run P w = .ok (.enter gf args) w)
    {encs : α → Array Value} {nb Bs : Nat} {zs : List α} (hseq : SeqBox F (n - 1) P gf lb encs nb Bs zs w) (hnb : nb ≤ w.heap.size) (hBs : Bs < w.heap.size) (hps : ∀ x, (encs x).size = ps.size)
    (I Ix : List α → World → Prop) (hI : OwnFrom w.heap.size I) (hIx : OwnFrom w.heap.size Ix) (hIb : ∀ s W v, I s W → I s (W.setCell ⟨Bs, 0, none⟩ v)) (h0 : I [] w) (a₁ : α → Act)
    (hassign : ∀ (l : Nat) (x : α) (W : World) (K : Act → World → Prop), K (a₁ x) W →
      assign.wpIn (F.inRound l) (n - 1 - 1) P (Exit.then K (fun _ _ _ => False)) { tmps := (ps.zip (encs x)).foldl (fun t (p, v) => t.setIfInBounds p v) a.tmps, defers := [] } W)
    (hbody : ∀ (l : Nat) (pre : List α) (x : α) (W : World), I pre W → (∃ post, zs = pre ++ x :: post) → body.wpIn (F.inRound l) (n - 1 - 1) P (RoundEnd w.heap.size nb Bs I Ix (pre ++ [x]) W) (a₁ x) W)
    (hdone : ∀ (D : Nat) (W : World), w.heap.size ≤ D → I zs W → W.heap[D]? = some (.deferred (some [])) → Q .normal { a with defers := { target := .collected D, args := #[] } :: a.defers } W)
    (hstop : ∀ (D : Nat) (pre : List α) (W : World), w.heap.size ≤ D → Ix pre W → W.heap[D]? = some (.deferred (some [])) → Code.ret.wpIn F n P Q { a with defers := { target := .collected D, args := #[] } :: a.defers } W) :
    (Code.rangeFunc g ps assign body).wpIn F n P Q a w := by
  refine wpIn_rangeFunc fun fn hfn => ?_
  rw [hro]
  -- the loop's record R, in its states, lies in block w.heap.size + 1; the mark's block is w.heap.size
  let R : LoopState → Option Code → Loop := fun st pe => { state := st, pending := pe, fn, tmps := a.tmps, params := ps, assign, body, defers := w.heap.size }
  let W1 : World := (w.alloc (.deferred (some []))).alloc (.loop (R .ready none))
  let At : Loop → World → Prop := fun r W => W.heap[w.heap.size + 1]? = some (.loop r) ∧ W.heap[w.heap.size]? = some (.deferred (some []))
  have hsz : (w.alloc (.deferred (some []))).heap.size = w.heap.size + 1 := by simp
  have hAt1 : At (R .ready none) W1 := by
    refine ⟨?_, ?_⟩
    · have := World.alloc_heap_new (w.alloc (.deferred (some []))) (.loop (R .ready none))
      rwa [hsz] at this
    · exact (Below.heap_alloc _ _ _ (by rw [hsz]; omega)).trans (World.alloc_heap_new w _)
  -- a turn of the record keeps the mark
  have hput : ∀ (r r' : Loop) (W : World), At r W → At r' (W.putObj (w.heap.size + 1) (.loop r')) := fun r r' W h =>
    ⟨World.putObj_heap_same (Array.getElem?_eq_some_iff.1 h.1).1, (World.putObj_heap_other (by omega)).trans h.2⟩
  have hIput : ∀ (s : List α) (r r' : Loop) (W : World), At r W → I s W → I s (W.putObj (w.heap.size + 1) (.loop r')) := fun s r r' W h hi => hI.putObj _ hi (by omega) h.1 rfl
  have hIxput : ∀ (s : List α) (r r' : Loop) (W : World), At r W → Ix s W → Ix s (W.putObj (w.heap.size + 1) (.loop r')) := fun s r r' W h hi => hIx.putObj _ hi (by omega) h.1 rfl
  have hkeep : ∀ (r : Loop) (W W' : World), At r W → KeepsFrom w.heap.size W W' → At r W' := fun r W W' h k => ⟨k.same _ _ (by omega) h.1 rfl, k.same _ _ (Nat.le_refl _) h.2 rfl⟩
  refine ⟨w.heap.size + 1, [{ target := .collected w.heap.size, args := #[] }], W1, { target := .fn (.func gf) lb, args := #[.func (.yield (w.heap.size + 1)) #[] #[]] }, W1, gf,
    #[.func (.yield (w.heap.size + 1)) #[] #[]] ++ lb, W1, run_enterLoop_outer _ _ _ _ _, ?_, ?_, ?_, fun _ => h1, ?_⟩
  · simp only [resolve, hg]
    simp [go_sem]
  · intro f' hf'
    simp [Target.leads] at hf'
    subst hf'
    exact hFg
  · simp [invoke, go_sem, eg]
  refine (hseq (w.heap.size + 1) (fun pre W => I pre W ∧ At (R .ready none) W) (fun pre W => Ix pre W ∧ At (R .done (some .ret)) W) W1
    (((Below.refl _ w).alloc (Nat.le_refl _) _).alloc (by rw [hsz]; omega) _) ?_ ?_ ⟨hI.alloc _ (hI.alloc _ h0), hAt1⟩).mono ?_
  · rintro s W v ⟨hi, h⟩
    have hk := KeepsOthers.setCell W ⟨Bs, 0, none⟩ v
    exact ⟨hIb s W v hi, hk.same _ _ h.1 rfl, hk.same _ _ h.2 rfl⟩
  · rintro pre x W ⟨hi, h⟩ hx
    refine ⟨fn, _, assign, body, run_yield h.1 (hps x), roundIn_of_wpIn hfn (hassign _ x W _ ?_)⟩
    refine ⟨_, run_beginRound h.1 rfl, ?_⟩
    have hb := hput _ { R .ready none with state := .busy } W h
    refine wpIn_mono (hbody _ pre x _ (hIput pre _ _ W h hi) hx) ?_
    rintro e a3 W3 hp
    cases e with
    | normal =>
      obtain ⟨hk3, hkb, hi3⟩ := hp
      have h3 := hkeep _ _ _ hb hk3
      refine ⟨_, _, run_endRound (P := P) none h3.1, .inl ⟨rfl, ⟨hIput _ _ _ W3 h3 hi3, hput _ _ W3 h3⟩, ?_⟩⟩
      have s0 := (Array.getElem?_eq_some_iff.1 h.1).1
      have s3 := (Array.getElem?_eq_some_iff.1 h3.1).1
      exact (KeepB.putObj W _ (by omega) (by omega) (by omega)).trans (hkb.trans (KeepB.putObj W3 _ (by omega) (by omega) (by omega)))
    | ret =>
      obtain ⟨hk3, hi3⟩ := hp
      have h3 := hkeep _ _ _ hb hk3
      exact ⟨_, _, run_endRound (P := P) (some .ret) h3.1, .inr ⟨rfl, hIxput _ _ _ W3 h3 hi3, hput _ _ W3 h3⟩⟩
    | exit id => exact hp.elim
    | goto t => exact hp.elim
    | panic ch => exact hp.elim
    | outgrown => exact hp.elim
  · rintro e W2 ⟨⟨v, rfl⟩, (⟨hi, h⟩ | ⟨pre, hi, h⟩)⟩
    · exact ⟨none, _, run_endLoop (P := P) h.1 (by simp [R]), hdone _ _ (Nat.le_refl _) (hIput _ _ _ W2 h hi) (hput _ _ W2 h).2⟩
    · exact ⟨some .ret, _, run_endLoop (P := P) h.1 (by simp [R]), hstop _ pre _ (Nat.le_refl _) (hIxput _ _ _ W2 h hi) (hput _ _ W2 h).2⟩
end Go.Proofs.Ytgjemjogncnbnaa.Wri
