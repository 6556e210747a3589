/- The engine in memory, and what it stands through. -/
import Derived.Test.YtgjemjogncnbnaaTadA
import Derived.Deep.RegionHeld3
import Derived.WalkMore
import Derived.Test.YtgjemjogncnbnaaSeqC
import Derived.Test.YtgjemjogncnbnaaRdB
import Derived.Test.YtgjemjogncnbnaaWriN
import Derived.Test.YtgjemjogncnbnaaWriP
namespace Go.Proofs.Ytgjemjogncnbnaa.Tad
open Go.RowKit
set_option linter.unusedSimpArgs false
set_option linter.unusedVariables false
set_option maxRecDepth 50000

section
variable {P : Program} {ops : Array Oper} {Q : Exit → Act → World → Prop} {md : Region.Mode} {S : World → Prop}
theorem wpAnyH_take2 {i : Nat} {oi : Oper} {v : Value} {fuel : Nat} {listed : Array Bool} {a : Act} {w : World} (hi' : ops.toList[i]? = some oi)
    (hs : Region.noSelect ops = true) (hf : Region.free md ops listed i = true) (hr : (Region.ready md ops listed).contains i = true)
    (hQ : ∀ c a w, Q (.panic c) (a.put oi.dst v) w → Q (.panic c) a w) (hy : YieldsIf P ops S oi v a) (hS : S w)
    (h : wpAnyH P md ops Q S fuel (listed.setIfInBounds i true) (a.put oi.dst v) w) : wpAnyH P md ops Q S (fuel + 1) listed a w :=
  wpAnyH_take (by rw [← Array.getElem?_toList]; exact hi') hs hf hr hQ hy hS h
theorem AllReadyH_cons2 {fuel : Nat} {listed : Array Bool} {a : Act} {w : World} {i : Nat} {o : Oper} {rs : List Nat} (ho' : ops.toList[i]? = some o)
    (h : ∀ K' : Act → World → Prop, Shut (∀ a w, S w → (S w → wpAnyH P md ops Q S fuel (listed.setIfInBounds i true) a w) → K' a w) → if Region.wanted o (yielded ops a.tmps) = true then Oper.wp P o a w K' Q else K' (a.put o.dst undef) w)
    (hs : AllReadyH P md ops Q S fuel listed a w rs) : AllReadyH P md ops Q S fuel listed a w (i :: rs) :=
  AllReadyH.cons (by rw [← Array.getElem?_toList]; exact ho') h hs
end
abbrev ptr (b : Nat) : Value := .pointer (some ⟨b, 0, none⟩)
/-- the blocks that are written again -/
def Kind : Obj → Prop
  | .map _ _ => True
  | .cells _ t _ => t ∈ [61, 68, 26, 80, 25, 35, 105, 87, 117, 38, 32]
  | _ => False
/-- the blocks that the engine writes again -/
def KindM : Obj → Prop
  | .map _ _ => True
  | .cells _ t _ => t ∈ [61, 68, 26, 80, 25, 35, 105, 87, 117]
  | _ => False
def Mut (lo : Nat) (w : World) (k : Nat) : Prop := lo ≤ k ∧ ∃ o, w.heap[k]? = some o ∧ KindM o
def KindS (w : World) (S : Nat → Prop) : Prop := ∀ k, S k → k < w.heap.size → ∃ o, w.heap[k]? = some o ∧ Kind o
theorem KindS.not {w : World} {S : Nat → Prop} (h : KindS w S) {k : Nat} {cs : Array Value} {t : TypeId} {fr : Nat × Nat} (hk : w.heap[k]? = some (.cells cs t fr)) (ht : t ∉ [61, 68, 26, 80, 25, 35, 105, 87, 117, 38, 32]) : ¬ S k := by
  intro hS
  obtain ⟨o, ho, hK⟩ := h k hS (blk_lt hk)
  rw [hk] at ho
  injection ho with ho
  subst ho
  exact ht hK
theorem KindS.one {w : World} {b : Nat} {o : Obj} (hb : w.heap[b]? = some o) (hK : Kind o) : KindS w (fun k => k = b) := by
  rintro k rfl _
  exact ⟨o, hb, hK⟩
theorem KindS.none {w : World} : KindS w (fun _ => False) := fun _ h => h.elim
theorem row_frame {w w' : World} {S : Nat → Prop} {base : Nat} {e : TypeId} {size n : Nat} {v : Value} {xs : List Value} (h : w.ownsRow base e size v n xs) (o : Only S w w') (hK : KindS w S) (he : e ∉ [61, 68, 26, 80, 25, 35, 105, 87, 117, 38, 32]) : w'.ownsRow base e size v n xs :=
  ownsRow_only h o fun k hk hS => by
    obtain ⟨cs, hc⟩ := row_obj h hk
    exact hK.not hc he hS
theorem stack_frame {w w' : World} {S : Nat → Prop} (o : Only S w w') (hK : KindS w S) : ∀ {p : Value} {xs : List (Value × Wri.Frm)}, Wri.StackAt w p xs → Wri.StackAt w' p xs
  | _, [], h => h
  | _, x :: r, ⟨b, q, e, hb, hf, hl, hr⟩ => ⟨b, q, e, o.blk hb (hK.not hb (by decide)), row_frame hf o hK (by decide), hl, stack_frame o hK hr⟩
theorem log_frame {w w' : World} {S : Nat → Prop} {b : Nat} {xs : List (Value × Wri.Frm)} (h : Wri.LogAt w b xs) (o : Only S w w') (hK : KindS w S) (hb : ¬ S b) : Wri.LogAt w' b xs := by
  obtain ⟨a, h1, h2, h3⟩ := h
  exact ⟨a, o.blk h1 hb, stack_frame o hK h2, h3⟩
theorem lock_frame {w w' : World} {S : Nat → Prop} {b : Nat} {s : Seq.St} (h : Seq.LockAt w b s) (o : Only S w w') (hK : KindS w S) (hb : ¬ S b) : Seq.LockAt w' b s := by
  unfold Seq.LockAt at *
  split
  · rename_i e
    rw [e] at h
    exact o.blk h hb
  · rename_i x e
    rw [e] at h
    obtain ⟨y, hy, h1, h2⟩ := h
    exact ⟨y, hy, o.blk h1 hb, o.blk h2 (hK.not h2 (by decide))⟩
/-- a set of what was read: nothing, or one -/
def SetE (w : World) (s bm : Nat) (es : List Rd.Ent) : Prop :=
  ∃ ov, w.heap[s]? = some (.cells #[ov, .map (some bm)] 117 (0, 0)) ∧ w.ownsRow 0 3 1 ov es.length (Rd.ordVals es) ∧ MapIs Try.prog 3 w bm es.length (Rd.setM es) ∧ es.length ≤ 8 ∧ (es = [] → ov = .slice none 0 0)
theorem set_frame {w w' : World} {S : Nat → Prop} {s bm : Nat} {es : List Rd.Ent} (h : SetE w s bm es) (o : Only S w w') (hK : KindS w S) (hs : ¬ S s) (hb : ¬ S bm) : SetE w' s bm es := by
  obtain ⟨ov, h1, h2, h3, h4⟩ := h
  exact ⟨ov, o.blk h1 hs, row_frame h2 o hK (by decide), h3.only o hb, h4⟩
theorem SetE.at {w : World} {s bm : Nat} {es : List Rd.Ent} (h : SetE w s bm es) : Rd.SetAt w s (fun k => k < w.heap.size) es := by
  obtain ⟨ov, h1, h2, h3, h4, h5⟩ := h
  exact ⟨ov, bm, h1, h2, h3, blk_lt h1, h3.lt, fun k hk => ownsRow_lt h2 hk, fun k hk => hk, h4⟩
theorem SetE.new {w : World} {s bm : Nat} (h : SetE w s bm []) : Rd.SetAt w s (fun k => k = s ∨ k = bm) [] := by
  obtain ⟨ov, h1, h2, h3, h4, h5⟩ := h
  have e := h5 rfl
  subst e
  refine ⟨_, bm, h1, h2, h3, .inl rfl, .inr rfl, ?_, ?_, h4⟩
  · intro k hk
    cases hk
  · rintro k (rfl | rfl)
    · exact blk_lt h1
    · exact h3.lt

/-- a thread's attempt -/
structure T where
  es : List Rd.Ent
  fs : List Wri.Frm
  num : Int
  snap : Int
  kd : Int
  av : Int
  at_ : Int
  back : Int
  next : Int
  seen : Int
  val : Int
  dec : Bool
structure Eng where
  lk : Seq.St
  h : Int
  n : Nat
  y : Nat
  c : Nat
  m : Nat
  th : Int → Option T
structure Pt where
  p : Nat
  q : Nat
  s : Nat
  b : Nat
structure Bk where
  lb : Nat
  hg : Nat
  hc : Nat
  mb : Nat
  ev : Value
  ky : Value
  wy : Value
  pt : Int → Pt
def attCells (x : Pt) (t : T) : Array Value :=
  #[ptr x.s, ptr x.q, .int .i64 t.num, .int .u64 t.snap, .int .u8 t.kd, .int .i64 0, .int .u64 t.av, .int .i64 t.at_, .int .i64 t.back, .int .i64 t.next, .int .u64 t.seen, .int .u64 t.val, .bool t.dec]
structure AttAt (w : World) (x : Pt) (t : T) : Prop where
  obj : w.heap[x.p]? = some (.cells (attCells x t) 68 (0, 0))
  set : SetE w x.s x.b t.es
  log : ∃ xs, xs.map (·.2) = t.fs ∧ Wri.LogAt w x.q xs
theorem AttAt.frame {w w' : World} {S : Nat → Prop} {x : Pt} {t : T} (h : AttAt w x t) (o : Only S w w') (hK : KindS w S) (hp : ¬ S x.p) (hq : ¬ S x.q) (hs : ¬ S x.s) (hb : ¬ S x.b) : AttAt w' x t where
  obj := o.blk h.obj hp
  set := set_frame h.set o hK hs hb
  log := by
    obtain ⟨xs, e, hl⟩ := h.log
    exact ⟨xs, e, log_frame hl o hK hq⟩
structure EngAt (lo : Nat) (w : World) (eb : Nat) (B : Bk) (E : Eng) : Prop where
  obj : w.heap[eb]? = some (.cells #[ptr B.lb, .slice (some ⟨B.hg, 0, none⟩) 2 B.hc, .map (some B.mb), B.ev, B.ky, B.wy] 61 (0, 0))
  lock : Seq.LockAt w B.lb E.lk
  linv : E.lk.Inv
  heap : w.ownsRow 0 26 1 (.slice (some ⟨B.hg, 0, none⟩) 2 B.hc) 2 [.int .u64 E.h, .int .u64 9221120237041090560]
  mp : MapIs Try.prog 3 w B.mb E.c (fun t => (E.th t).map fun _ => ptr (B.pt t).p)
  evs : ∃ xs, w.ownsRow 0 80 4 B.ev E.m xs
  kys : ∃ xs, w.ownsRow 0 25 1 B.ky E.n xs
  wys : ∃ xs, w.ownsRow 0 35 1 B.wy E.y xs
  ths : ∀ t x, E.th t = some x → AttAt w (B.pt t) x
  sep : ∀ t t' x x', E.th t = some x → E.th t' = some x' → t ≠ t' → (B.pt t).p ≠ (B.pt t').p ∧ (B.pt t).q ≠ (B.pt t').q ∧ (B.pt t).s ≠ (B.pt t').s ∧ (B.pt t).b ≠ (B.pt t').b
  sepm : ∀ t x, E.th t = some x → (B.pt t).b ≠ B.mb
  lo1 : lo ≤ eb ∧ lo ≤ B.lb ∧ lo ≤ B.hg ∧ lo ≤ B.mb
  lo2 : (∀ k, B.ev.ownBlock = some k → lo ≤ k) ∧ (∀ k, B.ky.ownBlock = some k → lo ≤ k) ∧ (∀ k, B.wy.ownBlock = some k → lo ≤ k)
  lo3 : ∀ t x, E.th t = some x → lo ≤ (B.pt t).p ∧ lo ≤ (B.pt t).q ∧ lo ≤ (B.pt t).s ∧ lo ≤ (B.pt t).b
theorem blk_ne {w : World} {a b : Nat} {cs cs' : Array Value} {t t' : TypeId} {f f' : Nat × Nat} (h : w.heap[a]? = some (.cells cs t f)) (h' : w.heap[b]? = some (.cells cs' t' f')) (ht : t ≠ t') : a ≠ b := by
  rintro rfl
  rw [h] at h'
  injection h' with h'
  injection h' with _ h' _
  exact ht h'
theorem map_ne {w : World} {P : Program} {k : TypeId} {a b n : Nat} {f : Int → Option Value} {cs : Array Value} {t : TypeId} {fr : Nat × Nat} (h : MapIs P k w a n f) (h' : w.heap[b]? = some (.cells cs t fr)) : a ≠ b := by
  rintro rfl
  exact h.not_cells h'
theorem lock_obj {w : World} {b : Nat} {s : Seq.St} (h : Seq.LockAt w b s) : ∃ cs, w.heap[b]? = some (.cells cs 87 (0, 0)) := by
  unfold Seq.LockAt at h
  split at h
  · exact ⟨_, h⟩
  · obtain ⟨_, _, h1, _⟩ := h
    exact ⟨_, h1⟩
theorem mut_trans {lo : Nat} {w w1 w2 : World} (h1 : Only (Mut lo w) w w1) (h2 : Only (Mut lo w1) w1 w2) : Only (Mut lo w) w w2 :=
  h1.after h2 fun k hk hM => Classical.byContradiction fun hn => by
    obtain ⟨hl, o, ho, hK⟩ := hM
    have e := h1.block k hk hn
    rw [e] at ho
    exact hn ⟨hl, o, ho, hK⟩
theorem mut_one {lo : Nat} {w w' : World} {b : Nat} {o : Obj} (h : Only (fun k => k = b) w w') (hb : w.heap[b]? = some o) (hK : KindM o) (hl : lo ≤ b) : Only (Mut lo w) w w' :=
  (Only.refl (Mut lo w) w).after h fun k _ e => by
    subst e
    exact ⟨hl, o, hb, hK⟩
theorem mut_below {lo : Nat} {w w' : World} (h : Below w.heap.size w w') : Only (Mut lo w) w w' := Only.of_below h fun k hk h' => absurd hk (Nat.not_lt.2 h')
/-- nothing that was is turned -/
theorem EngAt.below {lo : Nat} {w w' : World} {eb : Nat} {B : Bk} {E : Eng} (h : EngAt lo w eb B E) (l : Below w.heap.size w w') : EngAt lo w' eb B E := by
  have o : Only (fun _ => False) w w' := Only.empty l (Nat.le_refl _)
  exact {
    obj := bblk l h.obj
    lock := lock_frame h.lock o .none id
    linv := h.linv
    heap := ownsRow_only h.heap o fun _ _ h => h
    mp := h.mp.below l
    evs := h.evs.imp fun _ h => ownsRow_only h o fun _ _ h => h
    kys := h.kys.imp fun _ h => ownsRow_only h o fun _ _ h => h
    wys := h.wys.imp fun _ h => ownsRow_only h o fun _ _ h => h
    ths := fun t x e => (h.ths t x e).frame o .none id id id id
    sep := h.sep
    sepm := h.sepm
    lo1 := h.lo1
    lo2 := h.lo2
    lo3 := h.lo3 }
def updT (f : Int → Option T) (t : Int) (x : Option T) : Int → Option T := fun s => if s = t then x else f s
/-- a thread's attempt is turned in its own block -/
theorem EngAt.att {lo : Nat} {w w' : World} {eb : Nat} {B : Bk} {E : Eng} (h : EngAt lo w eb B E) {t : Int} {x y : T} (hx : E.th t = some x) (o : Only (fun k => k = (B.pt t).p) w w') (ho : w'.heap[(B.pt t).p]? = some (.cells (attCells (B.pt t) y) 68 (0, 0)))
    (he : y.es = x.es) (hf : y.fs = x.fs) : EngAt lo w' eb B { E with th := updT E.th t (some y) } := by
  have hA := h.ths t x hx
  have hK : KindS w (fun k => k = (B.pt t).p) := .one hA.obj (by show _ ∈ _; decide)
  have hth : ∀ s z, updT E.th t (some y) s = some z → (s = t ∧ z = y) ∨ (s ≠ t ∧ E.th s = some z) := fun s z e => by
    unfold updT at e
    split at e
    · rename_i hs
      injection e with e
      exact .inl ⟨hs, e.symm⟩
    · rename_i hs
      exact .inr ⟨hs, e⟩
  have old : ∀ s z, updT E.th t (some y) s = some z → ∃ z', E.th s = some z' := fun s z e => by
    rcases hth s z e with ⟨rfl, _⟩ | ⟨_, e⟩
    · exact ⟨x, hx⟩
    · exact ⟨z, e⟩
  obtain ⟨lcs, hlc⟩ := lock_obj h.lock
  have row : ∀ {e : TypeId} {size n : Nat} {v : Value} {xs : List Value}, w.ownsRow 0 e size v n xs → 68 ≠ e → w'.ownsRow 0 e size v n xs := fun hr hne => ownsRow_only hr o fun k hk e => by
    subst e
    exact row_ne hr hA.obj hne hk
  exact {
    obj := o.blk h.obj (blk_ne h.obj hA.obj (by decide))
    lock := lock_frame h.lock o hK (blk_ne hlc hA.obj (by decide))
    linv := h.linv
    heap := row h.heap (by decide)
    mp := (h.mp.only o (map_ne h.mp hA.obj)).congr fun s _ => by
      show (E.th s).map _ = (updT E.th t (some y) s).map _
      unfold updT
      split
      · rename_i e; rw [e, hx]; rfl
      · rfl
    evs := h.evs.imp fun _ hr => row hr (by decide)
    kys := h.kys.imp fun _ hr => row hr (by decide)
    wys := h.wys.imp fun _ hr => row hr (by decide)
    ths := fun s z e => by
      rcases hth s z e with ⟨rfl, rfl⟩ | ⟨hs, e⟩
      · obtain ⟨ov, hs1, _⟩ := hA.set
        obtain ⟨xs, hxe, hl⟩ := hA.log
        obtain ⟨a, hl1, _⟩ := hl
        have hm := hA.set
        refine ⟨ho, ?_, ?_⟩
        · rw [he]
          obtain ⟨_, _, _, hmm, _⟩ := hm
          exact set_frame hA.set o hK (blk_ne hs1 hA.obj (by decide)) (map_ne hmm hA.obj)
        · rw [hf]
          exact ⟨xs, hxe, log_frame ⟨a, hl1, by assumption⟩ o hK (blk_ne hl1 hA.obj (by decide))⟩
      · have hz := h.ths s z e
        have hsp := h.sep s t z x e hx hs
        obtain ⟨ov, hs1, _, hmm, _⟩ := hz.set
        obtain ⟨xs, hxe, a, hl1, _⟩ := hz.log
        exact hz.frame o hK hsp.1 (blk_ne hl1 hA.obj (by decide)) (blk_ne hs1 hA.obj (by decide)) (map_ne hmm hA.obj)
    sep := fun s s' z z' e e' hne => by
      obtain ⟨u, hu⟩ := old s z e
      obtain ⟨u', hu'⟩ := old s' z' e'
      exact h.sep s s' u u' hu hu' hne
    sepm := fun s z e => by
      obtain ⟨u, hu⟩ := old s z e
      exact h.sepm s u hu
    lo1 := h.lo1
    lo2 := h.lo2
    lo3 := fun s z e => by
      obtain ⟨u, hu⟩ := old s z e
      exact h.lo3 s u hu }
end Go.Proofs.Ytgjemjogncnbnaa.Tad
