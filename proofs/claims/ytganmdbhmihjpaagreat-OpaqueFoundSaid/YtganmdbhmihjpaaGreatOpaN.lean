/- The real side: attempts are laid, one behind the other, as far as they can. -/
import Derived.Test.YtganmdbhmihjpaaGreatOpaM
namespace Go.Proofs.YtganmdbhmihjpaaGreat.Opa
open Go.RowKit Go.Proofs.YtganmdbhmihjpaaGreat.Wri Go.Proofs.YtganmdbhmihjpaaGreat.His
set_option linter.unusedSimpArgs false
set_option linter.unusedVariables false
set_option maxRecDepth 50000

section
variable {P : Program} {ops : Array Oper} {Q : Exit → Act → World → Prop} {md : Region.Mode} {S : World → Prop}
theorem wpAnyH_take2 {i : Nat} {oi : Oper} {v : Value} {fuel : Nat} {listed : Array Bool} {a : Act} {w : World} (hi' : ops.toList[i]? = some oi)
    (hs : Region.noSelect ops = true) (hf : Region.free md ops listed i = true) (hr : (Region.ready md ops listed).contains i = true)
    (hQ : ∀ c a w, Q (.panic c) (a.put oi.dst v) w → Q (.panic c) a w) (hy : YieldsIf P ops S oi v a) (hS : S w)
    (h : wpAnyH P md ops Q S fuel (listed.setIfInBounds i true) (a.put oi.dst v) w) : wpAnyH P md ops Q S (fuel + 1) listed a w :=
  wpAnyH_take (by rw [← Array.getElem?_toList]; exact hi') hs hf hr hQ hy hS h
theorem AllReadyH_cons2 {fuel : Nat} {listed : Array Bool} {a : Act} {w : World} {i : Nat} {o : Oper} {rs : List Nat} (ho' : ops.toList[i]? = some o)
    (h : ∀ K' : Act → World → Prop, Shut (∀ a w, S w → (S w → wpAnyH P md ops Q S fuel (listed.setIfInBounds i true) a w) → K' a w) → if Region.wanted o (yielded ops a.tmps) = true then Oper.wp P o a w K' Q else K' (a.put o.dst undef) w)
    (hs : AllReadyH P md ops Q S fuel listed a w rs) : AllReadyH P md ops Q S fuel listed a w (i :: rs) :=
  AllReadyH.cons (by rw [← Array.getElem?_toList]; exact ho') h hs
end
theorem intVals_one (ts : List Int) : ∀ u ∈ ts.map (fun t => Value.int .i64 t), u.oneCell' = true := by
  intro u hu
  obtain ⟨x, _, rfl⟩ := List.mem_map.1 hu
  rfl
theorem intVals_get (ts : List Int) (i : Nat) (h : i < ts.length) : (ts.map (fun t => Value.int .i64 t))[i]? = some (.int .i64 (ts.getD i 0)) := by
  rw [List.getElem?_map, List.getElem?_eq_getElem h, List.getD_eq_getElem?_getD, List.getElem?_eq_getElem h]; rfl
set_option maxHeartbeats 1600000 in
theorem cloneI_any (w : World) (a : Option Addr) (n c : Nat) (ts : List Int) (h : IntsIn w a n ts) (hn : n ≤ 1000) (hz : a = none → n = 0 ∧ c = 0) :
    Calls Tryz.prog 43 #[.slice a n c] w fun e w' => ∃ v', e = .returned v' ∧ IntsAt w.heap.size w' v' ts ∧ Below w.heap.size w w' := by
  obtain ⟨i0, hi, hz0, hz1, hz2⟩ := info_parts infoI
  have hnil : ∀ (a : Option Addr) (l c : Nat) (w : World), (binOp .eql 24 (.slice a l c) (.slice none 0 0)).run Tryz.prog w = .ok (.bool a.isNone) w := fun a l c w => Lib.run_eql_slice_nil (P := Tryz.prog) w 24 3 a l c 0 0 Tryz.underlying24
  have hl := h.1
  cases a with
  | none =>
    obtain ⟨rfl, rfl⟩ := hz rfl
    have : ts = [] := List.length_eq_zero_iff.1 hl
    subst this
    have H := Lib.hid (show IntsAt w.heap.size w (.slice none 0 0) [] from World.ownsRow_nil _ _ _ _)
    clear h
    go_enter Tryz.func43, Tryz.ntmps43
    go_wp2
    go_ret
    exact ⟨_, rfl, H.out, Below.refl _ _⟩
  | some p =>
    have hE : (w.alloc (.cells #[] 3)).ownsRow w.heap.size 3 1 (.slice (some ⟨w.heap.size, 0, none⟩) 0 0) 0 [] := by
      have := World.ownsRow_lit (base := w.heap.size) (e := 3) (size := 1) w #[] 0 (Nat.le_refl _) (by decide) (by simp)
      simpa using this
    have hs : ∀ j u, (ts.map fun t => Value.int .i64 t)[j]? = some u → w.cell? (p.add j) = some u := by
      intro j u hu
      rcases h.2 with rfl | ⟨b, off, e, hc⟩
      · rw [List.length_eq_zero_iff.1 hl] at hu; simp at hu
      · have hj : j < n := by
          have := (List.getElem?_eq_some_iff.1 hu).1
          rw [List.length_map] at this
          omega
        injection e with e
        subst e
        rw [intVals_get ts j (by omega)] at hu
        injection hu with hu
        rw [Addr.add_lit, ← hu]
        exact hc j hj
    have HS := Lib.hid hs; have HE := Lib.hid hE; have HL := Lib.hid hl
    have H1 := Lib.hid (intVals_one ts)
    have HL2 := Lib.hid (show (ts.map fun t => Value.int .i64 t).length = n * 1 by rw [List.length_map]; omega)
    clear hs hE hl h hz
    go_enter Tryz.func43, Tryz.ntmps43
    go_wp2_with (at_builtin; refine wpList_append_own _ rfl _ _ 24 rfl w.heap.size 3 i0 (.int .i64 0) 1 8 Tryz.underlying24 hi hz0 hz1 hz2 rfl (by decide) _ 0 [] rfl HE.out p n c (ts.map fun t => Value.int .i64 t) rfl HL2.out ?c1 H1.out ?c3 ?c4 ?c5 ?_)
    case c1 =>
      intro j u hu
      have := HS.out j u hu
      exact bkeep ((Below.refl _ _).alloc (Nat.le_refl _) _) this
    case c3 => unfold maxLen; omega
    case c4 => omega
    case c5 => simp
    intro v' w1 hown hgr _
    have hB : Below w.heap.size w w1 := ((Below.refl _ w).alloc (Nat.le_refl _) (.cells #[] 3)).grown hgr (by simp) (by simp [Value.ownBlock])
    have hW := Lib.hid hown; have HB := Lib.hid hB
    clear hown hgr hB HS HE
    go_wp2
    go_ret
    refine ⟨_, rfl, ?_, HB.out⟩
    unfold IntsAt
    rw [HL.out]
    simpa using hW.out
def badB (l : List Ev) (order : List Int) (x y : Int) : Bool := y != x && !decide (y ∈ order) && beforeL y x l false
def candB (l : List Ev) (f : Int → One) (all order vs : List Int) (x : Int) : Bool := !decide (x ∈ order) && !(all.any (badB l order x)) && fitsB (f x) vs
def searchL (l : List Ev) (f : Int → One) (all : List Int) : Nat → List Int → List Int → Option (List Int)
  | 0, order, _ => if order.length = all.length then some order else none
  | k + 1, order, vs => if order.length = all.length then some order else all.findSome? fun x => if candB l f all order vs x then searchL l f all k (order ++ [x]) (layL (f x) vs) else none
def SearchPost (w : World) (q : Nat) (p : Option Addr) (n c : Nat) (l : List Ev) (C : List Int) (av hv : Value) (vs : List Int) (R : Option (List Int)) (e : Ending) (w' : World) : Prop :=
  Only (fun k => hv.ownBlock = some k) w w' ∧
  ((∃ o a cc, R = some o ∧ e = .returned (.tuple #[.slice a o.length cc, .bool true]) ∧ o.length ≤ cc ∧ ∀ W, Only (fun k => hv.ownBlock = some k) w' W → IntsIn W a o.length o) ∨
   (R = none ∧ e = .returned (.tuple #[.slice none 0 0, .bool false]) ∧ Game w' q p n c l av hv (onesOf l C) vs))
theorem findSome_snoc {all : List Int} {F : Int → Option (List Int)} {i : Nat} {x : Int} (hx : all[i]? = some x) (h : (all.take i).findSome? F = none) (hf : F x = none) : (all.take (i + 1)).findSome? F = none := by
  rw [List.take_add_one, hx, List.findSome?_append, h]
  simp [hf]
theorem findSome_at {all : List Int} {F : Int → Option (List Int)} {i : Nat} {x : Int} {o : List Int} (hx : all[i]? = some x) (h : (all.take i).findSome? F = none) (hf : F x = some o) : all.findSome? F = some o := by
  have hi := (List.getElem?_eq_some_iff.1 hx).1
  have he : all[i] = x := (List.getElem?_eq_some_iff.1 hx).2
  rw [← List.take_append_drop i all, List.findSome?_append, h, List.drop_eq_getElem_cons hi, he, List.findSome?_cons, hf]
  rfl
end Go.Proofs.YtganmdbhmihjpaaGreat.Opa
