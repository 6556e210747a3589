/- The engine: its heap; what a beginning adds. -/
import Derived.Test.YtgjemjogncnbnaaTadP
namespace Go.Proofs.Ytgjemjogncnbnaa.Tad
open Go.RowKit
set_option linter.unusedSimpArgs false
set_option linter.unusedVariables false
set_option maxRecDepth 50000

theorem setNew_any (w : World) : Calls Try.prog 27 #[] w fun e w' => e = .returned (ptr (w.heap.size + 1)) ∧ SetE w' (w.heap.size + 1) w.heap.size [] ∧ Below w.heap.size w w' := by
  have hmm := @run_makeMap Try.prog
  go_enter Try.func27, Try.ntmps27
  go_wp2
  go_ret
  refine ⟨rfl, ⟨.slice none 0 0, ?_, World.ownsRow_nil _ _ _ _, ?_, by decide, fun _ => rfl⟩, by repeat (first | (with_reducible exact Below.refl _ _) | (with_reducible apply Below.drew) | (with_reducible refine below_drewN ?_ _) | (with_reducible refine below_alloc' ?_ ?_ _; (focus ((try simp) <;> omega))) | (with_reducible refine below_set' ?_ ?_ _; (focus ((try simp) <;> omega))))⟩
  · simp [↓heap_alloc_eq, ↓heap_set_eq, ↓heap_drew_eq, ↓heap_drewN_eq, setObj, size_drewN]
  · exact ((MapIs.made Try.prog 3 w).below (by repeat (first | (with_reducible exact Below.refl _ _) | (with_reducible apply Below.drew) | (with_reducible refine below_drewN ?_ _) | (with_reducible refine below_alloc' ?_ ?_ _; (focus ((try simp) <;> omega))) | (with_reducible refine below_set' ?_ ?_ _; (focus ((try simp) <;> omega))))))
theorem row_mono {w : World} {base base' : Nat} {e : TypeId} {size : Nat} {v : Value} {n : Nat} {xs : List Value} (h : w.ownsRow base e size v n xs) (hb : base' ≤ base) : w.ownsRow base' e size v n xs := by
  obtain ⟨h1, h2 | ⟨g, cap, cur, he, hg, rest⟩⟩ := h
  · exact ⟨h1, .inl h2⟩
  · exact ⟨h1, .inr ⟨g, cap, cur, he, by omega, rest⟩⟩
theorem row_lift {w : World} {base base' : Nat} {e : TypeId} {size : Nat} {v : Value} {n : Nat} {xs : List Value} (h : w.ownsRow base e size v n xs) (hb : ∀ k, v.ownBlock = some k → base' ≤ k) : w.ownsRow base' e size v n xs := by
  obtain ⟨h1, h2 | ⟨g, cap, cur, he, hg, rest⟩⟩ := h
  · exact ⟨h1, .inl h2⟩
  · exact ⟨h1, .inr ⟨g, cap, cur, he, hb g (by rw [he]; rfl), rest⟩⟩
section
variable {lo : Nat} {w w' : World} {eb : Nat} {B B' : Bk} {E E' : Eng}
theorem EngAt.keyA (h : EngAt lo w eb B E) (hlo : lo ≤ w.heap.size) {wA w5 : World} (lA : Below w.heap.size w wA) {na : Option Addr} {nc : Nat} {xs : List Value} (hown5 : w5.ownsRow lo 25 1 (.slice na (E.n + 1) nc) (E.n + 1) xs) (hgr : wA.grownBy w5 B.ky.ownBlock) :
    w5.cell? ⟨eb, 4, none⟩ = some B.ky ∧ w5.frozen? ⟨eb, 4, none⟩ = false ∧ EngAt lo (w5.setCell ⟨eb, 4, none⟩ (.slice na (E.n + 1) nc)) eb { B with ky := .slice na (E.n + 1) nc } { E with n := E.n + 1 } ∧ Only (Mut lo w) w (w5.setCell ⟨eb, 4, none⟩ (.slice na (E.n + 1) nc)) := by
  obtain ⟨ys, hrow⟩ := h.kys
  have o5 : Only (fun kk => B.ky.ownBlock = some kk) w w5 := (Only.of_below (S := fun kk => B.ky.ownBlock = some kk) lA (fun kk hk h => absurd hk (Nat.not_lt.2 h))).trans (Only.of_grown hgr fun kk h => h)
  have hne : ¬ B.ky.ownBlock = some eb := fun hk => by
    obtain ⟨cs, hc⟩ := row_obj hrow hk
    exact blk_ne hc h.obj (by decide) rfl
  have hob5 := o5.blk h.obj hne
  have oF : Only (fun kk => B.ky.ownBlock = some kk ∨ kk = eb) w (w5.setCell ⟨eb, 4, none⟩ (.slice na (E.n + 1) nc)) :=
    ((Only.refl (fun kk => B.ky.ownBlock = some kk ∨ kk = eb) w).after o5 fun kk _ h => .inl h).setCell (p := ⟨eb, 4, none⟩) (.inr (.inr rfl)) _
  have hS : ∀ kk, (B.ky.ownBlock = some kk ∨ kk = eb) → kk < w.heap.size → kk = eb ∨ ∃ cs t, w.heap[kk]? = some (.cells cs t (0, 0)) ∧ t ∈ [26, 80, 25, 35, 38, 32] := fun kk h _ => by
    rcases h with h | h
    · obtain ⟨cs, hc⟩ := row_obj hrow h
      exact .inr ⟨cs, _, hc, by decide⟩
    · exact .inl h
  have rowF : ∀ {e : TypeId} {size n : Nat} {v : Value} {xs : List Value}, w.ownsRow 0 e size v n xs → e ≠ 25 → e ≠ 61 → (w5.setCell ⟨eb, 4, none⟩ (.slice na (E.n + 1) nc)).ownsRow 0 e size v n xs := fun hr h1 h2 => ownsRow_only hr oF fun kk hk hh => by
    obtain ⟨cs, hc⟩ := row_obj hr hk
    rcases hh with hh | rfl
    · obtain ⟨cs', hc'⟩ := row_obj hrow hh
      exact blk_ne hc hc' h1 rfl
    · exact blk_ne hc h.obj h2 rfl
  have hvl : ∀ kk, (Value.slice na (E.n + 1) nc).ownBlock = some kk → lo ≤ kk := fun kk hk => by
    exact (hown5.lt kk hk).1
  have c4 := blk_cell hob5 4
  simp only [List.getElem?_toArray, List.getElem?_cons_zero, List.getElem?_cons_succ] at c4
  refine ⟨c4, blk_free hob5 4, h.rows oF hS ⟨rfl, rfl, rfl, rfl⟩ ⟨rfl, rfl, rfl⟩ (by simp [↓heap_alloc_eq, ↓heap_set_eq, ↓heap_drew_eq, ↓heap_drewN_eq, setObj, size_drewN, hob5]) (rowF h.heap (by decide) (by decide)) (h.evs.imp fun _ hr => rowF hr (by decide) (by decide))
    ⟨_, ownsRow_only (row_mono hown5 (Nat.zero_le _)) ((Only.refl (fun kk => kk = eb) w5).setCell (p := ⟨eb, 4, none⟩) (.inr rfl) _) fun kk hk hh => by
        obtain ⟨cs, hc⟩ := row_obj hown5 hk
        subst hh
        exact blk_ne hc hob5 (by decide) rfl⟩
    (h.wys.imp fun _ hr => rowF hr (by decide) (by decide)) ⟨h.lo2.1, hvl, h.lo2.2.2⟩, (Only.refl (Mut lo w) w).after oF fun kk hk hh => ?_⟩
  rcases hh with hh | rfl
  · obtain ⟨cs, hc⟩ := row_obj hrow hh
    exact ⟨h.lo2.2.1 kk hh, _, hc, by show _ ∈ _; decide⟩
  · exact ⟨h.lo1.1, _, h.obj, by show _ ∈ _; decide⟩
theorem EngAt.whyA (h : EngAt lo w eb B E) (hlo : lo ≤ w.heap.size) {wA w5 : World} (lA : Below w.heap.size w wA) {na : Option Addr} {nc : Nat} {xs : List Value} (hown5 : w5.ownsRow lo 35 1 (.slice na (E.y + 1) nc) (E.y + 1) xs) (hgr : wA.grownBy w5 B.wy.ownBlock) :
    w5.cell? ⟨eb, 5, none⟩ = some B.wy ∧ w5.frozen? ⟨eb, 5, none⟩ = false ∧ EngAt lo (w5.setCell ⟨eb, 5, none⟩ (.slice na (E.y + 1) nc)) eb { B with wy := .slice na (E.y + 1) nc } { E with y := E.y + 1 } ∧ Only (Mut lo w) w (w5.setCell ⟨eb, 5, none⟩ (.slice na (E.y + 1) nc)) := by
  obtain ⟨ys, hrow⟩ := h.wys
  have o5 : Only (fun kk => B.wy.ownBlock = some kk) w w5 := (Only.of_below (S := fun kk => B.wy.ownBlock = some kk) lA (fun kk hk h => absurd hk (Nat.not_lt.2 h))).trans (Only.of_grown hgr fun kk h => h)
  have hne : ¬ B.wy.ownBlock = some eb := fun hk => by
    obtain ⟨cs, hc⟩ := row_obj hrow hk
    exact blk_ne hc h.obj (by decide) rfl
  have hob5 := o5.blk h.obj hne
  have oF : Only (fun kk => B.wy.ownBlock = some kk ∨ kk = eb) w (w5.setCell ⟨eb, 5, none⟩ (.slice na (E.y + 1) nc)) :=
    ((Only.refl (fun kk => B.wy.ownBlock = some kk ∨ kk = eb) w).after o5 fun kk _ h => .inl h).setCell (p := ⟨eb, 5, none⟩) (.inr (.inr rfl)) _
  have hS : ∀ kk, (B.wy.ownBlock = some kk ∨ kk = eb) → kk < w.heap.size → kk = eb ∨ ∃ cs t, w.heap[kk]? = some (.cells cs t (0, 0)) ∧ t ∈ [26, 80, 25, 35, 38, 32] := fun kk h _ => by
    rcases h with h | h
    · obtain ⟨cs, hc⟩ := row_obj hrow h
      exact .inr ⟨cs, _, hc, by decide⟩
    · exact .inl h
  have rowF : ∀ {e : TypeId} {size n : Nat} {v : Value} {xs : List Value}, w.ownsRow 0 e size v n xs → e ≠ 35 → e ≠ 61 → (w5.setCell ⟨eb, 5, none⟩ (.slice na (E.y + 1) nc)).ownsRow 0 e size v n xs := fun hr h1 h2 => ownsRow_only hr oF fun kk hk hh => by
    obtain ⟨cs, hc⟩ := row_obj hr hk
    rcases hh with hh | rfl
    · obtain ⟨cs', hc'⟩ := row_obj hrow hh
      exact blk_ne hc hc' h1 rfl
    · exact blk_ne hc h.obj h2 rfl
  have hvl : ∀ kk, (Value.slice na (E.y + 1) nc).ownBlock = some kk → lo ≤ kk := fun kk hk => by
    exact (hown5.lt kk hk).1
  have c4 := blk_cell hob5 5
  simp only [List.getElem?_toArray, List.getElem?_cons_zero, List.getElem?_cons_succ] at c4
  refine ⟨c4, blk_free hob5 5, h.rows oF hS ⟨rfl, rfl, rfl, rfl⟩ ⟨rfl, rfl, rfl⟩ (by simp [↓heap_alloc_eq, ↓heap_set_eq, ↓heap_drew_eq, ↓heap_drewN_eq, setObj, size_drewN, hob5]) (rowF h.heap (by decide) (by decide)) (h.evs.imp fun _ hr => rowF hr (by decide) (by decide)) (h.kys.imp fun _ hr => rowF hr (by decide) (by decide))
    ⟨_, ownsRow_only (row_mono hown5 (Nat.zero_le _)) ((Only.refl (fun kk => kk = eb) w5).setCell (p := ⟨eb, 5, none⟩) (.inr rfl) _) fun kk hk hh => by
        obtain ⟨cs, hc⟩ := row_obj hown5 hk
        subst hh
        exact blk_ne hc hob5 (by decide) rfl⟩
    ⟨h.lo2.1, h.lo2.2.1, hvl⟩, (Only.refl (Mut lo w) w).after oF fun kk hk hh => ?_⟩
  rcases hh with hh | rfl
  · obtain ⟨cs, hc⟩ := row_obj hrow hh
    exact ⟨h.lo2.2.2 kk hh, _, hc, by show _ ∈ _; decide⟩
  · exact ⟨h.lo1.1, _, h.obj, by show _ ∈ _; decide⟩
/-- a thread's attempt is there that was not -/
theorem EngAt.add (h : EngAt lo w eb B E) (t : Int) (hx : E.th t = none) (hlo : lo ≤ w.heap.size) {W : World} (l : Below w.heap.size w W) {z : Pt} (hz : w.heap.size ≤ z.p ∧ w.heap.size ≤ z.q ∧ w.heap.size ≤ z.s ∧ w.heap.size ≤ z.b) {y : T} (hA : AttAt W z y)
    (o : Only (fun k => k = B.mb) W w') {c' : Nat} (hm : MapIs Try.prog 3 w' B.mb c' (updM (fun t => (E.th t).map fun _ => ptr (B.pt t).p) t (some (ptr z.p)))) :
    EngAt lo w' eb { B with pt := fun u => if u = t then z else B.pt u } { E with c := c', th := updT E.th t (some y) } ∧ Only (Mut lo w) w w' := by
  have h1 := h.below l
  obtain ⟨es, c, hmo⟩ := h1.mp.obj
  have hK : KindS W (fun k => k = B.mb) := .one hmo trivial
  have nC : ∀ {k : Nat} {cs : Array Value} {ty : TypeId} {fr : Nat × Nat}, W.heap[k]? = some (.cells cs ty fr) → ¬ k = B.mb := fun hc e => by
    subst e
    exact h1.mp.not_cells hc
  have row : ∀ {e : TypeId} {size n : Nat} {v : Value} {xs : List Value}, W.ownsRow 0 e size v n xs → w'.ownsRow 0 e size v n xs := fun hr => ownsRow_only hr o fun k hk hs => by
    obtain ⟨cs, hc⟩ := row_obj hr hk
    exact nC hc hs
  have hth : ∀ s x, updT E.th t (some y) s = some x → (s = t ∧ x = y) ∨ (s ≠ t ∧ E.th s = some x) := fun s x e => by
    unfold updT at e
    split at e
    · rename_i hs
      injection e with e
      exact .inl ⟨hs, e.symm⟩
    · rename_i hs
      exact .inr ⟨hs, e⟩
  have hmb : B.mb < w.heap.size := h.mp.lt
  have hold : ∀ s x, E.th s = some x → (B.pt s).p < w.heap.size ∧ (B.pt s).q < w.heap.size ∧ (B.pt s).s < w.heap.size ∧ (B.pt s).b < w.heap.size := fun s x e => by
    have hA := h.ths s x e
    obtain ⟨ov, hs1, _, hmm, _⟩ := hA.set
    obtain ⟨xs, hxe, a, hl1, _⟩ := hA.log
    exact ⟨blk_lt hA.obj, blk_lt hl1, blk_lt hs1, hmm.lt⟩
  obtain ⟨lcs, hlc⟩ := lock_obj h1.lock
  have hframe : ∀ {x : Pt} {v : T}, AttAt W x v → x.b ≠ B.mb → AttAt w' x v := fun {x v} hA hb => by
    obtain ⟨ov, hs1, _, hmm, _⟩ := hA.set
    obtain ⟨xs, hxe, a, hl1, _⟩ := hA.log
    exact hA.frame o hK (nC hA.obj) (nC hl1) (nC hs1) hb
  refine ⟨{
    obj := o.blk h1.obj (nC h1.obj)
    lock := lock_frame h1.lock o hK (nC hlc)
    linv := h.linv
    heap := row h1.heap
    mp := hm.congr fun s _ => by
      show updM _ t _ s = (updT E.th t (some y) s).map fun _ => ptr (if s = t then z else B.pt s).p
      unfold updM updT
      by_cases e : s = t
      · simp [e]
      · simp [e]
    evs := h1.evs.imp fun _ hr => row hr
    kys := h1.kys.imp fun _ hr => row hr
    wys := h1.wys.imp fun _ hr => row hr
    ths := fun s x e => by
      rcases hth s x e with ⟨rfl, rfl⟩ | ⟨hs, e⟩
      · simp only [if_true]
        exact hframe hA (by omega)
      · simp only [hs, if_false]
        exact hframe (h1.ths s x e) (h1.sepm s x e)
    sep := fun s s' x x' e e' hss => by
      show (if s = t then z else B.pt s).p ≠ (if s' = t then z else B.pt s').p ∧ (if s = t then z else B.pt s).q ≠ (if s' = t then z else B.pt s').q ∧ (if s = t then z else B.pt s).s ≠ (if s' = t then z else B.pt s').s ∧ (if s = t then z else B.pt s).b ≠ (if s' = t then z else B.pt s').b
      rcases hth s x e with ⟨rfl, rfl⟩ | ⟨hs, eo⟩
      · rcases hth s' x' e' with ⟨rfl, rfl⟩ | ⟨hs', e'⟩
        · exact absurd rfl hss
        · have := hold s' x' e'
          simp only [if_true, hs', if_false]
          omega
      · rcases hth s' x' e' with ⟨rfl, rfl⟩ | ⟨hs', e'⟩
        · have := hold s x eo
          simp only [if_true, hs, if_false]
          omega
        · simp only [hs, hs', if_false]
          exact h.sep s s' x x' eo e' hss
    sepm := fun s x e => by
      show (if s = t then z else B.pt s).b ≠ B.mb
      rcases hth s x e with ⟨rfl, rfl⟩ | ⟨hs, e⟩
      · simp only [if_true]
        omega
      · simp only [hs, if_false]
        exact h.sepm s x e
    lo1 := h.lo1
    lo2 := h.lo2
    lo3 := fun s x e => by
      show lo ≤ (if s = t then z else B.pt s).p ∧ lo ≤ (if s = t then z else B.pt s).q ∧ lo ≤ (if s = t then z else B.pt s).s ∧ lo ≤ (if s = t then z else B.pt s).b
      rcases hth s x e with ⟨rfl, rfl⟩ | ⟨hs, e⟩
      · simp only [if_true]
        omega
      · simp only [hs, if_false]
        exact h.lo3 s x e }, ?_⟩
  obtain ⟨es', c2, hmo'⟩ := h.mp.obj
  exact mut_trans (mut_below l) (mut_one o hmo trivial h.lo1.2.2.2)
end
end Go.Proofs.Ytgjemjogncnbnaa.Tad
