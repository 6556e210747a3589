/- What stays true of the engine while three threads add: no Go here. -/
import Derived.Test.YtgjemjogncnbnaaTadP
namespace Go.Proofs.Ytgjemjogncnbnaa.Tad
set_option linter.unusedVariables false
set_option maxRecDepth 50000

def updN (f : Int → Nat) (t : Int) (v : Nat) : Int → Nat := fun s => if s = t then v else f s
theorem updN_same (f : Int → Nat) (t : Int) (v : Nat) : updN f t v t = v := if_pos rfl
theorem updN_ne (f : Int → Nat) {t s : Int} (v : Nat) (h : s ≠ t) : updN f t v s = f s := if_neg h
/-- how far a read is -/
inductive ReadSt (cnt : Int) (s : Nat) (x : T) : Prop
  | z (h : x.at_ = 0)
  | one (h : x.at_ = 1) (v : Nat) (hv : v ≤ 155) (he : x.val = (fI v : Nat)) (hs : cnt = 2 * (s : Int) → v = s)
  | la (h : x.at_ = 4) (hb : x.back = 0)
  | lb (h : x.at_ = 5) (hb : x.back = 0) (hn : x.next = 0) (u : Nat) (hu : x.seen = 2 * (u : Int)) (hl : 2 * (u : Int) ≤ cnt)
  | lc (h : x.at_ = 6) (hb : x.back = 0) (u : Nat) (hu : x.seen = 2 * (u : Int)) (hl : 2 * (u : Int) ≤ cnt)
/-- how far a commit is that has no lock -/
inductive ComSt (cnt : Int) (s : Nat) (x : T) : Prop
  | z (h : x.at_ = 0)
  | one (h : x.at_ = 1)
  | la (h : x.at_ = 4) (hb : x.back = 1)
  | lb0 (h : x.at_ = 5) (hb : x.back = 1) (hn : x.next = 0) (u : Nat) (hu : x.seen = 2 * (u : Int)) (hl : 2 * (u : Int) ≤ cnt)
  | lb1 (h : x.at_ = 5) (hb : x.back = 1) (hn : x.next = 1) (u : Nat) (hu : x.seen = 2 * (u : Int)) (hl : 2 * (u : Int) ≤ cnt) (hs : cnt = 2 * (u : Int) → u = s)
  | lc (h : x.at_ = 6) (hb : x.back = 1) (u : Nat) (hu : x.seen = 2 * (u : Int)) (hl : 2 * (u : Int) ≤ cnt) (hs : cnt = 2 * (u : Int) → u = s)
/-- how far an attempt is: a times it has asked, g is what was told to it -/
inductive Ph (cnt : Int) (mine : Prop) (a g s : Nat) (x : T) : Prop
  | new (ha : a = 0) (hk : x.kd = 0) (he : x.es = []) (hf : x.fs = [[]]) (hm : ¬ mine)
  | read (ha : a = 1) (hk : x.kd = 1) (he : x.es = []) (hf : x.fs = [[]]) (hm : ¬ mine) (st : ReadSt cnt s x)
  | got (ha : a = 1) (hk : x.kd = 0) (he : x.es = [(0, ((fI s : Nat) : Int), 0)]) (hf : x.fs = [[]]) (hm : ¬ mine) (hg : g = s)
  | turn (ha : a = 2) (hk : x.kd = 2) (hat : x.at_ = 0) (he : x.es = [(0, ((fI s : Nat) : Int), 0)]) (hf : x.fs = [[]]) (hv : x.av = (fI (s + 1) : Nat)) (hm : ¬ mine)
  | put (ha : a = 2) (hk : x.kd = 0) (he : x.es = [(0, ((fI s : Nat) : Int), 0)]) (hf : x.fs = [[(0, ((fI (s + 1) : Nat) : Int))]]) (hm : ¬ mine)
  | com (ha : a = 3) (hk : x.kd = 6) (he : x.es = [(0, ((fI s : Nat) : Int), 0)]) (hf : x.fs = [[(0, ((fI (s + 1) : Nat) : Int))]]) (hm : ¬ mine) (st : ComSt cnt s x)
  | held (ha : a = 3) (hk : x.kd = 6) (hf : x.fs = [[(0, ((fI (s + 1) : Nat) : Int))]]) (hm : mine) (hc : cnt = 2 * (s : Int) + 1) (st : (x.at_ = 2 ∧ x.next = 0) ∨ x.at_ = 3)
structure ThG (cnt : Int) (own : Option Int) (n a g : Nat) (t : Int) (x : T) : Prop where
  num : ∃ k : Nat, x.num = k ∧ k < n
  ph : ∃ s : Nat, x.snap = 2 * (s : Int) ∧ 2 * (s : Int) ≤ cnt ∧ Ph cnt (own = some t) a g s x
theorem ThG.grow {cnt cnt' : Int} {own own' : Option Int} {n n' a g : Nat} {t : Int} {x : T} (h : ThG cnt own n a g t x) (hc : cnt ≤ cnt') (hn : n ≤ n') (ho : own' = some t ↔ own = some t) (hm : own = some t → cnt' = cnt) : ThG cnt' own' n' a g t x := by
  obtain ⟨⟨k, hk, hkn⟩, s, hs, hsl, hp⟩ := h
  refine ⟨⟨k, hk, by omega⟩, s, hs, by omega, ?_⟩
  have hmm : ∀ {p : Prop}, ¬ (own = some t) → ¬ (own' = some t) := fun h e => h (ho.1 e)
  cases hp with
  | new ha hk he hf hm => exact .new ha hk he hf fun e => hm (ho.1 e)
  | read ha hk he hf hm st =>
    refine .read ha hk he hf (fun e => hm (ho.1 e)) ?_
    cases st with
    | z h => exact .z h
    | one h v hv he hs => exact .one h v hv he fun e => hs (by omega)
    | la h hb => exact .la h hb
    | lb h hb hn u hu hl => exact .lb h hb hn u hu (by omega)
    | lc h hb u hu hl => exact .lc h hb u hu (by omega)
  | got ha hk he hf hm hg => exact .got ha hk he hf (fun e => hm (ho.1 e)) hg
  | turn ha hk hat he hf hv hm => exact .turn ha hk hat he hf hv fun e => hm (ho.1 e)
  | put ha hk he hf hm => exact .put ha hk he hf fun e => hm (ho.1 e)
  | com ha hk he hf hm st =>
    refine .com ha hk he hf (fun e => hm (ho.1 e)) ?_
    cases st with
    | z h => exact .z h
    | one h => exact .one h
    | la h hb => exact .la h hb
    | lb0 h hb hn u hu hl => exact .lb0 h hb hn u hu (by omega)
    | lb1 h hb hn u hu hl hs => exact .lb1 h hb hn u hu (by omega) fun e => hs (by omega)
    | lc h hb u hu hl hs => exact .lc h hb u hu (by omega) fun e => hs (by omega)
  | held ha hk hf hmi hc st => exact .held ha hk hf (ho.2 hmi) (by rw [hm hmi]; exact hc) st
inductive LkG (E : Eng) (done : Nat) : Prop
  | free (ho : E.lk.own = none) (hc : E.lk.cnt = 2 * (done : Int)) (hh : E.h = (fI done : Nat))
  | held (o : Int) (x : T) (ho : E.lk.own = some o) (h0 : 0 ≤ o) (h3 : o < 3) (hc : E.lk.cnt = 2 * (done : Int) + 1) (hx : E.th o = some x) (st : (x.at_ = 2 ∧ E.h = (fI done : Nat)) ∨ (x.at_ = 3 ∧ E.h = (fI (done + 1) : Nat)))
/-- the state of the law's loop behind i rounds -/
structure Good (E : Eng) (a g : Int → Nat) (done i : Nat) : Prop where
  mi : E.m ≤ i
  n64 : E.n ≤ 64
  yn : E.y = E.n
  cn : E.c ≤ E.n
  di : done ≤ i
  gi : ∀ t, g t ≤ 155
  lk : LkG E done
  th : ∀ t x, 0 ≤ t → t < 3 → E.th t = some x → ThG E.lk.cnt E.lk.own E.n (a t) (g t) t x
theorem LkG.bounds {E : Eng} {done : Nat} (h : LkG E done) : 0 ≤ E.lk.cnt ∧ E.lk.cnt ≤ 2 * (done : Int) + 1 ∧ 2 * (done : Int) ≤ E.lk.cnt := by
  cases h with
  | free ho hc hh => omega
  | held o x ho h0 h3 hc hx st => omega
theorem LkG.h {E : Eng} {done : Nat} (h : LkG E done) : ∃ v, (v = done ∨ v = done + 1) ∧ E.h = (fI v : Nat) ∧ (∀ s : Nat, E.lk.cnt = 2 * (s : Int) → v = s) := by
  cases h with
  | free ho hc hh => exact ⟨done, .inl rfl, hh, fun s hs => by omega⟩
  | held o x ho h0 h3 hc hx st =>
    rcases st with ⟨_, hh⟩ | ⟨_, hh⟩
    · exact ⟨done, .inl rfl, hh, fun s hs => by omega⟩
    · exact ⟨done + 1, .inr rfl, hh, fun s hs => by omega⟩
section
variable {E : Eng} {a g a' g' : Int → Nat} {done i : Nat}
/-- one thread's attempt is turned that has no lock -/
theorem Good.set (h : Good E a g done i) {t : Int} (ho : E.lk.own ≠ some t) {m' : Nat} (hm : m' ≤ i + 1) {y : T} (hy : ThG E.lk.cnt E.lk.own E.n (a' t) (g' t) t y) (ha : ∀ s, s ≠ t → a' s = a s) (hg : ∀ s, s ≠ t → g' s = g s) (hgt : g' t ≤ 155) :
    Good { E with m := m', th := updT E.th t (some y) } a' g' done (i + 1) where
  mi := hm
  n64 := h.n64
  yn := h.yn
  cn := h.cn
  di := Nat.le_succ_of_le h.di
  gi := fun s => by
    by_cases e : s = t
    · rw [e]; exact hgt
    · rw [hg s e]; exact h.gi s
  lk := by
    cases h.lk with
    | free ho hc hh => exact .free ho hc hh
    | held o x hoo h0 h3 hc hx st =>
      have hne : o ≠ t := fun e => ho (by rw [hoo, e])
      exact .held o x hoo h0 h3 hc (by show updT E.th t (some y) o = some x; unfold updT; rw [if_neg hne]; exact hx) st
  th := fun s x h0 h3 e => by
    have e : updT E.th t (some y) s = some x := e
    unfold updT at e
    by_cases hs : s = t
    · subst hs
      rw [if_pos rfl] at e
      injection e with e
      rw [← e]
      exact hy
    · rw [if_neg hs] at e
      rw [ha s hs, hg s hs]
      exact h.th s x h0 h3 e
/-- one thread's attempt ends that has no lock -/
theorem Good.del (h : Good E a g done i) {t : Int} (ho : E.lk.own ≠ some t) {m' : Nat} (hm : m' ≤ i + 1) (ha : ∀ s, s ≠ t → a' s = a s) :
    Good { E with m := m', th := updT E.th t none } a' g done (i + 1) where
  mi := hm
  n64 := h.n64
  yn := h.yn
  cn := h.cn
  di := Nat.le_succ_of_le h.di
  gi := h.gi
  lk := by
    cases h.lk with
    | free ho hc hh => exact .free ho hc hh
    | held o x hoo h0 h3 hc hx st =>
      have hne : o ≠ t := fun e => ho (by rw [hoo, e])
      exact .held o x hoo h0 h3 hc (by show updT E.th t none o = some x; unfold updT; rw [if_neg hne]; exact hx) st
  th := fun s x h0 h3 e => by
    have e : updT E.th t none s = some x := e
    unfold updT at e
    by_cases hs : s = t
    · rw [if_pos hs] at e; cases e
    · rw [if_neg hs] at e
      rw [ha s hs]
      exact h.th s x h0 h3 e
/-- the lock is taken -/
theorem Good.take (h : Good E a g done i) {t : Int} (h0 : 0 ≤ t) (h3 : t < 3) {x : T} (hx : E.th t = some x) (ho : E.lk.own = none) {s : Nat} (hsn : x.snap = 2 * (s : Int)) (hc : E.lk.cnt = 2 * (s : Int)) (hk : x.kd = 6) (hf : x.fs = [[(0, ((fI (s + 1) : Nat) : Int))]]) (ha : a t = 3) :
    Good { E with lk := ⟨some t, E.lk.cnt + 1⟩, th := updT E.th t (some { x with dec := true, at_ := 2, next := 0 }) } a g done (i + 1) where
  mi := Nat.le_succ_of_le h.mi
  n64 := h.n64
  yn := h.yn
  cn := h.cn
  di := Nat.le_succ_of_le h.di
  gi := h.gi
  lk := by
    cases h.lk with
    | free ho hc hh => exact .held t _ rfl h0 h3 (by show E.lk.cnt + 1 = _; rw [hc]) (updT_same _ _ _) (.inl ⟨rfl, hh⟩)
    | held o x hoo h0 h3 hc hx st => rw [ho] at hoo; cases hoo
  th := fun r z h0 h3 e => by
    have e : updT E.th t (some { x with dec := true, at_ := 2, next := 0 }) r = some z := e
    unfold updT at e
    by_cases hs : r = t
    · subst hs
      rw [if_pos rfl] at e
      injection e with e
      obtain ⟨hnum, _⟩ := h.th r x h0 h3 hx
      rw [← e]
      exact ⟨hnum, s, hsn, by show 2 * (s : Int) ≤ E.lk.cnt + 1; omega, .held ha hk hf rfl (by show E.lk.cnt + 1 = _; omega) (.inl ⟨rfl, rfl⟩)⟩
    · rw [if_neg hs] at e
      exact (h.th r z h0 h3 e).grow (by show E.lk.cnt ≤ E.lk.cnt + 1; omega) (Nat.le_refl _) (by rw [ho]; constructor <;> intro e <;> cases e; exact absurd rfl hs) (fun e => by rw [ho] at e; cases e)
/-- the value is written -/
theorem Good.write (h : Good E a g done i) {t : Int} (h0 : 0 ≤ t) (h3 : t < 3) {x : T} (hx : E.th t = some x) (ho : E.lk.own = some t) {s : Nat} (hsn : x.snap = 2 * (s : Int)) (hc : E.lk.cnt = 2 * (s : Int) + 1) (hk : x.kd = 6) (hf : x.fs = [[(0, ((fI (s + 1) : Nat) : Int))]]) (ha : a t = 3) :
    Good { E with h := ((fI (s + 1) : Nat) : Int), th := updT E.th t (some { x with at_ := 3, next := 1 }) } a g done (i + 1) where
  mi := Nat.le_succ_of_le h.mi
  n64 := h.n64
  yn := h.yn
  cn := h.cn
  di := Nat.le_succ_of_le h.di
  gi := h.gi
  lk := by
    cases h.lk with
    | free hoo hc hh => rw [ho] at hoo; cases hoo
    | held o x hoo h0 h3 hc' hx st =>
      rw [ho] at hoo
      injection hoo with hoo
      subst hoo
      have e : s = done := by omega
      subst e
      exact .held t _ ho h0 h3 hc' (updT_same _ _ _) (.inr ⟨rfl, rfl⟩)
  th := fun r z h0 h3 e => by
    have e : updT E.th t (some { x with at_ := 3, next := 1 }) r = some z := e
    unfold updT at e
    by_cases hs : r = t
    · subst hs
      rw [if_pos rfl] at e
      injection e with e
      obtain ⟨hnum, _⟩ := h.th r x h0 h3 hx
      rw [← e]
      exact ⟨hnum, s, hsn, by show 2 * (s : Int) ≤ E.lk.cnt; omega, .held ha hk hf ho hc (.inr rfl)⟩
    · rw [if_neg hs] at e
      exact h.th r z h0 h3 e
/-- the lock is free again -/
theorem Good.free (h : Good E a g done i) {t : Int} (ho : E.lk.own = some t) {x : T} (hx : E.th t = some x) (hat : x.at_ = 3) {m' : Nat} (hm : m' ≤ i + 1) :
    Good { E with lk := ⟨none, E.lk.cnt + 1⟩, m := m', th := updT E.th t none } (updN a t 0) g (done + 1) (i + 1) where
  mi := hm
  n64 := h.n64
  yn := h.yn
  cn := h.cn
  di := Nat.succ_le_succ h.di
  gi := h.gi
  lk := by
    cases h.lk with
    | free hoo hc hh => rw [ho] at hoo; cases hoo
    | held o z hoo h0 h3 hc hz st =>
      rw [ho] at hoo
      injection hoo with hoo
      subst hoo
      rw [hx] at hz
      injection hz with hz
      subst hz
      rcases st with ⟨e, _⟩ | ⟨_, hh⟩
      · rw [hat] at e; cases e
      · exact .free rfl (by show E.lk.cnt + 1 = 2 * ((done + 1 : Nat) : Int); omega) hh
  th := fun r z h0 h3 e => by
    have e : updT E.th t none r = some z := e
    unfold updT at e
    by_cases hs : r = t
    · rw [if_pos hs] at e; cases e
    · rw [if_neg hs] at e
      rw [updN_ne _ _ hs]
      exact (h.th r z h0 h3 e).grow (by show E.lk.cnt ≤ E.lk.cnt + 1; omega) (Nat.le_refl _) (by rw [ho]; constructor <;> intro e <;> cases e; exact absurd rfl hs) (fun e => by rw [ho] at e; injection e with e; exact absurd e.symm hs)
/-- an attempt begins -/
theorem Good.born (h : Good E a g done i) {t : Int} (hx : E.th t = none) (ho : E.lk.own = none) (hn : E.n < 64) (y : T) (hnum : y.num = (E.n : Int)) (hsn : y.snap = E.lk.cnt) (hk : y.kd = 0) (he : y.es = []) (hf : y.fs = [[]]) :
    Good { E with n := E.n + 1, y := E.y + 1, c := E.c + 1, m := E.m + 1, th := updT E.th t (some y) } (updN a t 0) g done (i + 1) where
  mi := Nat.succ_le_succ h.mi
  n64 := hn
  yn := congrArg (· + 1) h.yn
  cn := Nat.succ_le_succ h.cn
  di := Nat.le_succ_of_le h.di
  gi := h.gi
  lk := by
    cases h.lk with
    | free ho hc hh => exact .free ho hc hh
    | held o x hoo h0 h3 hc hx st => rw [ho] at hoo; cases hoo
  th := fun r z h0 h3 e => by
    have e : updT E.th t (some y) r = some z := e
    unfold updT at e
    by_cases hs : r = t
    · subst hs
      rw [if_pos rfl] at e
      injection e with e
      rw [← e, updN_same]
      cases h.lk with
      | free ho hc hh => exact ⟨⟨E.n, hnum, Nat.lt_succ_self _⟩, done, by rw [hsn, hc], by show 2 * (done : Int) ≤ E.lk.cnt; omega, .new rfl hk he hf (by show ¬ E.lk.own = some r; rw [ho]; simp)⟩
      | held o x hoo h0 h3 hc hx st => rw [ho] at hoo; cases hoo
    · rw [if_neg hs] at e
      rw [updN_ne _ _ hs]
      exact (h.th r z h0 h3 e).grow (Int.le_refl _) (Nat.le_succ _) Iff.rfl (fun _ => rfl)
end
end Go.Proofs.Ytgjemjogncnbnaa.Tad
