/- The real side: one event more, of all attempts. -/
import Derived.Test.YtfpiecnbnoinnaaHisL
import Derived.Maps.OwnSet
namespace Go.Proofs.Ytfpiecnbnoinnaa.His
open Go.RowKit Go.Proofs.Ytfpiecnbnoinnaa.Wri
set_option linter.unusedSimpArgs false
set_option linter.unusedVariables false
set_option maxRecDepth 50000

theorem StackAt.apart {w w' : World} {S : Nat → Prop} (ho : Only S w w') (hs : ∀ k cs t fr, w.heap[k]? = some (.cells cs t fr) → ¬ S k) : ∀ {p : Value} {xs : Frs}, StackAt w p xs → StackAt w' p xs
  | _, [], h => h
  | _, x :: r, ⟨b, q, e, hb, hf, hl, hr⟩ => ⟨b, q, e, ho.blk hb (hs _ _ _ _ hb), ownsRow_only hf ho (fun k hk => by obtain ⟨cs, hc⟩ := row_obj hf hk; exact hs _ _ _ _ hc), hl, StackAt.apart ho hs hr⟩
theorem AttAt.apart {w w' : World} {S : Nat → Prop} {p q : Nat} {a : Att} (h : AttAt w p q a) (ho : Only S w w') (hs : ∀ k cs t fr, w.heap[k]? = some (.cells cs t fr) → ¬ S k) : AttAt w' p q a := by
  obtain ⟨hb, ⟨xs, hx, o, hl, hst, h1, h5⟩, hw⟩ := h
  exact ⟨ho.blk hb (hs _ _ _ _ hb), ⟨xs, hx, o, ho.blk hl (hs _ _ _ _ hl), StackAt.apart ho hs hst, h1, h5⟩, hw⟩
abbrev AtM := Int → Option Att
def updA (M : AtM) (t : Int) (a : Att) : AtM := fun s => if s = t then some a else M s
structure EntsF (B : Nat) (w : World) (b n : Nat) (M : AtM) (ent : Int → Option (Nat × Nat)) : Prop where
  map : MapIs Try.prog 3 w b n (fun t => (ent t).map fun e => ptr e.1)
  some' : ∀ t, (ent t).isSome = (M t).isSome
  at' : ∀ t e a, ent t = some e → M t = some a → AttAt w e.1 e.2 a ∧ B ≤ e.1 ∧ B ≤ e.2
  inj : ∀ t s e f, ent t = some e → ent s = some f → t ≠ s → e.1 ≠ f.1 ∧ e.2 ≠ f.2
  lo : B ≤ b
/-- block b is the map of attempts -/
def Ents (B : Nat) (w : World) (b n : Nat) (M : AtM) : Prop := ∃ ent, EntsF B w b n M ent
theorem EntsF.below {B : Nat} {w w' : World} {b n : Nat} {M : AtM} {ent : Int → Option (Nat × Nat)} (h : EntsF B w b n M ent) (l : Below w.heap.size w w') : EntsF B w' b n M ent :=
  ⟨h.map.below l, h.some', fun t e a h1 h2 => ⟨(h.at' t e a h1 h2).1.below l, (h.at' t e a h1 h2).2⟩, h.inj, h.lo⟩
theorem Ents.below {B : Nat} {w w' : World} {b n : Nat} {M : AtM} (h : Ents B w b n M) (l : Below w.heap.size w w') : Ents B w' b n M := h.imp fun _ h => h.below l
theorem Ents.mono {B : Nat} {w : World} {b n n' : Nat} {M : AtM} (h : Ents B w b n M) (hn : n ≤ n') : Ents B w b n' M := h.imp fun _ h => ⟨h.map.mono hn, h.some', h.at', h.inj, h.lo⟩
theorem EntsF.find {B : Nat} {w : World} {b n : Nat} {M : AtM} {ent : Int → Option (Nat × Nat)} (h : EntsF B w b n M ent) {t : Int} {a : Att} (ht : M t = some a) : ∃ p q, ent t = some (p, q) ∧ AttAt w p q a ∧ B ≤ p ∧ B ≤ q := by
  have h1 := h.some' t
  rw [ht] at h1
  obtain ⟨⟨p, q⟩, he⟩ := Option.isSome_iff_exists.1 h1
  exact ⟨p, q, he, h.at' t _ a he ht⟩
theorem EntsF.no {B : Nat} {w : World} {b n : Nat} {M : AtM} {ent : Int → Option (Nat × Nat)} (h : EntsF B w b n M ent) {t : Int} (ht : M t = none) : ent t = none := by
  have h1 := h.some' t
  rw [ht] at h1
  simpa using h1
theorem EntsF.bne {B : Nat} {w : World} {b n : Nat} {M : AtM} {ent : Int → Option (Nat × Nat)} (h : EntsF B w b n M ent) {p q : Nat} {a : Att} (k : AttAt w p q a) : b ≠ p ∧ b ≠ q := by
  constructor
  · rintro rfl; exact h.map.not_cells k.blk
  · rintro rfl
    obtain ⟨cs, hc⟩ := LAt.blk k.log
    exact h.map.not_cells hc
/-- one attempt is another one -/
theorem EntsF.turn {B : Nat} {w w' : World} {b n : Nat} {M : AtM} {ent : Int → Option (Nat × Nat)} (h : EntsF B w b n M ent) {t : Int} {a a' : Att} {p q : Nat} (ht : M t = some a) (he : ent t = some (p, q)) (o : Only (fun k => k = p ∨ k = q) w w') (ha : AttAt w' p q a') : Ents B w' b n (updA M t a') := by
  obtain ⟨hk, hp, hq⟩ := h.at' t _ a he ht
  have hb := h.bne hk
  refine ⟨ent, h.map.only o (fun e => e.elim hb.1 hb.2), fun s => ?_, fun s e c h1 h2 => ?_, h.inj, h.lo⟩
  · unfold updA
    split
    · rename_i hs; subst hs; rw [he]; rfl
    · exact h.some' s
  · unfold updA at h2
    split at h2
    · rename_i hs
      subst hs
      injection h2 with h2
      subst h2
      rw [he] at h1
      injection h1 with h1
      subst h1
      exact ⟨ha, hp, hq⟩
    · rename_i hs
      obtain ⟨k2, hp2, hq2⟩ := h.at' s e c h1 h2
      have hi := h.inj s t e _ h1 he hs
      exact ⟨k2.strange o hk.odd (fun e => e.elim hi.1 (k2.ne hk)) (fun e => e.elim (fun e => (hk.ne k2) e.symm) hi.2), hp2, hq2⟩
/-- a new one -/
theorem EntsF.more {B : Nat} {w w' : World} {b n : Nat} {M : AtM} {ent : Int → Option (Nat × Nat)} (h : EntsF B w b n M ent) {t : Int} {a : Att} {p q : Nat} (ht : M t = none) (hm : MapIs Try.prog 3 w' b (n + 1) (updM (fun t => (ent t).map fun e => ptr e.1) t (some (ptr p)))) (o : Only (fun k => k = b) w w') (ha : AttAt w' p q a) (hp : B ≤ p) (hq : B ≤ q) (hno : ∀ s e c, ent s = some e → M s = some c → e.1 ≠ p ∧ e.2 ≠ q) : Ents B w' b (n + 1) (updA M t a) := by
  have hS : ∀ {p q : Nat} {c : Att}, AttAt w p q c → ¬ p = b ∧ ¬ q = b := fun k => ⟨fun e => (h.bne k).1 e.symm, fun e => (h.bne k).2 e.symm⟩
  have hstr : ∀ k cs t fr, w.heap[k]? = some (.cells cs t fr) → ¬ (k = b) := fun k cs t fr hk e => by
    subst e
    exact h.map.not_cells hk
  refine ⟨fun s => if s = t then some (p, q) else ent s, ?_, fun s => ?_, fun s e c h1 h2 => ?_, fun s r e f h1 h2 hne => ?_, h.lo⟩
  · refine hm.congr fun s _ => ?_
    unfold updM
    split <;> rfl
  · unfold updA
    split
    · rfl
    · exact h.some' s
  · unfold updA at h2
    split at h2
    · rename_i hs
      rw [if_pos hs] at h1
      injection h1 with h1
      injection h2 with h2
      subst h1 h2
      exact ⟨ha, hp, hq⟩
    · rename_i hs
      rw [if_neg hs] at h1
      obtain ⟨k2, hp2, hq2⟩ := h.at' s e c h1 h2
      exact ⟨k2.apart o hstr, hp2, hq2⟩
  · have hM : ∀ s e, ent s = some e → ∃ c, M s = some c := fun s e he => by
      have := h.some' s
      rw [he] at this
      exact Option.isSome_iff_exists.1 this.symm
    by_cases hs : s = t
    · rw [if_pos hs] at h1
      injection h1 with h1
      subst h1
      rw [if_neg (fun e => hne (by rw [hs, e]))] at h2
      obtain ⟨c, hc⟩ := hM r f h2
      have := hno r f c h2 hc
      exact ⟨fun e => this.1 e.symm, fun e => this.2 e.symm⟩
    · rw [if_neg hs] at h1
      by_cases hr : r = t
      · rw [if_pos hr] at h2
        injection h2 with h2
        subst h2
        obtain ⟨c, hc⟩ := hM s e h1
        exact hno s e c h1 hc
      · rw [if_neg hr] at h2
        exact h.inj s r e f h1 h2 hne
end Go.Proofs.Ytfpiecnbnoinnaa.His
