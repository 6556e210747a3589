/- A step, an ask, a beginning, over what stays true. -/
import Derived.Test.YtgjemjogncnbnaaTadW
import Derived.Test.YtgjemjogncnbnaaTadQ
import Derived.Test.YtgjemjogncnbnaaTadS
import Derived.Test.YtgjemjogncnbnaaTadU
import Derived.Test.YtgjemjogncnbnaaTadV
namespace Go.Proofs.Ytgjemjogncnbnaa.Tad
open Go.RowKit
set_option linter.unusedSimpArgs false
set_option linter.unusedVariables false
set_option maxRecDepth 50000

/-- what the law does behind a step: t's place, what was told, what is done -/
inductive Out (a g : Int → Nat) (done : Nat) (t : Int) (d : Bool) (v : Int) (en : Bool) (rs : Int) : (Int → Nat) → (Int → Nat) → Nat → Prop
  | com (he : en = true) (hr : rs = 0) : Out a g done t d v en rs (updN a t 0) g (done + 1)
  | cut (he : en = true) (hr : rs = 1) : Out a g done t d v en rs (updN a t 0) g done
  | got (s : Nat) (he : en = false) (hd : d = true) (ha : a t = 1) (hv : v = (fI s : Nat)) : Out a g done t d v en rs a (updN g t s) done
  | go (he : en = false) (hd : d = false ∨ a t ≠ 1) : Out a g done t d v en rs a g done
theorem WPost.r {lo : Nat} {w w' : World} {eb : Nat} {B : Bk} {E' : Eng} {R : Value} {e : Ending} (h : WPost lo w eb B E' R e w') : RPost lo w eb E' R e w' := ⟨h.1, ⟨_, h.2.1⟩, h.2.2⟩
theorem fI_in {n : Nat} (h : n ≤ 155) : 0 ≤ ((fI n : Nat) : Int) ∧ ((fI n : Nat) : Int) < 18446744073709551616 := by
  have := fI_u64 n (by omega)
  omega
section
variable {lo : Nat} {w : World} {eb : Nat} {B : Bk} {E : Eng} {a g : Int → Nat} {done i : Nat}
def StepG (w : World) (lo eb : Nat) (a g : Int → Nat) (done i : Nat) (t : Int) : Prop :=
  ∃ (E' : Eng) (d : Bool) (v : Int) (bb : Bool) (o : Int) (en : Bool) (rs er : Int) (a' g' : Int → Nat) (done' : Nat),
    Calls Try.prog 6 #[ptr eb, .int .i64 t] w (RPost lo w eb E' (reply d v bb o en rs er)) ∧ Good E' a' g' done' (i + 1) ∧ Out a g done t d v en rs a' g' done'
theorem step_good (h : EngAt lo w eb B E) (hlo : lo ≤ w.heap.size) (G : Good E a g done i) (hi : i ≤ 150) (t : Int) (t0 : 0 ≤ t) (t3 : t < 3) {x : T} (hx : E.th t = some x) (hk : ¬ x.kd = 0) : StepG w lo eb a g done i t := by
  obtain ⟨⟨n, hnum, hn⟩, s, hsn, hsl, hp⟩ := G.th t x t0 t3 hx
  have hL := G.lk.bounds
  have hdi := G.di; have h64 := G.n64; have hyn := G.yn; have hmi := G.mi
  have hmm : E.m ≤ 1000000 := by omega
  have hs155 : s ≤ 155 := by omega
  have lW : ∀ {W : World}, Below w.heap.size w W → lo ≤ W.heap.size := fun l => Nat.le_trans hlo l.size
  have keepA : ∀ r, r ≠ t → a r = a r := fun _ _ => rfl
  have keepG : ∀ r, r ≠ t → g r = g r := fun _ _ => rfl
  have hN : ∃ k : Nat, x.num = (k : Int) ∧ k < E.n := ⟨n, hnum, hn⟩
  cases hp with
  | new ha hk0 he hf hm => exact absurd hk0 hk
  | got ha hk0 he hf hm hg => exact absurd hk0 hk
  | put ha hk0 he hf hm => exact absurd hk0 hk
  | read ha hk1 he hf hm st =>
    cases st with
    | z hat =>
      obtain ⟨v, hv, hh, hvs⟩ := G.lk.h
      exact ⟨_, _, _, _, _, _, _, _, _, _, _, step_read h t t0 t3 hx hk1 (by omega) hf (fun W l => (read0_any (h.below l) t hx hat).mono fun e w' hp => hp.r),
        G.set hm (Nat.le_succ_of_le hmi) (y := { x with val := E.h, at_ := 1 }) ⟨hN, s, hsn, hsl, .read ha hk1 he hf hm (.one rfl v (by omega) hh (hvs s))⟩ keepA keepG (G.gi t), .go rfl (.inl rfl)⟩
    | one hat v hv hval hvs =>
      by_cases hc : E.lk.cnt = x.snap
      · have e : v = s := hvs (by omega)
        subst e
        refine ⟨_, _, _, _, _, _, _, _, _, _, _, step_read h t t0 t3 hx hk1 (by omega) hf (fun W l => read1_ok (h.below l) (lW l) hmm t hx hat (by simpa using hc) he (by rw [hval]; exact fI_in hv) (by rw [hval]; exact fI_right v (by omega))),
          G.set hm (Nat.succ_le_succ hmi) (y := { x with es := [(0, x.val, 0)], kd := 0, av := 0 }) (a' := a) (g' := updN g t v) ⟨hN, v, hsn, hsl, .got ha rfl (by rw [hval]) hf hm (updN_same _ _ _)⟩ keepA (fun r hr => updN_ne _ _ hr) (by rw [updN_same]; exact hv), .got v rfl rfl ha hval⟩
      · exact ⟨_, _, _, _, _, _, _, _, _, _, _, step_read h t t0 t3 hx hk1 (by omega) hf (fun W l => (read1_no (h.below l) t hx hat (by simpa using hc)).mono fun e w' hp => hp.r),
          G.set hm (Nat.le_succ_of_le hmi) (y := { x with at_ := 4, back := 0 }) ⟨hN, s, hsn, hsl, .read ha hk1 he hf hm (.la rfl rfl)⟩ keepA keepG (G.gi t), .go rfl (.inl rfl)⟩
    | la hat hb =>
      cases ho : E.lk.own with
      | some o =>
        have hG := G.set hm (Nat.le_succ_of_le hmi) (y := x) (a' := a) (g' := g) ⟨hN, s, hsn, hsl, .read ha hk1 he hf hm (.la hat hb)⟩ keepA keepG (G.gi t)
        have e : updT E.th t (some x) = E.th := by
          funext r
          unfold updT
          split
          · rename_i e; rw [e, hx]
          · rfl
        rw [e] at hG
        exact ⟨_, _, _, _, _, _, _, _, _, _, _, step_again h t t0 t3 hx hk (by omega) (fun W l => (again4_busy (h.below l) t hx hat ho).mono fun e w' hp => hp.r), hG, .go rfl (.inl rfl)⟩
      | none =>
        have hc : ∃ u : Nat, E.lk.cnt = 2 * (u : Int) := by
          cases G.lk with
          | free _ hc _ => exact ⟨done, hc⟩
          | held o x hoo => rw [ho] at hoo; cases hoo
        obtain ⟨u, hu⟩ := hc
        exact ⟨_, _, _, _, _, _, _, _, _, _, _, step_again h t t0 t3 hx hk (by omega) (fun W l => (again4_free (h.below l) t hx hat ho).mono fun e w' hp => hp.r),
          G.set hm (Nat.le_succ_of_le hmi) (y := { x with seen := E.lk.cnt, at_ := 5, next := 0 }) ⟨hN, s, hsn, hsl, .read ha hk1 he hf hm (.lb rfl hb rfl u hu (by omega))⟩ keepA keepG (G.gi t), .go rfl (.inl rfl)⟩
    | lb hat hb hn u hu hl =>
      exact ⟨_, _, _, _, _, _, _, _, _, _, _, step_again h t t0 t3 hx hk (by omega) (fun W l => (again5_end (h.below l) t hx hat (.inl he) (by rw [he]; exact hn)).mono fun e w' hp => hp.r),
        G.set hm (Nat.le_succ_of_le hmi) (y := { x with at_ := 6 }) ⟨hN, s, hsn, hsl, .read ha hk1 he hf hm (.lc rfl hb u hu hl)⟩ keepA keepG (G.gi t), .go rfl (.inl rfl)⟩
    | lc hat hb u hu hl =>
      by_cases hc : E.lk.cnt = x.seen
      · exact ⟨_, _, _, _, _, _, _, _, _, _, _, step_again h t t0 t3 hx hk (by omega) (fun W l => (again6_go (h.below l) t hx hat (by simpa using hc) (by omega) (by omega) hnum hn (by omega)).mono fun e w' hp => hp.r),
          G.set hm (Nat.le_succ_of_le hmi) (y := { x with at_ := x.back, snap := x.seen }) ⟨hN, u, hu, hl, .read ha hk1 he hf hm (.z hb)⟩ keepA keepG (G.gi t), .go rfl (.inl rfl)⟩
      · exact ⟨_, _, _, _, _, _, _, _, _, _, _, step_again h t t0 t3 hx hk (by omega) (fun W l => (again6_stay (h.below l) t hx hat (by simpa using hc)).mono fun e w' hp => hp.r),
          G.set hm (Nat.le_succ_of_le hmi) (y := { x with at_ := 4 }) ⟨hN, s, hsn, hsl, .read ha hk1 he hf hm (.la rfl hb)⟩ keepA keepG (G.gi t), .go rfl (.inl rfl)⟩
  | turn ha hk2 hat he hf hv hm =>
    refine ⟨_, _, _, _, _, _, _, _, _, _, _, step_turn h t t0 t3 hx hk2 (by omega) (fun W l => turn_any (h.below l) (lW l) hmm t hx hk2 hf (by rw [hv]; exact fI_in (by omega)) (by rw [hv]; exact fI_right _ (by omega))),
      G.set hm (Nat.succ_le_succ hmi) (y := { x with fs := [[(0, x.av)]], kd := 0, av := 0 }) (a' := a) (g' := g) ⟨hN, s, hsn, hsl, .put ha rfl he (by rw [hv]) hm⟩ keepA keepG (G.gi t), .go rfl (.inr (by rw [ha]; decide))⟩
  | held ha hk6 hf hm hc st =>
    rcases st with ⟨hat, hnx⟩ | hat
    · exact ⟨_, _, _, _, _, _, _, _, _, _, _, step_goOn h t t0 t3 hx hk6 (by omega) (fun W l => (go2_any (h.below l) t hx hat hf hnx).mono fun e w' hp => hp.r),
        G.write t0 t3 hx hm hsn hc hk6 hf ha, .go rfl (.inl rfl)⟩
    · have hG := G.free hm hx hat (m' := E.m + 1) (Nat.succ_le_succ hmi)
      rw [show (⟨none, E.lk.cnt + 1⟩ : Seq.St) = E.lk.unlockSt t from (if_pos hm).symm] at hG
      exact ⟨_, _, _, _, _, _, _, _, _, _, _, step_goOn h t t0 t3 hx hk6 (by omega) (fun W l => go3_any (h.below l) (lW l) hmm t t0 t3 hx hat hf), hG, .com rfl rfl⟩
  | com ha hk6 he hf hm st =>
    cases st with
    | z hat =>
      exact ⟨_, _, _, _, _, _, _, _, _, _, _, step_goOn h t t0 t3 hx hk6 (by omega) (fun W l => go0_any (h.below l) (lW l) hmm t hx hat hf),
        G.set hm (Nat.succ_le_succ hmi) (y := { x with at_ := 1 }) ⟨hN, s, hsn, hsl, .com ha hk6 he hf hm (.one rfl)⟩ keepA keepG (G.gi t), .go rfl (.inl rfl)⟩
    | one hat =>
      by_cases ho : E.lk.own = none
      · by_cases hc : E.lk.cnt = x.snap
        · have hte : E.lk.tryE t x.snap = 0 := by
            unfold Seq.St.tryE
            rw [if_neg (by omega), if_neg (by rw [ho]; simp), if_neg (by simpa using hc), if_neg (by omega)]
          have hG := G.take t0 t3 hx ho hsn (by omega) hk6 hf ha
          rw [show (⟨some t, E.lk.cnt + 1⟩ : Seq.St) = E.lk.trySt t x.snap from (if_pos hte).symm] at hG
          exact ⟨_, _, _, _, _, _, _, _, _, _, _, step_goOn h t t0 t3 hx hk6 (by omega) (fun W l => (go1_ok (h.below l) t hx hat hf hte (by omega) (by omega) hnum hn (by omega)).mono fun e w' hp => hp.r), hG, .go rfl (.inl rfl)⟩
        · have hte : E.lk.tryE t x.snap = 8 := by
            unfold Seq.St.tryE
            rw [if_neg (by omega), if_neg (by rw [ho]; simp), if_pos (by simpa using hc)]
          exact ⟨_, _, _, _, _, _, _, _, _, _, _, step_goOn h t t0 t3 hx hk6 (by omega) (fun W l => (go1_no (h.below l) t hx hat hf (.inr hte)).mono fun e w' hp => hp.r),
            G.set hm (Nat.le_succ_of_le hmi) (y := { x with at_ := 4, back := 1 }) ⟨hN, s, hsn, hsl, .com ha hk6 he hf hm (.la rfl rfl)⟩ keepA keepG (G.gi t), .go rfl (.inl rfl)⟩
      · have hte : E.lk.tryE t x.snap = 7 := by
          unfold Seq.St.tryE
          rw [if_neg (by omega), if_pos (by cases h : E.lk.own with | none => exact absurd h ho | some _ => rfl)]
        exact ⟨_, _, _, _, _, _, _, _, _, _, _, step_goOn h t t0 t3 hx hk6 (by omega) (fun W l => (go1_no (h.below l) t hx hat hf (.inl hte)).mono fun e w' hp => hp.r),
          G.set hm (Nat.le_succ_of_le hmi) (y := { x with at_ := 4, back := 1 }) ⟨hN, s, hsn, hsl, .com ha hk6 he hf hm (.la rfl rfl)⟩ keepA keepG (G.gi t), .go rfl (.inl rfl)⟩
    | la hat hb =>
      cases ho : E.lk.own with
      | some o =>
        have hG := G.set hm (Nat.le_succ_of_le hmi) (y := x) (a' := a) (g' := g) ⟨hN, s, hsn, hsl, .com ha hk6 he hf hm (.la hat hb)⟩ keepA keepG (G.gi t)
        have e : updT E.th t (some x) = E.th := by
          funext r
          unfold updT
          split
          · rename_i e; rw [e, hx]
          · rfl
        rw [e] at hG
        exact ⟨_, _, _, _, _, _, _, _, _, _, _, step_again h t t0 t3 hx hk (by omega) (fun W l => (again4_busy (h.below l) t hx hat ho).mono fun e w' hp => hp.r), hG, .go rfl (.inl rfl)⟩
      | none =>
        have hc : ∃ u : Nat, E.lk.cnt = 2 * (u : Int) := by
          cases G.lk with
          | free _ hc _ => exact ⟨done, hc⟩
          | held o x hoo => rw [ho] at hoo; cases hoo
        obtain ⟨u, hu⟩ := hc
        exact ⟨_, _, _, _, _, _, _, _, _, _, _, step_again h t t0 t3 hx hk (by omega) (fun W l => (again4_free (h.below l) t hx hat ho).mono fun e w' hp => hp.r),
          G.set hm (Nat.le_succ_of_le hmi) (y := { x with seen := E.lk.cnt, at_ := 5, next := 0 }) ⟨hN, s, hsn, hsl, .com ha hk6 he hf hm (.lb0 rfl hb rfl u hu (by omega))⟩ keepA keepG (G.gi t), .go rfl (.inl rfl)⟩
    | lb0 hat hb hnx u hu hl =>
      obtain ⟨v, hv, hh, hvs⟩ := G.lk.h
      have b1 := fI_in hs155
      have b2 := fI_in (n := v) (by omega)
      by_cases e : v = s
      · subst e
        exact ⟨_, _, _, _, _, _, _, _, _, _, _, step_again h t t0 t3 hx hk (by omega) (fun W l => (again5_same (h.below l) t hx hat b1.1 b1.2 (fI_right v (by omega)) he hnx hh).mono fun e w' hp => hp.r),
          G.set hm (Nat.le_succ_of_le hmi) (y := { x with next := 1 }) ⟨hN, v, hsn, hsl, .com ha hk6 he hf hm (.lb1 hat hb rfl u hu hl fun hc => (hvs u hc).symm)⟩ keepA keepG (G.gi t), .go rfl (.inl rfl)⟩
      · exact ⟨_, _, _, _, _, _, _, _, _, _, _, step_again h t t0 t3 hx hk (by omega) (fun W l => again5_diff (h.below l) (lW l) hmm t t0 t3 hx hat b1.1 b1.2 (fI_right s (by omega)) he hnx hh b2.1 b2.2 (fI_right v (by omega)) (by
            have : ¬ ((fI v : Nat) : Int) = ((fI s : Nat) : Int) := fun hh => e (fI_inj v (by omega) s (by omega) (by omega))
            simpa using this) hm hnum (by rw [hyn]; exact hn) (by omega)),
          G.del hm (Nat.succ_le_succ hmi) (a' := updN a t 0) (fun r hr => updN_ne _ _ hr), .cut rfl rfl⟩
    | lb1 hat hb hnx u hu hl hs =>
      exact ⟨_, _, _, _, _, _, _, _, _, _, _, step_again h t t0 t3 hx hk (by omega) (fun W l => (again5_end (h.below l) t hx hat (.inr ⟨_, (fI_in hs155).1, (fI_in hs155).2, fI_right s (by omega), he⟩) (by rw [he]; exact hnx)).mono fun e w' hp => hp.r),
        G.set hm (Nat.le_succ_of_le hmi) (y := { x with at_ := 6 }) ⟨hN, s, hsn, hsl, .com ha hk6 he hf hm (.lc rfl hb u hu hl hs)⟩ keepA keepG (G.gi t), .go rfl (.inl rfl)⟩
    | lc hat hb u hu hl hs =>
      by_cases hc : E.lk.cnt = x.seen
      · have e : u = s := hs (by omega)
        subst e
        exact ⟨_, _, _, _, _, _, _, _, _, _, _, step_again h t t0 t3 hx hk (by omega) (fun W l => (again6_go (h.below l) t hx hat (by simpa using hc) (by omega) (by omega) hnum hn (by omega)).mono fun e w' hp => hp.r),
          G.set hm (Nat.le_succ_of_le hmi) (y := { x with at_ := x.back, snap := x.seen }) ⟨hN, u, hu, hl, .com ha hk6 he hf hm (.one hb)⟩ keepA keepG (G.gi t), .go rfl (.inl rfl)⟩
      · exact ⟨_, _, _, _, _, _, _, _, _, _, _, step_again h t t0 t3 hx hk (by omega) (fun W l => (again6_stay (h.below l) t hx hat (by simpa using hc)).mono fun e w' hp => hp.r),
          G.set hm (Nat.le_succ_of_le hmi) (y := { x with at_ := 4 }) ⟨hN, s, hsn, hsl, .com ha hk6 he hf hm (.la rfl hb)⟩ keepA keepG (G.gi t), .go rfl (.inl rfl)⟩
end
end Go.Proofs.Ytgjemjogncnbnaa.Tad
