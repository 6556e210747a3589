/- The real side: Found. -/
import Derived.Test.YtganmdbhmihjpaaGreatOpaO
namespace Go.Proofs.YtganmdbhmihjpaaGreat.Opa
open Go.RowKit Go.Proofs.YtganmdbhmihjpaaGreat.Wri Go.Proofs.YtganmdbhmihjpaaGreat.His
set_option linter.unusedSimpArgs false
set_option linter.unusedVariables false
set_option maxRecDepth 50000

theorem search_any {p : Option Addr} {n c : Nat} {l : List Ev} {C : List Int} {av hv : Value} {q : Nat} (hn : n ≤ 400) (hal : (attL l).length ≤ 400) (hok : ∀ t, OneOk (oneOf l C t)) : ∀ f : Nat, SearchIs p n c l C av hv q f := by
  intro f
  induction f with
  | zero => exact search_step hn hal hok 0 fun f' e => by omega
  | succ f ih =>
    refine search_step hn hal hok (f + 1) fun f' e => ?_
    obtain rfl : f = f' := by omega
    exact ih
/-- what is looked for -/
def lookL (l : List Ev) (vs C : List Int) : Option (List Int) := searchL l (oneOf l C) (attL l) (attL l).length [] vs
def tellL : Option (List Int) → Int × List Int
  | none => (5, [])
  | some o => (0, o)
/-- what Found tells -/
def foundL (l : List Ev) (vs C : List Int) : Int × List Int :=
  if formE l vs = 3 then (3, []) else if pendE l C = 2 then (2, []) else if 6 < (attL l).length then (4, []) else tellL (lookL l vs C)
def FoundPost (w : World) (R : Int × List Int) (e : Ending) (w' : World) : Prop :=
  Below w.heap.size w w' ∧ ∃ a cc, e = .returned (.tuple #[.slice a R.2.length cc, .int .i64 R.1]) ∧ R.2.length ≤ cc ∧ IntsIn w' a R.2.length R.2
theorem FoundPost.mk {w w' : World} {R : Int × List Int} {e : Ending} (h1 : Below w.heap.size w w') (a : Option Addr) (cc : Nat) (h2 : e = .returned (.tuple #[.slice a R.2.length cc, .int .i64 R.1])) (h3 : R.2.length ≤ cc) (h4 : IntsIn w' a R.2.length R.2) : FoundPost w R e w' := ⟨h1, a, cc, h2, h3, h4⟩
set_option maxHeartbeats 6400000 in
theorem found_any {w : World} {p : Option Addr} {n c : Nat} {l : List Ev} {a : Option Addr} {m d : Nat} {vs : List Int} {a2 : Option Addr} {m2 d2 : Nat} {C : List Int} (h : Asked w p n c l a m d vs a2 m2 d2 C) :
    Calls Tryz.prog 7 #[.slice p n c, .slice a m d, .slice a2 m2 d2] w (FoundPost w (foundL l vs C)) := by
  obtain ⟨R, hR⟩ : ∃ R, foundL l vs C = R := ⟨_, rfl⟩
  rw [hR]
  have HR := Lib.hid hR; have H := Lib.hid h
  have HF := Lib.hid (form_any w p n c l h.evs h.ok h.hn a m d vs h.vals h.u64 (by have := h.hm; omega))
  clear hR h
  go_enter Tryz.func7, Tryz.ntmps7
  rcases formE_or l vs with ⟨hf, hgood, h12⟩ | hf
  · rw [hf] at HF
    have HFE := Lib.hid hf; have HGOOD := Lib.hid hgood; have H12 := Lib.hid h12
    clear hf hgood h12
    go_wp2_with fail
    refine HF.out.mono ?_
    rintro e w1 ⟨rfl, l1⟩
    have L1 := Lib.hid l1
    have hA1 := H.out.below l1
    have HPE := Lib.hid (pending_any w1 p n c l hA1.evs (by have := hA1.hn; omega) a2 m2 d2 C hA1.com hA1.hm2 hA1.hmd2)
    clear l1 hA1
    rcases pendE_or l C with hp | hp
    · have hm2 : m2 ≤ 1000000 := pend_few H.out hp
      rw [hp] at HPE
      have HP := Lib.hid hp
      clear hp
      go_wp2_with fail
      refine HPE.out.mono ?_
      rintro e w4 ⟨rfl, l4⟩
      have L4 := Lib.hid (btrans L1.out (Nat.le_refl _) l4)
      have hA4 := H.out.below L4.out
      have HB := Lib.hid (begin_any w4 p n c l hA4.evs hA4.ok hA4.hn a m d vs hA4.vals hA4.hm hA4.hz a2 m2 d2 C hA4.com hm2)
      clear hA4 l4 hm2
      go_wp2_with fail
      refine HB.out.mono ?_
      rintro e w5 ⟨q, av, hv, rfl, hG, hq, hlo, l5⟩
      have L5 := Lib.hid (btrans L4.out (Nat.le_refl _) l5)
      have hlo2 : ∀ k, hv.ownBlock = some k → w.heap.size ≤ k := fun k hk => Nat.le_trans L4.out.size (hlo k hk)
      have hG2 := game_of H.out.evs hG hlo2 L5.out
      have HLO := Lib.hid hlo2
      have HG := Lib.hid hG2
      have hal : (attL l).length ≤ 400 := by have := attL_le l; rw [H.out.evs.1] at this; have := H.out.hn; omega
      obtain ⟨xs, hxs, hX⟩ := hG2.ones
      obtain ⟨va, vc, hav, _⟩ := ones_cells hX
      rw [ones_len hxs] at hav
      subst hav
      have q1 := blk_cell hG2.obj 1
      simp only [List.getElem?_toArray, List.getElem?_cons_zero, List.getElem?_cons_succ] at q1
      have HS := Lib.hid (search_any H.out.hn hal (fun t => oneOf_ok HGOOD.out (by rw [H.out.evs.1]; have := H.out.hn; omega) C t) (attL l).length w5 vs [] none 0 0 hG2 (by have := H12.out; omega) (fun W _ => ⟨rfl, .inl rfl⟩) (Nat.le_refl _) (fun _ => ⟨rfl, rfl⟩) (Nat.zero_le _) (by simp))
      obtain ⟨F, hF⟩ : ∃ F, lookL l vs C = F := ⟨_, rfl⟩
      rw [show searchL l (oneOf l C) (attL l) (attL l).length [] vs = F from hF] at HS
      have hX2 : R = if 6 < (attL l).length then (4, []) else tellL F := by
        rw [← HR.out, ← hF]
        unfold foundL
        rw [if_neg (by rw [HFE.out]; decide), if_neg (by rw [HP.out]; decide)]
      obtain ⟨N, hN⟩ : ∃ N, (attL l).length = N := ⟨_, rfl⟩
      rw [hN] at hX2 HS HG hal q1
      have HX2 := Lib.hid hX2
      clear hG hG2 hq hlo l5 hlo2 hxs hX hX2 hF hN HB HPE HF
      by_cases h6 : 6 < N
      · have hx : R = (4, []) := by rw [HX2.out, if_pos h6]
        subst hx
        have h6' : (6 : Int) < N := by omega
        go_wp2_with fail
        refine bodyPost_ret (v := .tuple #[.slice none 0 0, .int .i64 4]) ?_ rfl ?_; (focus (simp [results, Tryz.results7, go_sem, Nat.zero_le]; done))
        exact .mk L5.out none 0 rfl (Nat.le_refl _) ⟨rfl, .inl rfl⟩
      · have hX3 : R = tellL F := by rw [HX2.out, if_neg h6]
        have HX3 := Lib.hid hX3
        have h6' : ¬ (6 : Int) < N := by omega
        clear HX2 hX3 HR
        go_wp2_with fail
        refine HS.out.mono ?_
        rintro e w6 ⟨o6, ⟨o, oa, oc, hF, rfl, hoc, hin⟩ | ⟨hF, rfl, _⟩⟩
        · subst hF
          have hx : R = (0, o) := HX3.out
          subst hx
          have L6 := Lib.hid (L5.out.trans (o6.below L5.out.size fun k hk e => by have := HLO.out k e; omega))
          have HIN := Lib.hid (And.intro hoc (hin w6 (Only.refl _ _)))
          clear hin o6 hoc
          go_wp2_with fail
          refine bodyPost_ret (v := .tuple #[.slice oa o.length oc, .int .i64 0]) ?_ rfl ?_; (focus (simp [results, Tryz.results7, go_sem, Nat.zero_le]; done))
          exact .mk L6.out oa oc rfl HIN.out.1 HIN.out.2
        · subst hF
          have hx : R = (5, []) := HX3.out
          subst hx
          have L6 := Lib.hid (L5.out.trans (o6.below L5.out.size fun k hk e => by have := HLO.out k e; omega))
          clear o6
          go_wp2_with fail
          refine bodyPost_ret (v := .tuple #[.slice none 0 0, .int .i64 5]) ?_ rfl ?_; (focus (simp [results, Tryz.results7, go_sem, Nat.zero_le]; done))
          exact .mk L6.out none 0 rfl (Nat.le_refl _) ⟨rfl, .inl rfl⟩
    · have hx : R = (2, []) := by rw [← HR.out]; unfold foundL; rw [if_neg (by rw [HFE.out]; decide), if_pos hp]
      subst hx
      rw [hp] at HPE
      clear hp
      go_wp2_with fail
      refine HPE.out.mono ?_
      rintro e w4 ⟨rfl, l4⟩
      have L4 := Lib.hid (btrans L1.out (Nat.le_refl _) l4)
      clear l4
      go_wp2_with fail
      refine bodyPost_ret (v := .tuple #[.slice none 0 0, .int .i64 2]) ?_ rfl ?_; (focus (simp [results, Tryz.results7, go_sem, Nat.zero_le]; done))
      exact .mk L4.out none 0 rfl (Nat.le_refl _) ⟨rfl, .inl rfl⟩
  · have hx : R = (3, []) := by rw [← HR.out]; unfold foundL; rw [if_pos hf]
    subst hx
    rw [hf] at HF
    clear hf
    go_wp2_with fail
    refine HF.out.mono ?_
    rintro e w1 ⟨rfl, l1⟩
    have L1 := Lib.hid l1
    clear l1
    go_wp2_with fail
    refine bodyPost_ret (v := .tuple #[.slice none 0 0, .int .i64 3]) ?_ rfl ?_; (focus (simp [results, Tryz.results7, go_sem, Nat.zero_le]; done))
    exact .mk L1.out none 0 rfl (Nat.le_refl _) ⟨rfl, .inl rfl⟩
end Go.Proofs.YtganmdbhmihjpaaGreat.Opa
