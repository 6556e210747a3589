/- An attempt that is alone: it is legal just if it read what stood in the heap. -/
import Derived.Test.YtganmdbhmihjpaaOpaT
import Derived.Test.YtganmdbhmihjpaaOpaV
namespace Go.Proofs.Ytganmdbhmihjpaa.Opa
open Go.RowKit Go.Proofs.Ytganmdbhmihjpaa.Wri Go.Proofs.Ytganmdbhmihjpaa.His Go.ChangeShapes Go.WideShapes Go.ChangeAt
set_option linter.unusedSimpArgs false
set_option linter.unusedVariables false
set_option maxRecDepth 50000

def canonL (v : Int) : Int := if Wri.rightVal v then v else 9221120237041090560
theorem canon_right (v : Int) : Wri.rightVal (canonL v) = true := by
  unfold canonL
  split
  · assumption
  · decide
theorem canon_u64 {v : Int} (h : U64 v) : U64 (canonL v) := by
  unfold canonL
  split
  · exact h
  · unfold U64; omega
theorem rcanon_any (w : World) (v : Int) (h : U64 v) : Calls Try.prog 13 #[.int .u64 v] w fun e w' => e = .returned (.int .u64 (canonL v)) ∧ w = w' := by
  have HV := Lib.hid (rRight_any w v h)
  obtain ⟨r, hr⟩ : ∃ r, canonL v = r := ⟨_, rfl⟩
  rw [hr]
  have HR := Lib.hid hr
  clear h hr
  cases hv : Wri.rightVal v with
  | true =>
    have hx : r = v := by rw [← HR.out]; unfold canonL; rw [if_pos hv]
    subst hx
    rw [hv] at HV
    clear hv
    go_enter Try.func13, Try.ntmps13
    go_wp2_with fail
    refine HV.out.mono ?_
    rintro e w1 ⟨rfl, rfl⟩
    go_wp2_with fail
    go_ret
    exact ⟨rfl, rfl⟩
  | false =>
    have hx : r = 9221120237041090560 := by rw [← HR.out]; unfold canonL; rw [if_neg (by rw [hv]; decide)]
    subst hx
    rw [hv] at HV
    clear hv
    go_enter Try.func13, Try.ntmps13
    go_wp2_with fail
    refine HV.out.mono ?_
    rintro e w1 ⟨rfl, rfl⟩
    go_wp2_with fail
    go_ret
    exact ⟨rfl, rfl⟩
def O2 (t v : Int) : List Ev := [⟨1, 3, 0, 0⟩, ⟨2, 3, t, v⟩]
theorem O2_good {t v : Int} (ht : okT t) (hv : Wri.rightVal v = true) : His.Good (O2 t v) := by
  intro i x hx
  match i, hx with
  | 0, hx =>
    simp [O2] at hx
    subst hx
    exact (show (stepA (stA [] 3) ⟨1, 3, 0, 0⟩).isSome = true from by decide)
  | 1, hx =>
    simp [O2] at hx
    subst hx
    show (stepA (some ⟨[[]], false, false⟩) ⟨2, 3, t, v⟩).isSome = true
    have e : stepA (some ⟨[[]], false, false⟩) ⟨2, 3, t, v⟩ = if okT t ∧ Wri.rightVal v = true then some ⟨[[]], false, false⟩ else none := by
      unfold stepA
      simp
      rfl
    rw [e, if_pos ⟨ht, hv⟩]
    rfl
  | i + 2, hx => simp [O2] at hx
theorem O2_ok {t v : Int} (ht : okT t) (hv : U64 v) : EvsOk (O2 t v) := by
  intro x hx
  unfold U64 at hv
  simp [O2] at hx
  rcases hx with rfl | rfl <;> simp [inInt] <;> omega
theorem O2_att (t v : Int) : attL (O2 t v) = [3] := rfl
theorem O2_one (t v : Int) : oneOf (O2 t v) [] 3 = ⟨3, [(t, v)], [], true, false⟩ := by
  unfold oneOf
  have e1 : readsL (O2 t v) 3 = [(t, v)] := rfl
  have e3 : ownOk (O2 t v) 3 = true := rfl
  have e2 : allK (getL (ownL (O2 t v) 3)) 12 = [] := by
    rw [show ownL (O2 t v) 3 = [[]] from rfl]
    decide
  have e4 : stateL (O2 t v) 3 = 1 := rfl
  rw [e1, e2, e3, e4]
  rfl
/-- what Legal tells of it -/
theorem one_legal {t v : Int} {h : List Int} (ht : 0 ≤ t) (htl : t < h.length) (hl : h.length ≤ 12) (hv : Wri.rightVal v = true) (hh : ∀ x ∈ h, Wri.rightVal x = true) :
    (legalL (O2 t v) h [3] []).2.1 = if v = h.getD t.toNat 0 then 0 else 9 := by
  have hf : formE (O2 t v) h = 0 := by
    unfold formE
    rw [(goodL_iff _).2 (O2_good ⟨ht, by omega⟩ hv), show heapR h = true from List.all_eq_true.2 hh, show decide (h.length ≤ 12) = true from by simpa using hl]
    rfl
  have hc : checkE (O2 t v) h [3] [] = 0 := by
    unfold checkE
    rw [hf, O2_att, alike_perm (List.Perm.refl _) (by decide)]
    rfl
  unfold legalL
  rw [if_neg (by rw [hc]; decide), firstL, O2_one]
  rw [if_neg (by simp)]
  have hft : fitsB ⟨3, [(t, v)], [], true, false⟩ h = decide (v = h.getD t.toNat 0) := by
    unfold fitsB okP
    simp only [List.all_cons, List.all_nil, Bool.and_true]
    rw [show decide (t < (h.length : Int)) = true by simpa using htl, Bool.true_and]
    by_cases e : v = h.getD t.toNat 0
    · rw [e]; simp
    · rw [show decide (v = h.getD t.toNat 0) = false by simpa using e]
      have : (h.getD t.toNat 0 == v) = false := by simpa using fun e' => e (Eq.symm e')
      exact this
  rw [hft]
  by_cases e : v = h.getD t.toNat 0
  · rw [if_pos e, if_pos (by simpa using e)]
    rfl
  · rw [if_neg e, if_neg (by simpa using e)]
theorem O2_in {w : World} {b : Nat} {t v : Int} (h : w.heap[b]? = some (.cells (evVals (O2 t v)).toArray 40 (0, 0))) : EvsIn w (some ⟨b, 0, none⟩) 2 (O2 t v) := by
  refine ⟨rfl, .inr ⟨b, 0, rfl, fun i hi => ?_⟩⟩
  have hx : (O2 t v)[i]? = some ((O2 t v)[i]'hi) := List.getElem?_eq_getElem hi
  obtain ⟨h0, h1, h2, h3⟩ := evVals_get (O2 t v) i _ hx
  refine ⟨_, hx, ?_, ?_, ?_, ?_⟩
  all_goals
    simp only [World.cell?, h, Nat.zero_add, List.getElem?_toArray]
    assumption
theorem int3_in {w : World} {b : Nat} (h : w.heap[b]? = some (.cells #[.int .i64 3] 3 (0, 0))) : IntsIn w (some ⟨b, 0, none⟩) 1 [3] := by
  refine ⟨rfl, .inr ⟨b, 0, rfl, fun i hi => ?_⟩⟩
  rw [Nat.zero_add, blk_cell h]
  match i, hi with
  | 0, _ => rfl
end Go.Proofs.Ytganmdbhmihjpaa.Opa
