/- The real side: whether events and a heap are right. -/
import Derived.Test.YtganmdbhmihjpaaGreatMgf
namespace Go.Proofs.YtganmdbhmihjpaaGreat.Opa
open Go.RowKit Go.Proofs.YtganmdbhmihjpaaGreat.Wri Go.Proofs.YtganmdbhmihjpaaGreat.His
set_option linter.unusedSimpArgs false
set_option linter.unusedVariables false
set_option maxRecDepth 50000

def U64 (v : Int) : Prop := 0 ≤ v ∧ v < 18446744073709551616
/-- some values -/
def ValsIn (w : World) (a : Option Addr) (n : Nat) (vs : List Int) : Prop :=
  vs.length = n ∧ (n = 0 ∨ ∃ b off, a = some ⟨b, off, none⟩ ∧ ∀ i, i < n → w.cell? ⟨b, off + i, none⟩ = some (.int .u64 (vs.getD i 0)))
theorem ValsIn.below {w w' : World} {a : Option Addr} {n : Nat} {vs : List Int} (h : ValsIn w a n vs) (l : Below w.heap.size w w') : ValsIn w' a n vs :=
  ⟨h.1, h.2.imp id fun ⟨b, off, e, hc⟩ => ⟨b, off, e, fun i hi => bkeep l (hc i hi)⟩⟩
theorem form1_any (w : World) (v : Int) (h : U64 v) : Calls Tryz.prog 29 #[.int .u64 v] w fun e w' => e = .returned (.bool (!rightVal v)) ∧ w = w' := by
  have HV := Lib.hid (vRight_any w v h)
  clear h
  go_enter Tryz.func29, Tryz.ntmps29
  go_wp2_with fail
  refine HV.out.mono ?_
  rintro e w1 ⟨rfl, rfl⟩
  go_wp2_with fail
  go_ret
  exact ⟨rfl, rfl⟩
def heapR (vs : List Int) : Bool := vs.all rightVal
set_option maxHeartbeats 1600000 in
theorem idxV_any (w : World) (a : Option Addr) (n c : Nat) (vs : List Int) (h : ValsIn w a n vs) (hu : ∀ v ∈ vs, U64 v) (hn : n ≤ 1000000) :
    Calls Tryz.prog 54 #[.slice a n c, .func (.func 29) #[] #[]] w fun e w' => ∃ i : Int, e = .returned (.int .i64 i) ∧ decide (0 ≤ i) = !heapR vs ∧ w = w' := by
  have H := Lib.hid h; have HL := Lib.hid h.1; have HU := Lib.hid hu
  have hcf : ∀ args W, (callFunc 29 args).run Tryz.prog W = .ok (.enter 29 args) W := fun args W => by kernel_rfl
  clear h hu
  go_enter Tryz.func54, Tryz.ntmps54
  go_wp2_with fail
  go_loopw [8] (fun i wr => ∃ k : Nat, i = .int .i64 k ∧ k ≤ n ∧ (∀ t ∈ vs.take k, rightVal t = true) ∧ w = wr) (fun i _ => n - (intOf i).toNat)
  case atStart => exact ⟨0, rfl, Nat.zero_le _, by simp, rfl⟩
  case round =>
    obtain ⟨k, rfl, hk, hno, rfl⟩ := hrel
    by_cases hlt : k < n
    · obtain ⟨b, off, rfl, hc⟩ := H.out.2.resolve_left (by omega)
      have c0 := hc k hlt
      have hT := take_snoc vs k (by rw [HL.out]; exact hlt)
      have HT := Lib.hid hT; have HNO := Lib.hid hno
      have hw1 : IntKind.i64.wrap ((k : Int) + 1) = (k : Int) + 1 := by rw [IntKind.wrap_i64]; omega
      have hm : vs.getD k 0 ∈ vs := by
        rw [List.getD_eq_getElem?_getD, List.getElem?_eq_getElem (by rw [HL.out]; exact hlt)]
        exact List.getElem_mem _
      clear hc hT hno
      obtain ⟨t, ht⟩ : ∃ t, vs.getD k 0 = t := ⟨_, rfl⟩
      rw [ht] at c0 HT hm
      have hC := form1_any w t (HU.out t hm)
      clear hm
      have HGT := Lib.hid ht
      clear ht
      cases hd : rightVal t with
      | false =>
        rw [hd] at hC
        have HC := Lib.hid hC; have HD := Lib.hid hd
        clear hC
        have hfin : heapR vs = false := by
          unfold heapR
          cases h : vs.all rightVal with
          | false => rfl
          | true =>
            have := List.all_eq_true.1 h t (by rw [← HGT.out, List.getD_eq_getElem?_getD, List.getElem?_eq_getElem (by rw [HL.out]; exact hlt)]; exact List.getElem_mem _)
            rw [hd] at this
            cases this
        have HF := Lib.hid hfin
        clear hd hfin
        go_wp2_with fail
        refine HC.out.mono ?_
        rintro e w1 ⟨rfl, rfl⟩
        go_wp2_with fail
        go_ret
        exact ⟨k, rfl, by rw [HF.out]; simp, rfl⟩
      | true =>
        rw [hd] at hC
        have HC := Lib.hid hC
        have HN2 := Lib.hid (show ∀ s ∈ vs.take (k + 1), rightVal s = true from fun s hs => by
          rw [HT.out, List.mem_append, List.mem_singleton] at hs
          rcases hs with hs | rfl
          · exact HNO.out s hs
          · exact hd)
        clear hC hd
        go_wp2_with fail
        refine HC.out.mono ?_
        rintro e w1 ⟨rfl, rfl⟩
        go_wp2_with fail
        exact ⟨⟨k + 1, by go_num, by omega, HN2.out, by simp⟩, by simp [intOf]; omega⟩
    · obtain rfl : k = n := by omega
      rw [List.take_of_length_le (by rw [HL.out]; exact Nat.le_refl _)] at hno
      have HNO := Lib.hid (show heapR vs = true from List.all_eq_true.2 hno)
      clear hno
      go_wp2_with fail
      go_ret
      exact ⟨-1, rfl, by rw [HNO.out]; rfl, rfl⟩
theorem contF_any (w : World) (a : Option Addr) (n c : Nat) (vs : List Int) (h : ValsIn w a n vs) (hu : ∀ v ∈ vs, U64 v) (hn : n ≤ 1000000) :
    Calls Tryz.prog 32 #[.slice a n c, .func (.func 29) #[] #[]] w fun e w' => e = .returned (.bool (!heapR vs)) ∧ w = w' := by
  have HI := Lib.hid (idxV_any w a n c vs h hu hn)
  clear h hu
  go_enter Tryz.func32, Tryz.ntmps32
  go_wp2_with fail
  refine HI.out.mono ?_
  rintro e w1 ⟨i, rfl, hi, rfl⟩
  have HIJ := Lib.hid hi
  clear hi
  go_wp2_with fail
  go_ret
  rw [← HIJ.out]
  exact ⟨rfl, rfl⟩
def formE (l : List Ev) (vs : List Int) : Int := if goodL l && decide (vs.length ≤ 12) && heapR vs then 0 else 3
set_option maxHeartbeats 1600000 in
theorem form_any (w : World) (p : Option Addr) (n c : Nat) (l : List Ev) (h : EvsIn w p n l) (hok : EvsOk l) (hn : n ≤ 400)
    (a : Option Addr) (m d : Nat) (vs : List Int) (hv : ValsIn w a m vs) (hu : ∀ v ∈ vs, U64 v) (hm : m ≤ 1000000) :
    Calls Tryz.prog 17 #[.slice p n c, .slice a m d] w fun e w' => e = .returned (.int .i64 (formE l vs)) ∧ Below w.heap.size w w' := by
  have HR := Lib.hid (right_any w p n c l h hok hn)
  have HV := Lib.hid hv; have HU := Lib.hid hu
  have HE := Lib.hid (show formE l vs = if goodL l && decide (m ≤ 12) && heapR vs then 0 else 3 by unfold formE; rw [hv.1])
  obtain ⟨r, hr⟩ : ∃ r, formE l vs = r := ⟨_, rfl⟩
  rw [hr]
  have HRR := Lib.hid (hr.symm.trans HE.out)
  clear h hok hv hu hr HE
  go_enter Tryz.func17, Tryz.ntmps17
  go_wp2_with fail
  refine HR.out.mono ?_
  rintro e w1 ⟨rfl, l1⟩
  have HV1 := Lib.hid (HV.out.below l1); have L1 := Lib.hid l1
  clear l1
  cases hg : goodL l with
  | false =>
    have hx : r = 3 := by rw [HRR.out, hg]; rfl
    subst hx
    clear hg
    go_wp2_with fail
    go_ret
    exact ⟨rfl, L1.out⟩
  | true =>
    by_cases h12 : m ≤ 12
    · have d12 : decide ((12 : Int) < m) = false := by simp; omega
      have d12' : decide (m ≤ 12) = true := by simpa using h12
      have HC := Lib.hid (contF_any w1 a m d vs HV1.out HU.out hm)
      cases hr : heapR vs with
      | false =>
        have hx : r = 3 := by rw [HRR.out, hr, Bool.and_false]; rfl
        rw [hr] at HC
        subst hx
        clear hg hr d12'
        go_wp2_with fail
        refine HC.out.mono ?_
        rintro e w2 ⟨rfl, rfl⟩
        go_wp2_with fail
        go_ret
        exact ⟨rfl, L1.out⟩
      | true =>
        have hx : r = 0 := by rw [HRR.out, hr, hg, d12']; rfl
        rw [hr] at HC
        subst hx
        clear hg hr d12'
        go_wp2_with fail
        refine HC.out.mono ?_
        rintro e w2 ⟨rfl, rfl⟩
        go_wp2_with fail
        go_ret
        exact ⟨rfl, L1.out⟩
    · have d12 : decide ((12 : Int) < m) = true := by simp; omega
      have d12' : decide (m ≤ 12) = false := by simpa using h12
      have hx : r = 3 := by rw [HRR.out, d12', Bool.and_false]; rfl
      subst hx
      clear hg d12'
      go_wp2_with fail
      go_ret
      exact ⟨rfl, L1.out⟩
end Go.Proofs.YtganmdbhmihjpaaGreat.Opa
