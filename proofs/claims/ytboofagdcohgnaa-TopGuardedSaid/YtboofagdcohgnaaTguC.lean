/- Go's own: Compact of a few ints that rise. -/
import Derived.Test.YtboofagdcohgnaaTguB
import Derived.Lib.SliceRun
namespace Go.Proofs.Ytboofagdcohgnaa.Tgu
open Go.RowKit
set_option linter.unusedSimpArgs false
set_option linter.unusedVariables false
set_option maxRecDepth 50000

def Strict (c : List Int) (m : Nat) : Prop := ∀ p q, p < q → q < m → c.getD p 0 < c.getD q 0
theorem zeroI (w : World) : (zeroValue 3).run Try.prog w = .ok (.int .i64 0) w := by kernel_rfl
theorem strict_one (c : List Int) : Strict c 1 := fun p q hpq hq => by omega
theorem strict_snoc {c : List Int} {k : Nat} (h0 : 0 < k) (h : Strict c k) (hlt : c.getD (k - 1) 0 < c.getD k 0) : Strict c (k + 1) := by
  intro p q hpq hq
  by_cases hqk : q = k
  · subst hqk
    by_cases hp : p = q - 1
    · rw [hp]; exact hlt
    · have := h p (q - 1) (by omega) (by omega)
      omega
  · exact h p q hpq (by omega)
theorem strict_set {c : List Int} {k : Nat} {v : Int} (hk : k < c.length) (h0 : 0 < k) (h : Strict c k) (hlt : c.getD (k - 1) 0 < v) : Strict (c.set k v) (k + 1) := by
  refine strict_snoc h0 (fun p q hpq hq => ?_) ?_
  · rw [getD_set _ _ _ _ hk, getD_set _ _ _ _ hk, if_neg (by omega), if_neg (by omega)]
    exact h p q hpq hq
  · rw [getD_set _ _ _ _ hk, getD_set _ _ _ _ hk, if_neg (by omega), if_pos rfl]
    exact hlt
theorem strict_take {c : List Int} {k : Nat} (hk : k ≤ c.length) (h : Strict c k) : Strict (c.take k) (c.take k).length := by
  have hl : (c.take k).length = k := by rw [List.length_take]; omega
  intro p q hpq hq
  rw [hl] at hq
  have hg : ∀ i, i < k → (c.take k).getD i 0 = c.getD i 0 := fun i hi => by
    rw [List.getD_eq_getElem?_getD, List.getElem?_take, if_pos hi, List.getD_eq_getElem?_getD]
  rw [hg p (by omega), hg q hq]
  exact h p q hpq hq
def CmpPost (w : World) (g cap : Nat) (ts : List Int) (e : Ending) (w' : World) : Prop :=
  ∃ c, e = .returned (.slice (some ⟨g, 0, none⟩) c.length cap) ∧ RowI w' g c.length cap c ∧ Strict c c.length ∧ (∀ x ∈ c, x ∈ ts) ∧ Only (fun k => k = g) w w'
set_option maxHeartbeats 6400000 in
theorem cmp_any (w : World) (g n cap : Nat) (c ts : List Int) (h : RowI w g n cap c) (hs : Sorted' c n) (hm : ∀ x ∈ c, x ∈ ts) (hn : n ≤ 1000) : Calls Try.prog 15 #[.slice (some ⟨g, 0, none⟩) n cap] w (CmpPost w g cap ts) := by
  have hl := h.len
  have hcap : n ≤ cap := by
    rcases h.2 with ⟨h0, _⟩ | ⟨_, _, _, h0, _, _, hc, _⟩
    · cases h0
    · injection h0 with _ _ h2; omega
  have H := Lib.hid h; have HS := Lib.hid hs; have HM := Lib.hid hm
  have HL := Lib.hid hl
  clear h hs hm
  unfold CmpPost
  by_cases h2 : n < 2
  · have h2' : (n : Int) < 2 := by omega
    go_enter Try.func15, Try.ntmps15
    go_wp2_with fail
    go_ret
    exact ⟨c, by rw [HL.out]; rfl, by rw [HL.out]; exact H.out, fun p q hpq hq => by have := HL.out; omega, HM.out, Only.refl _ _⟩
  have h2' : ¬ (n : Int) < 2 := by omega
  go_enter Try.func15, Try.ntmps15
  go_wp2_with fail
  go_loopw [3] (fun i wr => ∃ k : Nat, i = .int .i64 k ∧ 1 ≤ k ∧ k ≤ n ∧ Strict c k ∧ RowI wr g n cap c ∧ Only (fun k => k = g) w wr) (fun i _ => n - (intOf i).toNat)
  case atStart => exact ⟨1, rfl, Nat.le_refl _, by omega, strict_one c, H.out, Only.refl _ _⟩
  case round =>
    obtain ⟨k, rfl, hk1, hk, hSt, hR, hO⟩ := hrel
    have HST := Lib.hid hSt; have HR := Lib.hid hR; have HO := Lib.hid hO
    clear hSt hR hO
    by_cases hlt : k < n
    · obtain ⟨r, hr⟩ : ∃ r, k = r + 1 := ⟨k - 1, by omega⟩
      have hrn : r < n := by omega
      have e0 := HR.out.cell hlt
      have e1 := HR.out.cell hrn
      have hwq : IntKind.i64.wrap ((k : Int) - 1) = (r : Int) := by rw [IntKind.wrap_i64]; omega
      have hw1 : IntKind.i64.wrap ((k : Int) + 1) = (k : Int) + 1 := by rw [IntKind.wrap_i64]; omega
      have hlt' : (k : Int) < n := by omega
      have hrn' : (r : Int) < n := by omega
      have hcs := HS.out r k (by omega) hlt
      obtain ⟨x, hx⟩ : ∃ x, c.getD k 0 = x := ⟨_, rfl⟩
      obtain ⟨y, hy⟩ : ∃ y, c.getD r 0 = y := ⟨_, rfl⟩
      rw [hx] at e0 hcs; rw [hy] at e1 hcs
      have HXY := Lib.hid (And.intro hx hy)
      have HRK := Lib.hid hr
      clear hx hy hr
      cases hxy : (x == y)
      · have HS2 := Lib.hid (show Strict c (k + 1) from strict_snoc (by omega) HST.out (by
          rw [show k - 1 = r by have := HRK.out; omega, HXY.out.1, HXY.out.2]
          have : ¬ x = y := by simpa using hxy
          omega))
        go_wp2_with fail
        go_quiet (fail)
        go_wp2_with fail
        exact ⟨⟨k + 1, by go_num, by omega, by omega, HS2.out, HR.out.below (below_drewN (Below.refl _ _) _), HO.out.drewN _⟩, by simp [intOf]; omega⟩
      · have hxe : x = y := by simpa using hxy
        subst hxe
        have hkc : (k : Int) ≤ cap := by omega
        have hkn : (k : Int) ≤ n := by omega
        go_wp2_with fail
        go_quiet (fail)
        go_wp2_with fail
        obtain ⟨K, hK⟩ : ∃ K, K = k := ⟨k, rfl⟩
        obtain ⟨wo, rfl⟩ : ∃ wo, wo = wr := ⟨wr, rfl⟩
        have HKR := Lib.hid (show c.getD (K - 1) 0 = c.getD K 0 from by
          rw [show K - 1 = r by have := HRK.out; omega, hK, HXY.out.1, HXY.out.2])
        rw [← hK] at HST hkc hkn hlt hk1 hlt' ⊢
        clear hK e0 e1 hwq hw1 hrn' hcs HRK HXY hk
        go_loopw [3, 5] (fun s3 s5 wr => ∃ (i q : Nat) (d : List Int), s3 = .int .i64 i ∧ s5 = .int .i64 q ∧ 1 ≤ q ∧ q ≤ n - K ∧ K ≤ i ∧ i + 1 ≤ K + q ∧ Strict d i ∧ d.getD (i - 1) 0 = c.getD (K + q - 1) 0 ∧ (∀ p, K + q - 1 ≤ p → d.getD p 0 = c.getD p 0) ∧ (∀ x ∈ d, x ∈ ts) ∧ RowI wr g n cap d ∧ Only (fun k => k = g) w wr) (fun _ q _ => n - (intOf q).toNat)
        case atStart => exact ⟨K, 1, c, rfl, rfl, Nat.le_refl _, by omega, Nat.le_refl _, Nat.le_refl _, HST.out, HKR.out, fun p _ => rfl, HM.out, HR.out.below (below_drewN (Below.refl _ _) _), HO.out.drewN _⟩
        case round =>
          obtain ⟨i, q, d, rfl, rfl, hq1, hq, hKi, hiq, hSd, hdl, hdp, hMd, hRd, hOd⟩ := hrel
          have HSd := Lib.hid hSd; have HDL := Lib.hid hdl; have HDP := Lib.hid hdp; have HMd := Lib.hid hMd; have HRd := Lib.hid hRd; have HOd := Lib.hid hOd
          clear hSd hdl hdp hMd hRd hOd
          by_cases hqn : q < n - K
          · obtain ⟨r2, hr2⟩ : ∃ r2, q = r2 + 1 := ⟨q - 1, by omega⟩
            have hm : K + q < n := by omega
            have hin : i < n := by omega
            have e0 := HRd.out.cell hm
            have e1 := HRd.out.cell (show K + r2 < n by omega)
            have ei := HRd.out.cell hin
            have fi := HRd.out.free i
            rw [HDP.out (K + q) (by omega)] at e0
            rw [HDP.out (K + r2) (by omega)] at e1
            have hcs := HS.out (K + r2) (K + q) (by omega) hm
            have hwq : IntKind.i64.wrap ((q : Int) - 1) = (r2 : Int) := by rw [IntKind.wrap_i64]; omega
            have hw1 : IntKind.i64.wrap ((q : Int) + 1) = (q : Int) + 1 := by rw [IntKind.wrap_i64]; omega
            have hwi : IntKind.i64.wrap ((i : Int) + 1) = (i : Int) + 1 := by rw [IntKind.wrap_i64]; omega
            have hqn' : (q : Int) < ((n - K : Nat) : Int) := by omega
            have hr2n' : (r2 : Int) < ((n - K : Nat) : Int) := by omega
            have hr2n : r2 < n - K := by omega
            have hin' : (i : Int) < n := by omega
            obtain ⟨x2, hx⟩ : ∃ x2, c.getD (K + q) 0 = x2 := ⟨_, rfl⟩
            obtain ⟨y2, hy⟩ : ∃ y2, c.getD (K + r2) 0 = y2 := ⟨_, rfl⟩
            obtain ⟨z2, hz⟩ : ∃ z2, d.getD i 0 = z2 := ⟨_, rfl⟩
            rw [hx] at e0 hcs; rw [hy] at e1 hcs; rw [hz] at ei
            have HXY := Lib.hid (And.intro hx hy)
            have HR2 := Lib.hid hr2
            have hKr : K + q - 1 = K + r2 := by omega
            have hdl2 := HDL.out
            rw [hKr, hy] at hdl2
            have HDL2 := Lib.hid hdl2
            clear hx hy hz hr2 hKr hdl2
            cases hxy : (x2 == y2)
            · have hne : (x2 != y2) = true := by simp only [bne, hxy]; rfl
              have hdlen : i < d.length := by rw [HRd.out.len]; exact hin
              have HSN := Lib.hid (show Strict (d.set i x2) (i + 1) from strict_set hdlen (by omega) HSd.out (by
                rw [HDL2.out]
                have : ¬ x2 = y2 := by simpa using hxy
                omega))
              have HDN := Lib.hid (show (d.set i x2).getD (i + 1 - 1) 0 = c.getD (K + (q + 1) - 1) 0 from by
                rw [show i + 1 - 1 = i by omega, getD_set _ _ _ _ hdlen, if_pos rfl, show K + (q + 1) - 1 = K + q by omega, HXY.out.1])
              have HPN := Lib.hid (show ∀ p, K + (q + 1) - 1 ≤ p → (d.set i x2).getD p 0 = c.getD p 0 from fun p hp => by
                rw [getD_set _ _ _ _ hdlen, if_neg (by omega)]
                exact HDP.out p (by omega))
              have HMN := Lib.hid (show ∀ x ∈ d.set i x2, x ∈ ts from fun x hx => by
                rcases List.mem_or_eq_of_mem_set hx with hx | rfl
                · exact HMd.out x hx
                · have := HM.out _ (getD_mem (c := c) (i := K + q) (by rw [HL.out]; exact hm))
                  rwa [HXY.out.1] at this)
              go_wp2_with fail
              go_quiet (fail)
              go_wp2_with fail
              exact ⟨⟨i + 1, q + 1, d.set i x2, by go_num, by go_num, by omega, by omega, by omega, by omega, HSN.out, HDN.out, HPN.out, HMN.out, (HRd.out.below (below_drewN (Below.refl _ _) _)).set hin x2, (HOd.out.drewN _).setCell (p := ⟨g, i, none⟩) (.inr rfl) _⟩, by simp [intOf]; omega⟩
            · have hne : (x2 != y2) = false := by simp only [bne, hxy]; rfl
              have HDN := Lib.hid (show d.getD (i - 1) 0 = c.getD (K + (q + 1) - 1) 0 from by
                rw [HDL2.out, show K + (q + 1) - 1 = K + q by omega, HXY.out.1]
                have : x2 = y2 := by simpa using hxy
                exact this.symm)
              have HPN := Lib.hid (show ∀ p, K + (q + 1) - 1 ≤ p → d.getD p 0 = c.getD p 0 from fun p hp => HDP.out p (by omega))
              go_wp2_with fail
              go_quiet (fail)
              go_wp2_with fail
              exact ⟨⟨i, q + 1, d, rfl, by go_num, by omega, by omega, by omega, by omega, HSd.out, HDN.out, HPN.out, HMd.out, HRd.out.below (below_drewN (Below.refl _ _) _), HOd.out.drewN _⟩, by simp [intOf]; omega⟩
          · obtain rfl : q = n - K := by omega
            have hin : i < n := by omega
            have hcl : ∀ ty, (Builtin.clear_ #[25] ty #[.slice (some ⟨g, 0 + i, none⟩) (n - i) (cap - i)]).run Try.prog wr = .ok (.tuple #[]) (wr.setCells g (0 + i) (List.replicate (n - i) (.int .i64 0))) :=
              fun ty => Lib.run_clear_slice wr _ _ ty _ Try.underlying25 zeroI rfl rfl g (0 + i) _ _ (by omega) (fun p hp => by
                rw [Nat.zero_add, HRd.out.cell (i := i + p) (by omega)]
                rfl) (fun p hp => HRd.out.free _)
            simp only [Nat.zero_add] at hcl
            have hini : (i : Int) ≤ n := by omega
            have hic : (i : Int) ≤ cap := by omega
            go_wp2_with fail
            go_ret
            have hdl := HRd.out.len
            have htl : (d.take i).length = i := by rw [List.length_take]; omega
            have hrow := row_setCells (List.replicate (n - i) (Value.int .i64 0)) i wr _ HRd.out (by rw [List.length_replicate]; omega)
            have hshr := row_shrink hrow (i := i) (by omega)
            rw [Nat.mul_one, setL_take _ _ _ (by rw [List.length_replicate, List.length_map]; omega), ← List.map_take] at hshr
            refine ⟨d.take i, by rw [htl]; rfl, by rw [htl]; exact hshr, ?_, fun x hx => HMd.out x (List.mem_of_mem_take hx), only_setCells (S := fun k => k = g) (.inr rfl) _ _ _ HOd.out⟩
            exact strict_take (by omega) HSd.out
    · obtain rfl : k = n := by omega
      go_wp2_with fail
      go_ret
      exact ⟨c, by rw [HL.out]; rfl, by rw [HL.out]; exact HR.out, by rw [HL.out]; exact HST.out, HM.out, HO.out⟩
theorem cmp_nil (w : World) : Calls Try.prog 15 #[.slice none 0 0] w fun e w' => e = .returned (.slice none 0 0) ∧ w = w' := by
  go_enter Try.func15, Try.ntmps15
  go_wp2_with fail
  go_ret
  exact ⟨rfl, rfl⟩
def CmpRow (w : World) (v : Value) (ts : List Int) (e : Ending) (w' : World) : Prop :=
  ∃ a cap c, e = .returned (.slice a c.length cap) ∧ w'.ownsRow 0 3 1 (.slice a c.length cap) c.length (c.map fun t => .int .i64 t) ∧ Strict c c.length ∧ (∀ x ∈ c, x ∈ ts) ∧ Only (fun k => v.ownBlock = some k) w w' ∧ (Value.slice a c.length cap).ownBlock = v.ownBlock
theorem cmp_row (w : World) (v : Value) (n : Nat) (c ts : List Int) (h : w.ownsRow 0 3 1 v n (c.map fun t => .int .i64 t)) (hs : Sorted' c n) (hm : ∀ x ∈ c, x ∈ ts) (hn : n ≤ 1000) : Calls Try.prog 15 #[v] w (CmpRow w v ts) := by
  rcases h.2 with ⟨rfl, rfl⟩ | ⟨g, cap, cur, rfl, _⟩
  · refine (cmp_nil w).mono ?_
    rintro e w' ⟨rfl, rfl⟩
    exact ⟨none, 0, [], rfl, World.ownsRow_nil _ _ _ _, (fun p q hpq hq => absurd hq (by simp)), (fun x hx => absurd hx (by simp)), Only.refl _ _, rfl⟩
  · refine (cmp_any w g n cap c ts h hs hm hn).mono ?_
    rintro e w' ⟨d, rfl, h1, h2, h3, h4⟩
    exact ⟨_, _, d, rfl, h1, h2, h3, h4.mono fun k _ e => by subst e; rfl, rfl⟩
end Go.Proofs.Ytboofagdcohgnaa.Tgu
