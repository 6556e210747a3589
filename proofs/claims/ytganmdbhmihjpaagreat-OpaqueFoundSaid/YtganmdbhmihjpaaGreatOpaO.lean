/- The real side: search. -/
import Derived.Test.YtganmdbhmihjpaaGreatOpaN
import Derived.WalkMore
import Derived.Deep.LoopGhost
namespace Go.Proofs.YtganmdbhmihjpaaGreat.Opa
open Go.RowKit Go.Proofs.YtganmdbhmihjpaaGreat.Wri Go.Proofs.YtganmdbhmihjpaaGreat.His
set_option linter.unusedSimpArgs false
set_option linter.unusedVariables false
set_option maxRecDepth 50000

def SearchIs (p : Option Addr) (n c : Nat) (l : List Ev) (C : List Int) (av hv : Value) (q : Nat) (f : Nat) : Prop :=
  ∀ (w : World) (vs order : List Int) (a : Option Addr) (on oc : Nat), Game w q p n c l av hv (onesOf l C) vs → vs.length ≤ 1000 → (∀ W, Only (fun k => hv.ownBlock = some k) w W → IntsIn W a on order) → on ≤ oc → (a = none → on = 0 ∧ oc = 0) →
    order.length ≤ (attL l).length → (attL l).length ≤ order.length + f →
    Calls Tryz.prog 20 #[ptr q, .slice a on oc] w (SearchPost w q p n c l C av hv vs (searchL l (oneOf l C) (attL l) f order vs))
theorem ones_at {l : List Ev} {C : List Int} {xs : List OneX} (e : xs.map (·.1) = onesOf l C) {i : Nat} {t : Int} (h : (attL l)[i]? = some t) : ∃ v1 v2, xs[i]? = some (oneOf l C t, v1, v2) := by
  have h1 : (xs.map (·.1))[i]? = some (oneOf l C t) := by rw [e, onesOf, List.getElem?_map, h]; rfl
  rw [List.getElem?_map] at h1
  cases hx : xs[i]? with
  | none => rw [hx] at h1; cases h1
  | some x =>
    obtain ⟨o, v1, v2⟩ := x
    rw [hx] at h1
    injection h1 with h1
    simp only at h1
    subst h1
    exact ⟨v1, v2, rfl⟩
theorem take_bad {all : List Int} {b : Int → Bool} {j : Nat} {y : Int} (hy : all[j]? = some y) (h : ∀ z ∈ all.take j, b z = false) (hb : b y = false) : ∀ z ∈ all.take (j + 1), b z = false := by
  intro z hz
  rw [List.take_add_one, hy, List.mem_append] at hz
  rcases hz with hz | hz
  · exact h z hz
  · simp at hz
    rw [hz]
    exact hb
set_option maxHeartbeats 25600000 in
theorem search_step {p : Option Addr} {n c : Nat} {l : List Ev} {C : List Int} {av hv : Value} {q : Nat} (hn : n ≤ 400) (hal : (attL l).length ≤ 400) (hok : ∀ t, OneOk (oneOf l C t)) (f : Nat)
    (IH : ∀ f', f = f' + 1 → SearchIs p n c l C av hv q f') : SearchIs p n c l C av hv q f := by
  intro w vs order a on oc hG hvl hO hoc hz hle hf
  obtain ⟨R, hR⟩ : ∃ R, searchL l (oneOf l C) (attL l) f order vs = R := ⟨_, rfl⟩
  rw [hR]
  obtain ⟨i0, hi, hz0, hz1, hz2⟩ := info_parts infoI
  have hol : order.length = on := (hO w (Only.refl _ _)).1
  obtain ⟨xs, hxs, hX⟩ := hG.ones
  obtain ⟨va, vc, hav, _⟩ := ones_cells hX
  rw [ones_len hxs] at hav
  subst hav
  obtain ⟨N, hN⟩ : ∃ N, (attL l).length = N := ⟨_, rfl⟩
  rw [hN] at hG hle hf hal IH ⊢
  have hob := hG.obj
  have q1 := blk_cell hob 1
  simp only [List.getElem?_toArray, List.getElem?_cons_zero, List.getElem?_cons_succ] at q1
  have HG := Lib.hid hG; have HO := Lib.hid hO; have HR := Lib.hid hR; have HN := Lib.hid hN; have HOL := Lib.hid hol; have HIH := Lib.hid IH; have HOK := Lib.hid hok; have HZ := Lib.hid hz
  clear hG hO hR hN hxs hX hob IH hok hz
  unfold SearchPost
  by_cases hend : on = N
  · subst hend
    have hx : R = some order := by
      rw [← HR.out]
      cases f with
      | zero => rw [searchL, if_pos (by rw [HOL.out, HN.out])]
      | succ f => rw [searchL, if_pos (by rw [HOL.out, HN.out])]
    subst hx
    clear hol
    go_enter Tryz.func20, Tryz.ntmps20
    go_wp2_with fail
    go_step3
    go_wp2_with fail
    try rw [Exit.noGoto_ret]
    refine bodyPost_ret (v := .tuple #[.slice a on oc, .bool true]) ?_ rfl ?_; (focus (simp [results, Tryz.results20, go_sem, Nat.zero_le]; done))
    exact ⟨Only.refl _ _, .inl ⟨order, a, oc, rfl, by rw [HOL.out], by rw [HOL.out]; exact hoc, fun W oW => by rw [HOL.out]; exact HO.out W oW⟩⟩
  · obtain ⟨f', rfl⟩ : ∃ f', f = f' + 1 := ⟨f - 1, by omega⟩
    have hon : on ≤ 1000000 := by omega
    have hne : ((on : Int) == (N : Int)) = false := by simp; omega
    have hx : ((attL l).findSome? fun x => if candB l (oneOf l C) (attL l) order vs x then searchL l (oneOf l C) (attL l) f' (order ++ [x]) (layL (oneOf l C x) vs) else none) = R := by
      rw [← HR.out]
      rw [searchL, if_neg (by rw [HOL.out, HN.out]; exact hend)]
    have HX := Lib.hid hx
    clear hx HR hol
    go_enter Tryz.func20, Tryz.ntmps20
    go_wp2_with fail
    go_step3
    go_wp2_with fail
    go_step3
    go_wp2_with fail
    go_loopg [27] N (fun g i wr => ∃ k : Nat, i = .int .i64 k ∧ k ≤ N ∧ g = N - k ∧ Game wr q p n c l (.slice va N vc) hv (onesOf l C) vs ∧ Only (fun k => hv.ownBlock = some k) w wr ∧ (((attL l).take k).findSome? fun x => if candB l (oneOf l C) (attL l) order vs x then searchL l (oneOf l C) (attL l) f' (order ++ [x]) (layL (oneOf l C x) vs) else none) = none)
    case atStart => exact ⟨0, rfl, Nat.zero_le _, by simp, HG.out, Only.refl _ _, by simp⟩
    case round =>
      obtain ⟨k, rfl, hk, rfl, hGr, hOr, hno⟩ := hrel
      obtain ⟨wo, rfl⟩ : ∃ wo, wo = wr := ⟨wr, rfl⟩
      have HGR := Lib.hid hGr; have HOR := Lib.hid hOr; have HNO := Lib.hid hno
      by_cases hlt : k < N
      · obtain ⟨t, ht⟩ : ∃ t, (attL l)[k]? = some t := ⟨_, List.getElem?_eq_getElem (by rw [HN.out]; exact hlt)⟩
        have HT := Lib.hid ht
        obtain ⟨xs, hxs, hX⟩ := hGr.ones
        obtain ⟨va', vc', hav, hcs⟩ := ones_cells hX
        injection hav with e1 e2 e3
        subst e1
        clear e2 e3
        obtain ⟨v1, v2, hx⟩ := ones_at hxs ht
        obtain ⟨gb, ra, r1, rc, wa, r2, wc, hva, hx2, c0, c1, c2, c3, c4⟩ := hcs k _ hx
        injection hx2 with e1 e2
        subst e1 e2
        replace c0 : wo.cell? ⟨gb, k * 5, none⟩ = some (.int .i64 t) := c0
        obtain ⟨ow, how⟩ : ∃ b, (oneOf l C t).own = b := ⟨_, rfl⟩
        obtain ⟨cm, hcm⟩ : ∃ b, (oneOf l C t).com = b := ⟨_, rfl⟩
        simp only at c3 c4
        rw [how] at c3; rw [hcm] at c4
        have HPR := Lib.hid (hX.pairs _ (List.mem_of_getElem? hx))
        subst hva
        have lA : Below wo.heap.size wo (wo.alloc (.cells #[.int .i64 t, .slice ra r1 rc, .slice wa r2 wc, .bool ow, .bool cm] 75)) := by repeat (first | (with_reducible exact Below.refl _ _) | (with_reducible apply Below.drew) | (with_reducible refine below_drewN ?_ _) | (with_reducible refine below_alloc' ?_ ?_ _; (focus ((try simp) <;> omega))) | (with_reducible refine below_set' ?_ ?_ _; (focus ((try simp) <;> omega))))
        have hbA : (wo.alloc (.cells #[.int .i64 t, .slice ra r1 rc, .slice wa r2 wc, .bool ow, .bool cm] 75)).heap[wo.heap.size]? = some (.cells #[.int .i64 t, .slice ra r1 rc, .slice wa r2 wc, .bool ow, .bool cm] 75 (0, 0)) := by simp [↓heap_alloc_eq, ↓heap_set_eq, ↓heap_drew_eq, ↓heap_drewN_eq, setObj, size_drewN]
        have HCT := Lib.hid (contains_any _ a on oc order t (HO.out _ (hOr.trans (only_below lA _))) hon)
        have hlt' : (k : Int) < N := by omega
        have hw1 : IntKind.i64.wrap ((k : Int) + 1) = (k : Int) + 1 := by rw [IntKind.wrap_i64]; omega
        have HLA := Lib.hid lA; have HBA := Lib.hid hbA; have HOW := Lib.hid (And.intro how hcm)
        clear hxs hX hcs hx how hcm lA hbA ht hGr hOr hno
        cases hin : decide (t ∈ order) with
        | true =>
          rw [hin] at HCT
          have HN2 := Lib.hid (findSome_snoc HT.out HNO.out (by rw [if_neg (by unfold candB; rw [hin]; simp)]))
          clear hin
          go_wp2_with fail
          refine HCT.out.mono ?_
          rintro e w1 ⟨rfl, rfl⟩
          go_wp2_with fail
          go_roundg (N - (k + 1))
          case measure => omega
          case rel => exact ⟨k + 1, by go_num, by omega, rfl, HGR.out.below HLA.out, HOR.out.trans (only_below HLA.out _), HN2.out⟩
        | false =>
          rw [hin] at HCT
          have HIN := Lib.hid hin
          clear hin
          go_wp2_with fail
          refine HCT.out.mono ?_
          rintro e w1 ⟨rfl, rfl⟩
          have q5 := blk_cell (HGR.out.below HLA.out).obj 1
          simp only [List.getElem?_toArray, List.getElem?_cons_zero, List.getElem?_cons_succ] at q5
          go_wp2_with fail
          have GA := Lib.hid (HGR.out.below HLA.out); have OA := Lib.hid (HOR.out.trans (only_below HLA.out _))
          have PRA := Lib.hid (And.intro (pairs_grow HPR.out.1 HLA.out) (pairs_grow HPR.out.2 HLA.out))
          obtain ⟨WA, hWA⟩ : ∃ WA, wo.alloc (.cells #[.int .i64 t, .slice ra r1 rc, .slice wa r2 wc, .bool ow, .bool cm] 75) = WA := ⟨_, rfl⟩
          rw [hWA] at GA OA PRA HBA HLA ⊢
          clear hWA q5 c0 c1 c2 c3 c4 HCT HLA HPR
          generalize wo.heap.size = b7 at *
          go_loopg [40] N (fun g i wr => ∃ j : Nat, i = .int .i64 j ∧ j ≤ N ∧ g = N - j ∧ Below WA.heap.size WA wr ∧ ∀ y ∈ (attL l).take j, badB l order t y = false)
          case atStart => exact ⟨0, rfl, Nat.zero_le _, by simp, Below.refl _ _, by simp⟩
          case round =>
            obtain ⟨j, rfl, hj, rfl, hB, hnb⟩ := hrel
            have HB := Lib.hid hB; have HNB := Lib.hid hnb
            by_cases hlt2 : j < N
            · obtain ⟨y, hy⟩ : ∃ y, (attL l)[j]? = some y := ⟨_, List.getElem?_eq_getElem (by rw [HN.out]; exact hlt2)⟩
              have HY := Lib.hid hy
              have hGB := GA.out.below hB
              have HGB := Lib.hid hGB
              obtain ⟨ys, hys, hY⟩ := hGB.ones
              obtain ⟨va', vc', hav, hcs⟩ := ones_cells hY
              injection hav with e1 e2 e3
              subst e1
              clear e2 e3
              obtain ⟨v1, v2, hx⟩ := ones_at hys hy
              obtain ⟨gb2, sa, s1, sc, ta, s2, tc, hva, hx2, c0, c1, c2, c3, c4⟩ := hcs j _ hx
              injection hx2 with e1 e2
              subst e1 e2
              injection hva with hva
              injection hva with hva
              subst hva
              replace c0 : wr.cell? ⟨gb, j * 5, none⟩ = some (.int .i64 y) := c0
              obtain ⟨ow2, how⟩ : ∃ b, (oneOf l C y).own = b := ⟨_, rfl⟩
              obtain ⟨cm2, hcm⟩ : ∃ b, (oneOf l C y).com = b := ⟨_, rfl⟩
              simp only at c3 c4
              rw [how] at c3; rw [hcm] at c4
              have hlt2' : (j : Int) < N := by omega
              have hw2 : IntKind.i64.wrap ((j : Int) + 1) = (j : Int) + 1 := by rw [IntKind.wrap_i64]; omega
              have lB : Below wr.heap.size wr (wr.alloc (.cells #[.int .i64 y, .slice sa s1 sc, .slice ta s2 tc, .bool ow2, .bool cm2] 75)) := by repeat (first | (with_reducible exact Below.refl _ _) | (with_reducible apply Below.drew) | (with_reducible refine below_drewN ?_ _) | (with_reducible refine below_alloc' ?_ ?_ _; (focus ((try simp) <;> omega))) | (with_reducible refine below_set' ?_ ?_ _; (focus ((try simp) <;> omega))))
              have hbB : (wr.alloc (.cells #[.int .i64 y, .slice sa s1 sc, .slice ta s2 tc, .bool ow2, .bool cm2] 75)).heap[wr.heap.size]? = some (.cells #[.int .i64 y, .slice sa s1 sc, .slice ta s2 tc, .bool ow2, .bool cm2] 75 (0, 0)) := by simp [↓heap_alloc_eq, ↓heap_set_eq, ↓heap_drew_eq, ↓heap_drewN_eq, setObj, size_drewN]
              clear hys hY hcs hx how hcm hGB
              go_wp2_with fail
              have HGC := Lib.hid (HGB.out.below lB)
              have hbA := bblk (btrans hB (Nat.le_refl _) lB) HBA.out
              have HBC := Lib.hid (btrans hB (Nat.le_refl _) lB)
              obtain ⟨WB, hWB⟩ : ∃ WB, wr.alloc (.cells #[.int .i64 y, .slice sa s1 sc, .slice ta s2 tc, .bool ow2, .bool cm2] 75) = WB := ⟨_, rfl⟩
              rw [hWB] at HGC hbA hbB HBC ⊢
              have hqo := HGC.out.obj
              have KS : ∀ W : World, Below WB.heap.size WB W → W.cell? ⟨wr.heap.size, 0, none⟩ = some (.int .i64 y) ∧ W.cell? ⟨b7, 0, none⟩ = some (.int .i64 t) ∧ W.cell? ⟨q, 0, none⟩ = some (.slice p n c) := fun W l => by
                have e1 := blk_cell (bblk l hbB) 0; have e2 := blk_cell (bblk l hbA) 0; have e3 := blk_cell (bblk l hqo) 0
                exact ⟨e1, e2, e3⟩
              have HKS := Lib.hid KS
              have lD : Below WB.heap.size WB WB.drew := (Below.refl _ _).drew
              have Q0 := HKS.out WB.drew lD
              clear KS hqo hbA hbB lB hWB c0 c1 c2 c3 c4 hB hnb hy
              generalize wr.heap.size = b9 at *
              cases hyt : (y != t) with
              | false =>
                have HN3 := Lib.hid (show badB l order t y = false by unfold badB; rw [hyt]; rfl)
                refine wp_region_held_drew (S := fun w' => w'.cell? ⟨b9, 0, none⟩ = some (.int .i64 y) ∧ w'.cell? ⟨b7, 0, none⟩ = some (.int .i64 t) ∧ w'.cell? ⟨q, 0, none⟩ = some (.slice p n c)) (by kernel_rfl) Q0 (fun hS9 => ?_)
                refine wpAnyH_take2 (i := 0) (v := ?_) rfl (by kernel_rfl) (by kernel_rfl) (by kernel_rfl) (fun _ _ _ h => h) (Or.inl ⟨by rfl, ?_⟩) (by assumption) ?_; rotate_left; (focus (intro w hSw; (skip); (first | (go_simp; done) | (go_simp; with_reducible rfl)))); (try simp only [Act.put, List.setIfInBounds_toArray, List.set_cons_zero, List.set_cons_succ])
                refine wpAnyH_take2 (i := 1) (v := ?_) rfl (by kernel_rfl) (by kernel_rfl) (by kernel_rfl) (fun _ _ _ h => h) (Or.inl ⟨by rfl, ?_⟩) (by assumption) ?_; rotate_left; (focus (intro w hSw; (obtain ⟨q0, q1, q2⟩ := hSw); (first | (go_simp; done) | (go_simp; with_reducible rfl)))); (try simp only [Act.put, List.setIfInBounds_toArray, List.set_cons_zero, List.set_cons_succ])
                refine wpAnyH_take2 (i := 2) (v := ?_) rfl (by kernel_rfl) (by kernel_rfl) (by kernel_rfl) (fun _ _ _ h => h) (Or.inl ⟨by rfl, ?_⟩) (by assumption) ?_; rotate_left; (focus (intro w hSw; (skip); (first | (go_simp; done) | (go_simp; with_reducible rfl)))); (try simp only [Act.put, List.setIfInBounds_toArray, List.set_cons_zero, List.set_cons_succ])
                refine wpAnyH_take2 (i := 3) (v := ?_) rfl (by kernel_rfl) (by kernel_rfl) (by kernel_rfl) (fun _ _ _ h => h) (Or.inl ⟨by rfl, ?_⟩) (by assumption) ?_; rotate_left; (focus (intro w hSw; (obtain ⟨q0, q1, q2⟩ := hSw); (first | (go_simp; done) | (go_simp; with_reducible rfl)))); (try simp only [Act.put, List.setIfInBounds_toArray, List.set_cons_zero, List.set_cons_succ])
                refine wpAnyH_take2 (i := 4) (v := ?_) rfl (by kernel_rfl) (by kernel_rfl) (by kernel_rfl) (fun _ _ _ h => h) (Or.inl ⟨by rfl, ?_⟩) (by assumption) ?_; rotate_left; (focus (intro w hSw; (skip); (first | (go_simp; done) | (go_simp; with_reducible rfl)))); (try simp only [Act.put, List.setIfInBounds_toArray, List.set_cons_zero, List.set_cons_succ])
                refine wpAnyH_take2 (i := 5) (v := ?_) rfl (by kernel_rfl) (by kernel_rfl) (by kernel_rfl) (fun _ _ _ h => h) (Or.inl ⟨by rfl, ?_⟩) (by assumption) ?_; rotate_left; (focus (intro w hSw; (skip); (first | (go_simp; done) | (go_simp; with_reducible rfl)))); (try simp only [Act.put, List.setIfInBounds_toArray, List.set_cons_zero, List.set_cons_succ])
                refine wpAnyH_take2 (i := 6) (v := undef) rfl (by kernel_rfl) (by kernel_rfl) (by kernel_rfl) (fun _ _ _ h => h) (Or.inr ⟨by (first | rfl | (simp [Region.wanted, yielded]; done)), rfl⟩) (by assumption) ?_; (try simp only [Act.put, List.setIfInBounds_toArray, List.set_cons_zero, List.set_cons_succ])
                refine wpAnyH_take2 (i := 7) (v := undef) rfl (by kernel_rfl) (by kernel_rfl) (by kernel_rfl) (fun _ _ _ h => h) (Or.inr ⟨by (first | rfl | (simp [Region.wanted, yielded]; done)), rfl⟩) (by assumption) ?_; (try simp only [Act.put, List.setIfInBounds_toArray, List.set_cons_zero, List.set_cons_succ])
                refine wpAnyH_take2 (i := 8) (v := undef) rfl (by kernel_rfl) (by kernel_rfl) (by kernel_rfl) (fun _ _ _ h => h) (Or.inr ⟨by (first | rfl | (simp [Region.wanted, yielded]; done)), rfl⟩) (by assumption) ?_; (try simp only [Act.put, List.setIfInBounds_toArray, List.set_cons_zero, List.set_cons_succ])
                refine wpAnyH_take2 (i := 9) (v := undef) rfl (by kernel_rfl) (by kernel_rfl) (by kernel_rfl) (fun _ _ _ h => h) (Or.inr ⟨by (first | rfl | (simp [Region.wanted, yielded]; done)), rfl⟩) (by assumption) ?_; (try simp only [Act.put, List.setIfInBounds_toArray, List.set_cons_zero, List.set_cons_succ])
                refine wpAnyH_take2 (i := 10) (v := undef) rfl (by kernel_rfl) (by kernel_rfl) (by kernel_rfl) (fun _ _ _ h => h) (Or.inr ⟨by (first | rfl | (simp [Region.wanted, yielded]; done)), rfl⟩) (by assumption) ?_; (try simp only [Act.put, List.setIfInBounds_toArray, List.set_cons_zero, List.set_cons_succ])
                refine wpAnyH_take2 (i := 11) (v := ?_) rfl (by kernel_rfl) (by kernel_rfl) (by kernel_rfl) (fun _ _ _ h => h) (Or.inl ⟨by rfl, ?_⟩) (by assumption) ?_; rotate_left; (focus (intro w hSw; (skip); (first | (go_simp; done) | (go_simp; with_reducible rfl)))); (try simp only [Act.put, List.setIfInBounds_toArray, List.set_cons_zero, List.set_cons_succ])
                refine wpAnyH_take2 (i := 12) (v := ?_) rfl (by kernel_rfl) (by kernel_rfl) (by kernel_rfl) (fun _ _ _ h => h) (Or.inl ⟨by rfl, ?_⟩) (by assumption) ?_; rotate_left; (focus (intro w hSw; (skip); (first | (go_simp; done) | (go_simp; with_reducible rfl)))); (try simp only [Act.put, List.setIfInBounds_toArray, List.set_cons_zero, List.set_cons_succ])
                refine wpAnyH_take2 (i := 13) (v := undef) rfl (by kernel_rfl) (by kernel_rfl) (by kernel_rfl) (fun _ _ _ h => h) (Or.inr ⟨by (first | rfl | (simp [Region.wanted, yielded]; done)), rfl⟩) (by assumption) ?_; (try simp only [Act.put, List.setIfInBounds_toArray, List.set_cons_zero, List.set_cons_succ])
                refine wpAnyH_take2 (i := 14) (v := undef) rfl (by kernel_rfl) (by kernel_rfl) (by kernel_rfl) (fun _ _ _ h => h) (Or.inr ⟨by (first | rfl | (simp [Region.wanted, yielded]; done)), rfl⟩) (by assumption) ?_; (try simp only [Act.put, List.setIfInBounds_toArray, List.set_cons_zero, List.set_cons_succ])
                refine wpAnyH_take2 (i := 15) (v := undef) rfl (by kernel_rfl) (by kernel_rfl) (by kernel_rfl) (fun _ _ _ h => h) (Or.inr ⟨by (first | rfl | (simp [Region.wanted, yielded]; done)), rfl⟩) (by assumption) ?_; (try simp only [Act.put, List.setIfInBounds_toArray, List.set_cons_zero, List.set_cons_succ])
                refine wpAnyH_take2 (i := 16) (v := undef) rfl (by kernel_rfl) (by kernel_rfl) (by kernel_rfl) (fun _ _ _ h => h) (Or.inr ⟨by (first | rfl | (simp [Region.wanted, yielded]; done)), rfl⟩) (by assumption) ?_; (try simp only [Act.put, List.setIfInBounds_toArray, List.set_cons_zero, List.set_cons_succ])
                refine wpAnyH_take2 (i := 17) (v := undef) rfl (by kernel_rfl) (by kernel_rfl) (by kernel_rfl) (fun _ _ _ h => h) (Or.inr ⟨by (first | rfl | (simp [Region.wanted, yielded]; done)), rfl⟩) (by assumption) ?_; (try simp only [Act.put, List.setIfInBounds_toArray, List.set_cons_zero, List.set_cons_succ])
                refine wpAnyH_take2 (i := 18) (v := undef) rfl (by kernel_rfl) (by kernel_rfl) (by kernel_rfl) (fun _ _ _ h => h) (Or.inr ⟨by (first | rfl | (simp [Region.wanted, yielded]; done)), rfl⟩) (by assumption) ?_; (try simp only [Act.put, List.setIfInBounds_toArray, List.set_cons_zero, List.set_cons_succ])
                refine wpAnyH_take2 (i := 19) (v := undef) rfl (by kernel_rfl) (by kernel_rfl) (by kernel_rfl) (fun _ _ _ h => h) (Or.inr ⟨by (first | rfl | (simp [Region.wanted, yielded]; done)), rfl⟩) (by assumption) ?_; (try simp only [Act.put, List.setIfInBounds_toArray, List.set_cons_zero, List.set_cons_succ])
                refine wpAnyH_take2 (i := 20) (v := undef) rfl (by kernel_rfl) (by kernel_rfl) (by kernel_rfl) (fun _ _ _ h => h) (Or.inr ⟨by (first | rfl | (simp [Region.wanted, yielded]; done)), rfl⟩) (by assumption) ?_; (try simp only [Act.put, List.setIfInBounds_toArray, List.set_cons_zero, List.set_cons_succ])
                refine wpAnyH_take2 (i := 21) (v := undef) rfl (by kernel_rfl) (by kernel_rfl) (by kernel_rfl) (fun _ _ _ h => h) (Or.inr ⟨by (first | rfl | (simp [Region.wanted, yielded]; done)), rfl⟩) (by assumption) ?_; (try simp only [Act.put, List.setIfInBounds_toArray, List.set_cons_zero, List.set_cons_succ])
                refine wpAnyH_take2 (i := 22) (v := ?_) rfl (by kernel_rfl) (by kernel_rfl) (by kernel_rfl) (fun _ _ _ h => h) (Or.inl ⟨by rfl, ?_⟩) (by assumption) ?_; rotate_left; (focus (intro w hSw; (skip); (first | (go_simp; done) | (go_simp; with_reducible rfl)))); (try simp only [Act.put, List.setIfInBounds_toArray, List.set_cons_zero, List.set_cons_succ])
                refine wpAnyH_done (by kernel_rfl) ?_ _
                go_wp2_with fail
                go_roundg (N - (j + 1))
                case measure => omega
                case rel => exact ⟨j + 1, by go_num, by omega, rfl, btrans HBC.out (Nat.le_refl _) lD, take_bad HY.out HNB.out HN3.out⟩
              | true =>
                have HCY := Lib.hid (contains_any WB.drew a on oc order y (HO.out _ ((OA.out.trans (only_below HBC.out _)).trans (only_below lD _))) hon)
                cases hio : decide (y ∈ order) with
                | true =>
                  rw [hio] at HCY
                  have HN3 := Lib.hid (show badB l order t y = false by unfold badB; rw [hio]; simp)
                  clear hio
                  refine wp_region_held_drew (S := fun w' => w'.cell? ⟨b9, 0, none⟩ = some (.int .i64 y) ∧ w'.cell? ⟨b7, 0, none⟩ = some (.int .i64 t) ∧ w'.cell? ⟨q, 0, none⟩ = some (.slice p n c)) (by kernel_rfl) Q0 (fun hS9 => ?_)
                  refine wpAnyH_take2 (i := 0) (v := ?_) rfl (by kernel_rfl) (by kernel_rfl) (by kernel_rfl) (fun _ _ _ h => h) (Or.inl ⟨by rfl, ?_⟩) (by assumption) ?_; rotate_left; (focus (intro w hSw; (skip); (first | (go_simp; done) | (go_simp; with_reducible rfl)))); (try simp only [Act.put, List.setIfInBounds_toArray, List.set_cons_zero, List.set_cons_succ])
                  refine wpAnyH_take2 (i := 1) (v := ?_) rfl (by kernel_rfl) (by kernel_rfl) (by kernel_rfl) (fun _ _ _ h => h) (Or.inl ⟨by rfl, ?_⟩) (by assumption) ?_; rotate_left; (focus (intro w hSw; (obtain ⟨q0, q1, q2⟩ := hSw); (first | (go_simp; done) | (go_simp; with_reducible rfl)))); (try simp only [Act.put, List.setIfInBounds_toArray, List.set_cons_zero, List.set_cons_succ])
                  refine wpAnyH_take2 (i := 2) (v := ?_) rfl (by kernel_rfl) (by kernel_rfl) (by kernel_rfl) (fun _ _ _ h => h) (Or.inl ⟨by rfl, ?_⟩) (by assumption) ?_; rotate_left; (focus (intro w hSw; (skip); (first | (go_simp; done) | (go_simp; with_reducible rfl)))); (try simp only [Act.put, List.setIfInBounds_toArray, List.set_cons_zero, List.set_cons_succ])
                  refine wpAnyH_take2 (i := 3) (v := ?_) rfl (by kernel_rfl) (by kernel_rfl) (by kernel_rfl) (fun _ _ _ h => h) (Or.inl ⟨by rfl, ?_⟩) (by assumption) ?_; rotate_left; (focus (intro w hSw; (obtain ⟨q0, q1, q2⟩ := hSw); (first | (go_simp; done) | (go_simp; with_reducible rfl)))); (try simp only [Act.put, List.setIfInBounds_toArray, List.set_cons_zero, List.set_cons_succ])
                  refine wpAnyH_take2 (i := 4) (v := ?_) rfl (by kernel_rfl) (by kernel_rfl) (by kernel_rfl) (fun _ _ _ h => h) (Or.inl ⟨by rfl, ?_⟩) (by assumption) ?_; rotate_left; (focus (intro w hSw; (skip); (first | (go_simp; done) | (go_simp; with_reducible rfl)))); (try simp only [Act.put, List.setIfInBounds_toArray, List.set_cons_zero, List.set_cons_succ])
                  refine wpAnyH_take2 (i := 5) (v := ?_) rfl (by kernel_rfl) (by kernel_rfl) (by kernel_rfl) (fun _ _ _ h => h) (Or.inl ⟨by rfl, ?_⟩) (by assumption) ?_; rotate_left; (focus (intro w hSw; (skip); (first | (go_simp; done) | (go_simp; with_reducible rfl)))); (try simp only [Act.put, List.setIfInBounds_toArray, List.set_cons_zero, List.set_cons_succ])
                  refine wpAnyH_take2 (i := 6) (v := ?_) rfl (by kernel_rfl) (by kernel_rfl) (by kernel_rfl) (fun _ _ _ h => h) (Or.inl ⟨by rfl, ?_⟩) (by assumption) ?_; rotate_left; (focus (intro w hSw; (skip); (first | (go_simp; done) | (go_simp; with_reducible rfl)))); (try simp only [Act.put, List.setIfInBounds_toArray, List.set_cons_zero, List.set_cons_succ])
                  refine wpAnyH_take2 (i := 7) (v := ?_) rfl (by kernel_rfl) (by kernel_rfl) (by kernel_rfl) (fun _ _ _ h => h) (Or.inl ⟨by rfl, ?_⟩) (by assumption) ?_; rotate_left; (focus (intro w hSw; (skip); (first | (go_simp; done) | (go_simp; with_reducible rfl)))); (try simp only [Act.put, List.setIfInBounds_toArray, List.set_cons_zero, List.set_cons_succ])
                  refine wpAnyH_take2 (i := 8) (v := ?_) rfl (by kernel_rfl) (by kernel_rfl) (by kernel_rfl) (fun _ _ _ h => h) (Or.inl ⟨by rfl, ?_⟩) (by assumption) ?_; rotate_left; (focus (intro w hSw; (obtain ⟨q0, q1, q2⟩ := hSw); (first | (go_simp; done) | (go_simp; with_reducible rfl)))); (try simp only [Act.put, List.setIfInBounds_toArray, List.set_cons_zero, List.set_cons_succ])
                  refine wpAnyH_ready (rs := [9]) (by kernel_rfl) (by simp) ?_; refine AllReadyH_cons2 rfl (fun K hK => ?_) AllReadyH.nil
                  go_simp
                  refine HCY.out.mono ?_
                  rintro e w1 ⟨rfl, rfl⟩
                  dsimp only
                  refine hK.out _ _ Q0 (fun hS9 => ?_); clear hK K; (try simp only [Act.put, List.setIfInBounds_toArray, List.set_cons_zero, List.set_cons_succ])
                  refine wpAnyH_take2 (i := 10) (v := ?_) rfl (by kernel_rfl) (by kernel_rfl) (by kernel_rfl) (fun _ _ _ h => h) (Or.inl ⟨by rfl, ?_⟩) (by assumption) ?_; rotate_left; (focus (intro w hSw; (skip); (first | (go_simp; done) | (go_simp; with_reducible rfl)))); (try simp only [Act.put, List.setIfInBounds_toArray, List.set_cons_zero, List.set_cons_succ])
                  refine wpAnyH_take2 (i := 11) (v := ?_) rfl (by kernel_rfl) (by kernel_rfl) (by kernel_rfl) (fun _ _ _ h => h) (Or.inl ⟨by rfl, ?_⟩) (by assumption) ?_; rotate_left; (focus (intro w hSw; (skip); (first | (go_simp; done) | (go_simp; with_reducible rfl)))); (try simp only [Act.put, List.setIfInBounds_toArray, List.set_cons_zero, List.set_cons_succ])
                  refine wpAnyH_take2 (i := 12) (v := ?_) rfl (by kernel_rfl) (by kernel_rfl) (by kernel_rfl) (fun _ _ _ h => h) (Or.inl ⟨by rfl, ?_⟩) (by assumption) ?_; rotate_left; (focus (intro w hSw; (skip); (first | (go_simp; done) | (go_simp; with_reducible rfl)))); (try simp only [Act.put, List.setIfInBounds_toArray, List.set_cons_zero, List.set_cons_succ])
                  refine wpAnyH_take2 (i := 13) (v := undef) rfl (by kernel_rfl) (by kernel_rfl) (by kernel_rfl) (fun _ _ _ h => h) (Or.inr ⟨by (first | rfl | (simp [Region.wanted, yielded]; done)), rfl⟩) (by assumption) ?_; (try simp only [Act.put, List.setIfInBounds_toArray, List.set_cons_zero, List.set_cons_succ])
                  refine wpAnyH_take2 (i := 14) (v := undef) rfl (by kernel_rfl) (by kernel_rfl) (by kernel_rfl) (fun _ _ _ h => h) (Or.inr ⟨by (first | rfl | (simp [Region.wanted, yielded]; done)), rfl⟩) (by assumption) ?_; (try simp only [Act.put, List.setIfInBounds_toArray, List.set_cons_zero, List.set_cons_succ])
                  refine wpAnyH_take2 (i := 15) (v := undef) rfl (by kernel_rfl) (by kernel_rfl) (by kernel_rfl) (fun _ _ _ h => h) (Or.inr ⟨by (first | rfl | (simp [Region.wanted, yielded]; done)), rfl⟩) (by assumption) ?_; (try simp only [Act.put, List.setIfInBounds_toArray, List.set_cons_zero, List.set_cons_succ])
                  refine wpAnyH_take2 (i := 16) (v := undef) rfl (by kernel_rfl) (by kernel_rfl) (by kernel_rfl) (fun _ _ _ h => h) (Or.inr ⟨by (first | rfl | (simp [Region.wanted, yielded]; done)), rfl⟩) (by assumption) ?_; (try simp only [Act.put, List.setIfInBounds_toArray, List.set_cons_zero, List.set_cons_succ])
                  refine wpAnyH_take2 (i := 17) (v := undef) rfl (by kernel_rfl) (by kernel_rfl) (by kernel_rfl) (fun _ _ _ h => h) (Or.inr ⟨by (first | rfl | (simp [Region.wanted, yielded]; done)), rfl⟩) (by assumption) ?_; (try simp only [Act.put, List.setIfInBounds_toArray, List.set_cons_zero, List.set_cons_succ])
                  refine wpAnyH_take2 (i := 18) (v := undef) rfl (by kernel_rfl) (by kernel_rfl) (by kernel_rfl) (fun _ _ _ h => h) (Or.inr ⟨by (first | rfl | (simp [Region.wanted, yielded]; done)), rfl⟩) (by assumption) ?_; (try simp only [Act.put, List.setIfInBounds_toArray, List.set_cons_zero, List.set_cons_succ])
                  refine wpAnyH_take2 (i := 19) (v := undef) rfl (by kernel_rfl) (by kernel_rfl) (by kernel_rfl) (fun _ _ _ h => h) (Or.inr ⟨by (first | rfl | (simp [Region.wanted, yielded]; done)), rfl⟩) (by assumption) ?_; (try simp only [Act.put, List.setIfInBounds_toArray, List.set_cons_zero, List.set_cons_succ])
                  refine wpAnyH_take2 (i := 20) (v := undef) rfl (by kernel_rfl) (by kernel_rfl) (by kernel_rfl) (fun _ _ _ h => h) (Or.inr ⟨by (first | rfl | (simp [Region.wanted, yielded]; done)), rfl⟩) (by assumption) ?_; (try simp only [Act.put, List.setIfInBounds_toArray, List.set_cons_zero, List.set_cons_succ])
                  refine wpAnyH_take2 (i := 21) (v := undef) rfl (by kernel_rfl) (by kernel_rfl) (by kernel_rfl) (fun _ _ _ h => h) (Or.inr ⟨by (first | rfl | (simp [Region.wanted, yielded]; done)), rfl⟩) (by assumption) ?_; (try simp only [Act.put, List.setIfInBounds_toArray, List.set_cons_zero, List.set_cons_succ])
                  refine wpAnyH_take2 (i := 22) (v := ?_) rfl (by kernel_rfl) (by kernel_rfl) (by kernel_rfl) (fun _ _ _ h => h) (Or.inl ⟨by rfl, ?_⟩) (by assumption) ?_; rotate_left; (focus (intro w hSw; (skip); (first | (go_simp; done) | (go_simp; with_reducible rfl)))); (try simp only [Act.put, List.setIfInBounds_toArray, List.set_cons_zero, List.set_cons_succ])
                  refine wpAnyH_done (by kernel_rfl) ?_ _
                  go_wp2_with fail
                  go_roundg (N - (j + 1))
                  case measure => omega
                  case rel => exact ⟨j + 1, by go_num, by omega, rfl, btrans HBC.out (Nat.le_refl _) lD, take_bad HY.out HNB.out HN3.out⟩
                | false =>
                  rw [hio] at HCY
                  have HBF := Lib.hid (before_any WB.drew p n c l (HGC.out.evs.below lD) (by omega) y t)
                  obtain ⟨bb, hbb⟩ : ∃ b, beforeL y t l false = b := ⟨_, rfl⟩
                  rw [hbb] at HBF
                  have HBAD := Lib.hid (show badB l order t y = bb by unfold badB; rw [hyt, hio, hbb]; simp)
                  clear hio hbb
                  refine wp_region_held_drew (S := fun w' => w'.cell? ⟨b9, 0, none⟩ = some (.int .i64 y) ∧ w'.cell? ⟨b7, 0, none⟩ = some (.int .i64 t) ∧ w'.cell? ⟨q, 0, none⟩ = some (.slice p n c)) (by kernel_rfl) Q0 (fun hS9 => ?_)
                  refine wpAnyH_take2 (i := 0) (v := ?_) rfl (by kernel_rfl) (by kernel_rfl) (by kernel_rfl) (fun _ _ _ h => h) (Or.inl ⟨by rfl, ?_⟩) (by assumption) ?_; rotate_left; (focus (intro w hSw; (skip); (first | (go_simp; done) | (go_simp; with_reducible rfl)))); (try simp only [Act.put, List.setIfInBounds_toArray, List.set_cons_zero, List.set_cons_succ])
                  refine wpAnyH_take2 (i := 1) (v := ?_) rfl (by kernel_rfl) (by kernel_rfl) (by kernel_rfl) (fun _ _ _ h => h) (Or.inl ⟨by rfl, ?_⟩) (by assumption) ?_; rotate_left; (focus (intro w hSw; (obtain ⟨q0, q1, q2⟩ := hSw); (first | (go_simp; done) | (go_simp; with_reducible rfl)))); (try simp only [Act.put, List.setIfInBounds_toArray, List.set_cons_zero, List.set_cons_succ])
                  refine wpAnyH_take2 (i := 2) (v := ?_) rfl (by kernel_rfl) (by kernel_rfl) (by kernel_rfl) (fun _ _ _ h => h) (Or.inl ⟨by rfl, ?_⟩) (by assumption) ?_; rotate_left; (focus (intro w hSw; (skip); (first | (go_simp; done) | (go_simp; with_reducible rfl)))); (try simp only [Act.put, List.setIfInBounds_toArray, List.set_cons_zero, List.set_cons_succ])
                  refine wpAnyH_take2 (i := 3) (v := ?_) rfl (by kernel_rfl) (by kernel_rfl) (by kernel_rfl) (fun _ _ _ h => h) (Or.inl ⟨by rfl, ?_⟩) (by assumption) ?_; rotate_left; (focus (intro w hSw; (obtain ⟨q0, q1, q2⟩ := hSw); (first | (go_simp; done) | (go_simp; with_reducible rfl)))); (try simp only [Act.put, List.setIfInBounds_toArray, List.set_cons_zero, List.set_cons_succ])
                  refine wpAnyH_take2 (i := 4) (v := ?_) rfl (by kernel_rfl) (by kernel_rfl) (by kernel_rfl) (fun _ _ _ h => h) (Or.inl ⟨by rfl, ?_⟩) (by assumption) ?_; rotate_left; (focus (intro w hSw; (skip); (first | (go_simp; done) | (go_simp; with_reducible rfl)))); (try simp only [Act.put, List.setIfInBounds_toArray, List.set_cons_zero, List.set_cons_succ])
                  refine wpAnyH_take2 (i := 5) (v := ?_) rfl (by kernel_rfl) (by kernel_rfl) (by kernel_rfl) (fun _ _ _ h => h) (Or.inl ⟨by rfl, ?_⟩) (by assumption) ?_; rotate_left; (focus (intro w hSw; (skip); (first | (go_simp; done) | (go_simp; with_reducible rfl)))); (try simp only [Act.put, List.setIfInBounds_toArray, List.set_cons_zero, List.set_cons_succ])
                  refine wpAnyH_take2 (i := 6) (v := ?_) rfl (by kernel_rfl) (by kernel_rfl) (by kernel_rfl) (fun _ _ _ h => h) (Or.inl ⟨by rfl, ?_⟩) (by assumption) ?_; rotate_left; (focus (intro w hSw; (skip); (first | (go_simp; done) | (go_simp; with_reducible rfl)))); (try simp only [Act.put, List.setIfInBounds_toArray, List.set_cons_zero, List.set_cons_succ])
                  refine wpAnyH_take2 (i := 7) (v := ?_) rfl (by kernel_rfl) (by kernel_rfl) (by kernel_rfl) (fun _ _ _ h => h) (Or.inl ⟨by rfl, ?_⟩) (by assumption) ?_; rotate_left; (focus (intro w hSw; (skip); (first | (go_simp; done) | (go_simp; with_reducible rfl)))); (try simp only [Act.put, List.setIfInBounds_toArray, List.set_cons_zero, List.set_cons_succ])
                  refine wpAnyH_take2 (i := 8) (v := ?_) rfl (by kernel_rfl) (by kernel_rfl) (by kernel_rfl) (fun _ _ _ h => h) (Or.inl ⟨by rfl, ?_⟩) (by assumption) ?_; rotate_left; (focus (intro w hSw; (obtain ⟨q0, q1, q2⟩ := hSw); (first | (go_simp; done) | (go_simp; with_reducible rfl)))); (try simp only [Act.put, List.setIfInBounds_toArray, List.set_cons_zero, List.set_cons_succ])
                  refine wpAnyH_ready (rs := [9]) (by kernel_rfl) (by simp) ?_; refine AllReadyH_cons2 rfl (fun K hK => ?_) AllReadyH.nil
                  go_simp
                  refine HCY.out.mono ?_
                  rintro e w1 ⟨rfl, rfl⟩
                  dsimp only
                  refine hK.out _ _ Q0 (fun hS9 => ?_); clear hK K; (try simp only [Act.put, List.setIfInBounds_toArray, List.set_cons_zero, List.set_cons_succ])
                  refine wpAnyH_take2 (i := 10) (v := ?_) rfl (by kernel_rfl) (by kernel_rfl) (by kernel_rfl) (fun _ _ _ h => h) (Or.inl ⟨by rfl, ?_⟩) (by assumption) ?_; rotate_left; (focus (intro w hSw; (skip); (first | (go_simp; done) | (go_simp; with_reducible rfl)))); (try simp only [Act.put, List.setIfInBounds_toArray, List.set_cons_zero, List.set_cons_succ])
                  refine wpAnyH_take2 (i := 11) (v := ?_) rfl (by kernel_rfl) (by kernel_rfl) (by kernel_rfl) (fun _ _ _ h => h) (Or.inl ⟨by rfl, ?_⟩) (by assumption) ?_; rotate_left; (focus (intro w hSw; (skip); (first | (go_simp; done) | (go_simp; with_reducible rfl)))); (try simp only [Act.put, List.setIfInBounds_toArray, List.set_cons_zero, List.set_cons_succ])
                  refine wpAnyH_take2 (i := 12) (v := ?_) rfl (by kernel_rfl) (by kernel_rfl) (by kernel_rfl) (fun _ _ _ h => h) (Or.inl ⟨by rfl, ?_⟩) (by assumption) ?_; rotate_left; (focus (intro w hSw; (skip); (first | (go_simp; done) | (go_simp; with_reducible rfl)))); (try simp only [Act.put, List.setIfInBounds_toArray, List.set_cons_zero, List.set_cons_succ])
                  refine wpAnyH_take2 (i := 13) (v := ?_) rfl (by kernel_rfl) (by kernel_rfl) (by kernel_rfl) (fun _ _ _ h => h) (Or.inl ⟨by rfl, ?_⟩) (by assumption) ?_; rotate_left; (focus (intro w hSw; (skip); (first | (go_simp; done) | (go_simp; with_reducible rfl)))); (try simp only [Act.put, List.setIfInBounds_toArray, List.set_cons_zero, List.set_cons_succ])
                  refine wpAnyH_take2 (i := 14) (v := ?_) rfl (by kernel_rfl) (by kernel_rfl) (by kernel_rfl) (fun _ _ _ h => h) (Or.inl ⟨by rfl, ?_⟩) (by assumption) ?_; rotate_left; (focus (intro w hSw; (skip); (first | (go_simp; done) | (go_simp; with_reducible rfl)))); (try simp only [Act.put, List.setIfInBounds_toArray, List.set_cons_zero, List.set_cons_succ])
                  refine wpAnyH_take2 (i := 15) (v := ?_) rfl (by kernel_rfl) (by kernel_rfl) (by kernel_rfl) (fun _ _ _ h => h) (Or.inl ⟨by rfl, ?_⟩) (by assumption) ?_; rotate_left; (focus (intro w hSw; (skip); (first | (go_simp; done) | (go_simp; with_reducible rfl)))); (try simp only [Act.put, List.setIfInBounds_toArray, List.set_cons_zero, List.set_cons_succ])
                  refine wpAnyH_take2 (i := 16) (v := ?_) rfl (by kernel_rfl) (by kernel_rfl) (by kernel_rfl) (fun _ _ _ h => h) (Or.inl ⟨by rfl, ?_⟩) (by assumption) ?_; rotate_left; (focus (intro w hSw; (obtain ⟨q0, q1, q2⟩ := hSw); (first | (go_simp; done) | (go_simp; with_reducible rfl)))); (try simp only [Act.put, List.setIfInBounds_toArray, List.set_cons_zero, List.set_cons_succ])
                  refine wpAnyH_take2 (i := 17) (v := ?_) rfl (by kernel_rfl) (by kernel_rfl) (by kernel_rfl) (fun _ _ _ h => h) (Or.inl ⟨by rfl, ?_⟩) (by assumption) ?_; rotate_left; (focus (intro w hSw; (skip); (first | (go_simp; done) | (go_simp; with_reducible rfl)))); (try simp only [Act.put, List.setIfInBounds_toArray, List.set_cons_zero, List.set_cons_succ])
                  refine wpAnyH_take2 (i := 18) (v := ?_) rfl (by kernel_rfl) (by kernel_rfl) (by kernel_rfl) (fun _ _ _ h => h) (Or.inl ⟨by rfl, ?_⟩) (by assumption) ?_; rotate_left; (focus (intro w hSw; (obtain ⟨q0, q1, q2⟩ := hSw); (first | (go_simp; done) | (go_simp; with_reducible rfl)))); (try simp only [Act.put, List.setIfInBounds_toArray, List.set_cons_zero, List.set_cons_succ])
                  refine wpAnyH_take2 (i := 19) (v := ?_) rfl (by kernel_rfl) (by kernel_rfl) (by kernel_rfl) (fun _ _ _ h => h) (Or.inl ⟨by rfl, ?_⟩) (by assumption) ?_; rotate_left; (focus (intro w hSw; (skip); (first | (go_simp; done) | (go_simp; with_reducible rfl)))); (try simp only [Act.put, List.setIfInBounds_toArray, List.set_cons_zero, List.set_cons_succ])
                  refine wpAnyH_take2 (i := 20) (v := ?_) rfl (by kernel_rfl) (by kernel_rfl) (by kernel_rfl) (fun _ _ _ h => h) (Or.inl ⟨by rfl, ?_⟩) (by assumption) ?_; rotate_left; (focus (intro w hSw; (obtain ⟨q0, q1, q2⟩ := hSw); (first | (go_simp; done) | (go_simp; with_reducible rfl)))); (try simp only [Act.put, List.setIfInBounds_toArray, List.set_cons_zero, List.set_cons_succ])
                  refine wpAnyH_ready (rs := [21]) (by kernel_rfl) (by simp) ?_; refine AllReadyH_cons2 rfl (fun K hK => ?_) AllReadyH.nil
                  go_simp
                  refine HBF.out.mono ?_
                  rintro e w1 ⟨rfl, l1⟩
                  dsimp only
                  have l2 := btrans lD (Nat.le_refl _) l1
                  refine hK.out _ _ (HKS.out w1 l2) (fun hS9 => ?_); clear hK K; (try simp only [Act.put, List.setIfInBounds_toArray, List.set_cons_zero, List.set_cons_succ])
                  refine wpAnyH_take2 (i := 22) (v := ?_) rfl (by kernel_rfl) (by kernel_rfl) (by kernel_rfl) (fun _ _ _ h => h) (Or.inl ⟨by rfl, ?_⟩) (by assumption) ?_; rotate_left; (focus (intro w hSw; (skip); (first | (go_simp; done) | (go_simp; with_reducible rfl)))); (try simp only [Act.put, List.setIfInBounds_toArray, List.set_cons_zero, List.set_cons_succ])
                  refine wpAnyH_done (by kernel_rfl) ?_ _
                  have L2 := Lib.hid (btrans HBC.out (Nat.le_refl _) l2)
                  clear l1 l2
                  cases bb with
                  | true =>
                    have HN4 := Lib.hid (findSome_snoc HT.out HNO.out (by
                      rw [if_neg]
                      unfold candB
                      rw [show (attL l).any (badB l order t) = true from List.any_eq_true.2 ⟨y, List.mem_of_getElem? HY.out, HBAD.out⟩]
                      simp))
                    go_wp2_with fail
                    go_roundg (N - (k + 1))
                    case measure => omega
                    case rel => exact ⟨k + 1, by go_num, by omega, rfl, GA.out.below L2.out, OA.out.trans (only_below L2.out _), HN4.out⟩
                  | false =>
                    have HN3 := HBAD
                    go_wp2_with fail
                    go_roundg (N - (j + 1))
                    case measure => omega
                    case rel => exact ⟨j + 1, by go_num, by omega, rfl, L2.out, take_bad HY.out HNB.out HN3.out⟩
            · obtain rfl : N = j := by omega
              rw [List.take_of_length_le (by rw [HN.out]; exact Nat.le_refl _)] at hnb
              have HNG := Lib.hid (show (attL l).any (badB l order t) = false by
                rw [Bool.eq_false_iff]
                intro h
                obtain ⟨z, hz, hb⟩ := List.any_eq_true.1 h
                rw [hnb z hz] at hb
                cases hb)
              have hbA := bblk hB HBA.out
              have d0 := blk_cell hbA 0; have d1 := blk_cell hbA 1; have d2 := blk_cell hbA 2; have d3 := blk_cell hbA 3; have d4 := blk_cell hbA 4
              simp only [List.getElem?_toArray, List.getElem?_cons_zero, List.getElem?_cons_succ] at d0 d1 d2 d3 d4
              have HBAW := Lib.hid hbA
              have GW := Lib.hid (GA.out.below hB)
              have OW := Lib.hid (OA.out.trans (only_below hB _))
              have PW := Lib.hid (And.intro (pairs_grow PRA.out.1 hB) (pairs_grow PRA.out.2 hB))
              have hFI := fits_any GW.out (oneOf l C t, .slice ra r1 rc, .slice wa r2 wc) PW.out (HOK.out t) hvl
              unfold oneV at hFI
              dsimp only at hFI
              rw [HOW.out.1, HOW.out.2] at hFI
              have HFI := Lib.hid (show Calls Tryz.prog 41 #[ptr q, .agg #[.int .i64 t, .slice ra r1 rc, .slice wa r2 wc, .bool ow, .bool cm]] wr (fun e w' => e = .returned (.bool (fitsB (oneOf l C t) vs)) ∧ Below wr.heap.size wr w') from hFI)
              clear hFI hbA hnb hB HB HNB HBA GA OA PRA
              go_wp2_with fail
              refine HFI.out.mono ?_
              rintro e w4 ⟨rfl, l4⟩
              have G4 := Lib.hid (GW.out.below l4)
              have hbA := bblk l4 HBAW.out
              have O4 := Lib.hid (OW.out.trans (only_below l4 _))
              have P4 := Lib.hid (And.intro (pairs_grow PW.out.1 l4) (pairs_grow PW.out.2 l4))
              have d0 := blk_cell hbA 0; have d1 := blk_cell hbA 1; have d2 := blk_cell hbA 2; have d3 := blk_cell hbA 3; have d4 := blk_cell hbA 4
              simp only [List.getElem?_toArray, List.getElem?_cons_zero, List.getElem?_cons_succ] at d0 d1 d2 d3 d4
              have HBA4 := Lib.hid hbA
              clear l4 hbA GW OW PW HBAW
              cases hfi : fitsB (oneOf l C t) vs with
              | false =>
                have HN4 := Lib.hid (findSome_snoc HT.out HNO.out (by rw [if_neg]; unfold candB; rw [hfi]; simp))
                clear hfi
                go_wp2_with fail
                go_roundg (N - (k + 1))
                case measure => omega
                case rel => exact ⟨k + 1, by go_num, by omega, rfl, G4.out, O4.out, HN4.out⟩
              | true =>
                have hcand : candB l (oneOf l C) (attL l) order vs t = true := by unfold candB; rw [HIN.out, HNG.out, hfi]; rfl
                have HCAND := Lib.hid hcand
                have hLY := lay_any G4.out (oneOf l C t, .slice ra r1 rc, .slice wa r2 wc) P4.out (HOK.out t) (inP_of hfi) hvl
                unfold oneV at hLY
                dsimp only at hLY
                rw [HOW.out.1, HOW.out.2] at hLY
                have HLY := Lib.hid (show Calls Tryz.prog 42 #[ptr q, .agg #[.int .i64 t, .slice ra r1 rc, .slice wa r2 wc, .bool ow, .bool cm]] w4 (LayPost w4 q p n c l (.slice (some ⟨gb, 0, none⟩) N vc) hv (onesOf l C) vs (layL (oneOf l C t) vs)) from hLY)
                clear hLY hfi hcand
                go_wp2_with fail
                refine HLY.out.mono ?_
                rintro e w5 ⟨b2, b5, rfl, hG5, hBK, o5⟩
                have G5 := Lib.hid hG5; have BK := Lib.hid hBK
                have hb7 := o5.blk HBA4.out (row_ne G4.out.heap HBA4.out (by decide))
                have O5 := Lib.hid (O4.out.trans o5)
                have KS : ∀ W : World, Below w5.heap.size w5 W → W.cell? ⟨b7, 0, none⟩ = some (.int .i64 t) := fun W lW => by
                  have := blk_cell (bblk lW hb7) 0
                  exact this
                have HKS := Lib.hid KS
                have HKS2 := Lib.hid (show ∀ W8 W9 : World, Below w5.heap.size w5 W8 → Only (fun k => hv.ownBlock = some k) W8 W9 → W9.cell? ⟨b7, 0, none⟩ = some (.int .i64 t) from fun W8 W9 l8 o9 => by
                  have h8 := bblk l8 hb7
                  have := blk_cell (o9.blk h8 (row_ne (hG5.below l8).heap h8 (by decide))) 0
                  exact this)
                have l0 : Below w5.heap.size w5 w5.drew := (Below.refl _ _).drew
                have Q0 := HKS.out w5.drew l0
                have KN : ∀ (W : World) j u, ([.int .i64 t] : List Value)[j]? = some u → (W.alloc (.cells #[.int .i64 t] 3)).cell? ((⟨W.heap.size, 0, none⟩ : Addr).add j) = some u := by
                  intro W j u hu
                  rw [Addr.add_lit, Nat.zero_add, blk_cell (blk_new W _) j]
                  simpa using hu
                have hone : ∀ u ∈ ([.int .i64 t] : List Value), u.oneCell' = true := by
                  intro u hu
                  simp at hu
                  subst hu
                  rfl
                have hlm1 : on + 1 ≤ maxLen := by unfold maxLen; omega
                have hlb1 : (on + 1) * 8 ≤ 140737488355328 := by omega
                have HKN := Lib.hid KN; have HONE := Lib.hid hone
                have key : ∀ (a2 : Option Addr) (c2 : Nat) (w8 : World), Below w5.heap.size w5 w8 → w8.ownsRow w5.heap.size 3 1 (.slice a2 (on + 1) c2) (on + 1) ((order.map fun t => Value.int .i64 t) ++ [.int .i64 t]) →
                    Calls Tryz.prog 20 #[ptr q, .slice a2 (on + 1) c2] w8 (SearchPost w8 q p n c l C (.slice (some ⟨gb, 0, none⟩) N vc) hv (layL (oneOf l C t) vs) (searchL l (oneOf l C) (attL l) f' (order ++ [t]) (layL (oneOf l C t) vs))) := by
                  intro a2 c2 w8 l8 hrow
                  have hG8 := G5.out.below l8
                  have hrow2 : RowN w8 a2 (on + 1) c2 (order ++ [t]) := by
                    unfold RowN
                    rw [List.map_append]
                    exact ownsRow_base hrow fun _ _ => Nat.zero_le _
                  have hc2 : on + 1 ≤ c2 ∧ a2 ≠ none := by
                    rcases hrow.2 with ⟨_, h0⟩ | ⟨g, cap, cur, e, _, _, h1, _⟩
                    · exact absurd h0 (by omega)
                    · injection e with e1 e2 e3
                      subst e1 e3
                      exact ⟨h1, by simp⟩
                  have hol := HOL.out
                  refine HIH.out f' rfl w8 (layL (oneOf l C t) vs) (order ++ [t]) a2 (on + 1) c2 hG8 (by rw [layL_len]; exact hvl) (fun W oW => ?_) hc2.1 (fun e => absurd e hc2.2) (by rw [List.length_append, List.length_singleton, HN.out]; omega) (by rw [List.length_append, List.length_singleton, HN.out]; omega)
                  exact intsIn_of_row (ownsRow_only hrow2 oW fun k hk e => by obtain ⟨cs, hcs⟩ := row_obj hrow2 hk; exact row_ne hG8.heap hcs (by decide) e)
                have KEY := Lib.hid key
                clear KS KN hone key hb7 hG5 hBK o5 d0 d1 d2 d3 d4
                go_wp2_with fail
                refine wp_region_held_drew (S := fun w' => w'.cell? ⟨b7, 0, none⟩ = some (.int .i64 t)) (by kernel_rfl) Q0 (fun hS9 => ?_)
                refine wpAnyH_take2 (i := 0) (v := ?_) rfl (by kernel_rfl) (by kernel_rfl) (by kernel_rfl) (fun _ _ _ h => h) (Or.inl ⟨by rfl, ?_⟩) (by assumption) ?_; rotate_left; (focus (intro w hSw; (skip); (first | (go_simp; done) | (go_simp; with_reducible rfl)))); (try simp only [Act.put, List.setIfInBounds_toArray, List.set_cons_zero, List.set_cons_succ])
                refine wpAnyH_take2 (i := 1) (v := ?_) rfl (by kernel_rfl) (by kernel_rfl) (by kernel_rfl) (fun _ _ _ h => h) (Or.inl ⟨by rfl, ?_⟩) (by assumption) ?_; rotate_left; (focus (intro w hSw; (skip); (first | (go_simp; done) | (go_simp; with_reducible rfl)))); (try simp only [Act.put, List.setIfInBounds_toArray, List.set_cons_zero, List.set_cons_succ])
                refine wpAnyH_take2 (i := 3) (v := ?_) rfl (by kernel_rfl) (by kernel_rfl) (by kernel_rfl) (fun _ _ _ h => h) (Or.inl ⟨by rfl, ?_⟩) (by assumption) ?_; rotate_left; (focus (intro w hSw; (skip); (first | (go_simp; done) | (go_simp; with_reducible rfl)))); (try simp only [Act.put, List.setIfInBounds_toArray, List.set_cons_zero, List.set_cons_succ])
                refine wpAnyH_take2 (i := 4) (v := ?_) rfl (by kernel_rfl) (by kernel_rfl) (by kernel_rfl) (fun _ _ _ h => h) (Or.inl ⟨by rfl, ?_⟩) (by assumption) ?_; rotate_left; (focus (intro w hSw; (skip); (first | (go_simp; done) | (go_simp; with_reducible rfl)))); (try simp only [Act.put, List.setIfInBounds_toArray, List.set_cons_zero, List.set_cons_succ])
                refine wpAnyH_ready (rs := [2, 5]) (by kernel_rfl) (by simp) ?_
                refine AllReadyH_cons2 rfl (fun K hK => ?_) (AllReadyH_cons2 rfl (fun K hK => ?_) AllReadyH.nil)
                · have HCL := Lib.hid (cloneI_any w5.drew a on oc order (HO.out _ (O5.out.trans (only_below l0 _))) (by have := HOL.out; omega) HZ.out)
                  go_simp
                  refine HCL.out.mono ?_
                  rintro e w6 ⟨vcl, rfl, hcl, l6⟩
                  dsimp only
                  have l6' : Below w5.heap.size w5 w6 := btrans l0 (Nat.le_refl _) l6
                  have hge : ∀ k, vcl.ownBlock = some k → w5.heap.size ≤ k := fun k hk => (hcl.lt k hk).1
                  have hcl1 : w6.ownsRow w5.heap.size 3 1 vcl on (order.map fun t => Value.int .i64 t) := by
                    have := ownsRow_base hcl hge
                    rw [HOL.out] at this
                    exact this
                  clear hcl HCL l6
                  refine hK.out _ _ (HKS.out w6 l6') (fun hS9 => ?_); clear hK K; (try simp only [Act.put, List.setIfInBounds_toArray, List.set_cons_zero, List.set_cons_succ])
                  refine wpAnyH_ready (rs := [5]) (by kernel_rfl) (by simp) ?_; refine AllReadyH_cons2 rfl (fun K hK => ?_) AllReadyH.nil
                  go_simp
                  have lA : Below w6.heap.size w6 (w6.alloc (.cells #[.int .i64 t] 3)) := by repeat (first | (with_reducible exact Below.refl _ _) | (with_reducible apply Below.drew) | (with_reducible refine below_drewN ?_ _) | (with_reducible refine below_alloc' ?_ ?_ _; (focus ((try simp) <;> omega))) | (with_reducible refine below_set' ?_ ?_ _; (focus ((try simp) <;> omega))))
                  have l7 : Below w5.heap.size w5 (w6.alloc (.cells #[.int .i64 t] 3)) := btrans l6' (Nat.le_refl _) lA
                  have hcl2 := ownsRow_only hcl1 (Only.empty lA (Nat.le_refl _)) fun _ _ h => h
                  have knf := HKN.out w6
                  clear hcl1 lA l6'
                  refine hK.out _ _ (HKS.out _ l7) (fun hS9 => ?_); clear hK K; (try simp only [Act.put, List.setIfInBounds_toArray, List.set_cons_zero, List.set_cons_succ])
                  have hlt7 := l7.size
                  refine wpAnyH_ready (rs := [6]) (by kernel_rfl) (by simp) ?_; refine AllReadyH_cons2 rfl (fun K hK => ?_) AllReadyH.nil
                  refine step_append_own rfl (.tmp 78) (.tmp 81) 24 rfl w5.heap.size 3 i0 (.int .i64 0) 1 8 Tryz.underlying24 hi hz0 hz1 hz2 rfl (by decide) vcl on (order.map fun t => Value.int .i64 t) rfl hcl2 ⟨w6.heap.size, 0, none⟩ 1 1 [.int .i64 t] rfl rfl knf HONE.out hlm1 hlb1 hlt7 ?_
                  intro v2 w8 hown2 hgr _
                  have l8 : Below w5.heap.size w5 w8 := l7.grown hgr hlt7 hge
                  obtain ⟨na, nc, rfl⟩ := ownsRow_slice hown2
                  have KEY2 := Lib.hid (KEY.out na nc w8 l8 hown2)
                  have L8 := Lib.hid l8
                  clear hown2 hgr hcl2 hge l7 l8 knf hlt7
                  dsimp only
                  refine hK.out _ _ (HKS.out w8 L8.out) (fun hS9 => ?_); clear hK K; (try simp only [Act.put, List.setIfInBounds_toArray, List.set_cons_zero, List.set_cons_succ])
                  refine wpAnyH_ready (rs := [7]) (by kernel_rfl) (by simp) ?_; refine AllReadyH_cons2 rfl (fun K hK => ?_) AllReadyH.nil
                  go_simp
                  refine KEY2.out.mono ?_
                  rintro e w9 ⟨o9, hpost⟩
                  have O9 := Lib.hid o9
                  have s9 := HKS2.out w8 w9 L8.out o9
                  clear o9
                  rcases hpost with ⟨o, oa, oc2, hF, rfl, hoc2, hin⟩ | ⟨hF, rfl, hG9⟩
                  · have HF9 := Lib.hid hF; have HIN9 := Lib.hid (And.intro hoc2 hin)
                    clear hF hoc2 hin
                    dsimp only
                    refine hK.out _ _ s9 (fun hS9 => ?_); clear hK K; (try simp only [Act.put, List.setIfInBounds_toArray, List.set_cons_zero, List.set_cons_succ])
                    refine wpAnyH_take2 (i := 8) (v := ?_) rfl (by kernel_rfl) (by kernel_rfl) (by kernel_rfl) (fun _ _ _ h => h) (Or.inl ⟨by rfl, ?_⟩) (by assumption) ?_; rotate_left; (focus (intro w hSw; (skip); (first | (go_simp; done) | (go_simp; with_reducible rfl)))); (try simp only [Act.put, List.setIfInBounds_toArray, List.set_cons_zero, List.set_cons_succ])
                    refine wpAnyH_take2 (i := 9) (v := ?_) rfl (by kernel_rfl) (by kernel_rfl) (by kernel_rfl) (fun _ _ _ h => h) (Or.inl ⟨by rfl, ?_⟩) (by assumption) ?_; rotate_left; (focus (intro w hSw; (skip); (first | (go_simp; done) | (go_simp; with_reducible rfl)))); (try simp only [Act.put, List.setIfInBounds_toArray, List.set_cons_zero, List.set_cons_succ])
                    refine wpAnyH_take2 (i := 10) (v := ?_) rfl (by kernel_rfl) (by kernel_rfl) (by kernel_rfl) (fun _ _ _ h => h) (Or.inl ⟨by rfl, ?_⟩) (by assumption) ?_; rotate_left; (focus (intro w hSw; (skip); (first | (go_simp; done) | (go_simp; with_reducible rfl)))); (try simp only [Act.put, List.setIfInBounds_toArray, List.set_cons_zero, List.set_cons_succ])
                    refine wpAnyH_take2 (i := 11) (v := ?_) rfl (by kernel_rfl) (by kernel_rfl) (by kernel_rfl) (fun _ _ _ h => h) (Or.inl ⟨by rfl, ?_⟩) (by assumption) ?_; rotate_left; (focus (intro w hSw; (skip); (first | (go_simp; done) | (go_simp; with_reducible rfl)))); (try simp only [Act.put, List.setIfInBounds_toArray, List.set_cons_zero, List.set_cons_succ])
                    refine wpAnyH_take2 (i := 12) (v := ?_) rfl (by kernel_rfl) (by kernel_rfl) (by kernel_rfl) (fun _ _ _ h => h) (Or.inl ⟨by rfl, ?_⟩) (by assumption) ?_; rotate_left; (focus (intro w hSw; (skip); (first | (go_simp; done) | (go_simp; with_reducible rfl)))); (try simp only [Act.put, List.setIfInBounds_toArray, List.set_cons_zero, List.set_cons_succ])
                    refine wpAnyH_done (by kernel_rfl) ?_ _
                    go_wp2_with fail
                    try rw [Exit.noGoto_ret]
                    refine bodyPost_ret (v := .tuple #[.slice oa o.length oc2, .bool true]) ?_ rfl ?_; (focus (simp [results, Tryz.results20, go_sem, Nat.zero_le]; done))
                    exact ⟨O5.out.trans ((only_below L8.out _).trans O9.out), .inl ⟨o, oa, oc2, HX.out.symm.trans (findSome_at HT.out HNO.out (by rw [if_pos HCAND.out]; exact HF9.out)), rfl, HIN9.out.1, HIN9.out.2⟩⟩
                  · have HF9 := Lib.hid hF; have HG9 := Lib.hid hG9
                    have HB9 := Lib.hid (BK.out.turn ((only_below L8.out _).trans O9.out))
                    clear hF hG9
                    dsimp only
                    refine hK.out _ _ s9 (fun hS9 => ?_); clear hK K; (try simp only [Act.put, List.setIfInBounds_toArray, List.set_cons_zero, List.set_cons_succ])
                    refine wpAnyH_take2 (i := 8) (v := ?_) rfl (by kernel_rfl) (by kernel_rfl) (by kernel_rfl) (fun _ _ _ h => h) (Or.inl ⟨by rfl, ?_⟩) (by assumption) ?_; rotate_left; (focus (intro w hSw; (skip); (first | (go_simp; done) | (go_simp; with_reducible rfl)))); (try simp only [Act.put, List.setIfInBounds_toArray, List.set_cons_zero, List.set_cons_succ])
                    refine wpAnyH_take2 (i := 9) (v := ?_) rfl (by kernel_rfl) (by kernel_rfl) (by kernel_rfl) (fun _ _ _ h => h) (Or.inl ⟨by rfl, ?_⟩) (by assumption) ?_; rotate_left; (focus (intro w hSw; (skip); (first | (go_simp; done) | (go_simp; with_reducible rfl)))); (try simp only [Act.put, List.setIfInBounds_toArray, List.set_cons_zero, List.set_cons_succ])
                    refine wpAnyH_take2 (i := 10) (v := ?_) rfl (by kernel_rfl) (by kernel_rfl) (by kernel_rfl) (fun _ _ _ h => h) (Or.inl ⟨by rfl, ?_⟩) (by assumption) ?_; rotate_left; (focus (intro w hSw; (skip); (first | (go_simp; done) | (go_simp; with_reducible rfl)))); (try simp only [Act.put, List.setIfInBounds_toArray, List.set_cons_zero, List.set_cons_succ])
                    refine wpAnyH_take2 (i := 11) (v := ?_) rfl (by kernel_rfl) (by kernel_rfl) (by kernel_rfl) (fun _ _ _ h => h) (Or.inl ⟨by rfl, ?_⟩) (by assumption) ?_; rotate_left; (focus (intro w hSw; (skip); (first | (go_simp; done) | (go_simp; with_reducible rfl)))); (try simp only [Act.put, List.setIfInBounds_toArray, List.set_cons_zero, List.set_cons_succ])
                    refine wpAnyH_take2 (i := 12) (v := ?_) rfl (by kernel_rfl) (by kernel_rfl) (by kernel_rfl) (fun _ _ _ h => h) (Or.inl ⟨by rfl, ?_⟩) (by assumption) ?_; rotate_left; (focus (intro w hSw; (skip); (first | (go_simp; done) | (go_simp; with_reducible rfl)))); (try simp only [Act.put, List.setIfInBounds_toArray, List.set_cons_zero, List.set_cons_succ])
                    refine wpAnyH_done (by kernel_rfl) ?_ _
                    go_wp2_with fail
                    refine (back_any HG9.out b2 b5 HB9.out (layL_len _ _)).mono ?_
                    rintro e w10 ⟨rfl, hG10, o10⟩
                    have HG10 := Lib.hid hG10
                    have O10 := Lib.hid (O5.out.trans (((only_below L8.out _).trans O9.out).trans o10))
                    have HN10 := Lib.hid (findSome_snoc HT.out HNO.out (by rw [if_pos HCAND.out]; exact HF9.out))
                    clear hG10 o10
                    go_wp2_with fail
                    go_roundg (N - (k + 1))
                    case measure => omega
                    case rel => exact ⟨k + 1, by go_num, by omega, rfl, HG10.out, O10.out, HN10.out⟩
                · go_simp
                  have lA : Below w5.heap.size w5.drew (w5.drew.alloc (.cells #[.int .i64 t] 3)) := by repeat (first | (with_reducible exact Below.refl _ _) | (with_reducible apply Below.drew) | (with_reducible refine below_drewN ?_ _) | (with_reducible refine below_alloc' ?_ ?_ _; (focus ((try simp) <;> omega))) | (with_reducible refine below_set' ?_ ?_ _; (focus ((try simp) <;> omega))))
                  have l7' : Below w5.heap.size w5 (w5.drew.alloc (.cells #[.int .i64 t] 3)) := l0.trans lA
                  have kn1 := HKN.out w5.drew
                  refine hK.out _ _ (HKS.out _ l7') (fun hS9 => ?_); clear hK K; (try simp only [Act.put, List.setIfInBounds_toArray, List.set_cons_zero, List.set_cons_succ])
                  refine wpAnyH_ready (rs := [2]) (by kernel_rfl) (by simp) ?_; refine AllReadyH_cons2 rfl (fun K hK => ?_) AllReadyH.nil
                  have HCL := Lib.hid (cloneI_any (w5.drew.alloc (.cells #[.int .i64 t] 3)) a on oc order (HO.out _ (O5.out.trans (only_below l7' _))) (by have := HOL.out; omega) HZ.out)
                  go_simp
                  refine HCL.out.mono ?_
                  rintro e w6 ⟨vcl, rfl, hcl, l6⟩
                  dsimp only
                  have l7 : Below w5.heap.size w5 w6 := btrans l7' (Nat.le_refl _) l6
                  have hge : ∀ k, vcl.ownBlock = some k → w5.heap.size ≤ k := fun k hk => Nat.le_trans l7'.size (hcl.lt k hk).1
                  have hcl2 : w6.ownsRow w5.heap.size 3 1 vcl on (order.map fun t => Value.int .i64 t) := by
                    have := ownsRow_base hcl hge
                    rw [HOL.out] at this
                    exact this
                  have knf : ∀ j u, ([.int .i64 t] : List Value)[j]? = some u → w6.cell? ((⟨w5.drew.heap.size, 0, none⟩ : Addr).add j) = some u := fun j u hu => bkeep l6 (kn1 j u hu)
                  clear hcl HCL l6 l7' lA kn1
                  refine hK.out _ _ (HKS.out w6 l7) (fun hS9 => ?_); clear hK K; (try simp only [Act.put, List.setIfInBounds_toArray, List.set_cons_zero, List.set_cons_succ])
                  have hlt7 := l7.size
                  refine wpAnyH_ready (rs := [6]) (by kernel_rfl) (by simp) ?_; refine AllReadyH_cons2 rfl (fun K hK => ?_) AllReadyH.nil
                  refine step_append_own rfl (.tmp 78) (.tmp 81) 24 rfl w5.heap.size 3 i0 (.int .i64 0) 1 8 Tryz.underlying24 hi hz0 hz1 hz2 rfl (by decide) vcl on (order.map fun t => Value.int .i64 t) rfl hcl2 ⟨w5.drew.heap.size, 0, none⟩ 1 1 [.int .i64 t] rfl rfl knf HONE.out hlm1 hlb1 hlt7 ?_
                  intro v2 w8 hown2 hgr _
                  have l8 : Below w5.heap.size w5 w8 := l7.grown hgr hlt7 hge
                  obtain ⟨na, nc, rfl⟩ := ownsRow_slice hown2
                  have KEY2 := Lib.hid (KEY.out na nc w8 l8 hown2)
                  have L8 := Lib.hid l8
                  clear hown2 hgr hcl2 hge l7 l8 knf hlt7
                  dsimp only
                  refine hK.out _ _ (HKS.out w8 L8.out) (fun hS9 => ?_); clear hK K; (try simp only [Act.put, List.setIfInBounds_toArray, List.set_cons_zero, List.set_cons_succ])
                  refine wpAnyH_ready (rs := [7]) (by kernel_rfl) (by simp) ?_; refine AllReadyH_cons2 rfl (fun K hK => ?_) AllReadyH.nil
                  go_simp
                  refine KEY2.out.mono ?_
                  rintro e w9 ⟨o9, hpost⟩
                  have O9 := Lib.hid o9
                  have s9 := HKS2.out w8 w9 L8.out o9
                  clear o9
                  rcases hpost with ⟨o, oa, oc2, hF, rfl, hoc2, hin⟩ | ⟨hF, rfl, hG9⟩
                  · have HF9 := Lib.hid hF; have HIN9 := Lib.hid (And.intro hoc2 hin)
                    clear hF hoc2 hin
                    dsimp only
                    refine hK.out _ _ s9 (fun hS9 => ?_); clear hK K; (try simp only [Act.put, List.setIfInBounds_toArray, List.set_cons_zero, List.set_cons_succ])
                    refine wpAnyH_take2 (i := 8) (v := ?_) rfl (by kernel_rfl) (by kernel_rfl) (by kernel_rfl) (fun _ _ _ h => h) (Or.inl ⟨by rfl, ?_⟩) (by assumption) ?_; rotate_left; (focus (intro w hSw; (skip); (first | (go_simp; done) | (go_simp; with_reducible rfl)))); (try simp only [Act.put, List.setIfInBounds_toArray, List.set_cons_zero, List.set_cons_succ])
                    refine wpAnyH_take2 (i := 9) (v := ?_) rfl (by kernel_rfl) (by kernel_rfl) (by kernel_rfl) (fun _ _ _ h => h) (Or.inl ⟨by rfl, ?_⟩) (by assumption) ?_; rotate_left; (focus (intro w hSw; (skip); (first | (go_simp; done) | (go_simp; with_reducible rfl)))); (try simp only [Act.put, List.setIfInBounds_toArray, List.set_cons_zero, List.set_cons_succ])
                    refine wpAnyH_take2 (i := 10) (v := ?_) rfl (by kernel_rfl) (by kernel_rfl) (by kernel_rfl) (fun _ _ _ h => h) (Or.inl ⟨by rfl, ?_⟩) (by assumption) ?_; rotate_left; (focus (intro w hSw; (skip); (first | (go_simp; done) | (go_simp; with_reducible rfl)))); (try simp only [Act.put, List.setIfInBounds_toArray, List.set_cons_zero, List.set_cons_succ])
                    refine wpAnyH_take2 (i := 11) (v := ?_) rfl (by kernel_rfl) (by kernel_rfl) (by kernel_rfl) (fun _ _ _ h => h) (Or.inl ⟨by rfl, ?_⟩) (by assumption) ?_; rotate_left; (focus (intro w hSw; (skip); (first | (go_simp; done) | (go_simp; with_reducible rfl)))); (try simp only [Act.put, List.setIfInBounds_toArray, List.set_cons_zero, List.set_cons_succ])
                    refine wpAnyH_take2 (i := 12) (v := ?_) rfl (by kernel_rfl) (by kernel_rfl) (by kernel_rfl) (fun _ _ _ h => h) (Or.inl ⟨by rfl, ?_⟩) (by assumption) ?_; rotate_left; (focus (intro w hSw; (skip); (first | (go_simp; done) | (go_simp; with_reducible rfl)))); (try simp only [Act.put, List.setIfInBounds_toArray, List.set_cons_zero, List.set_cons_succ])
                    refine wpAnyH_done (by kernel_rfl) ?_ _
                    go_wp2_with fail
                    try rw [Exit.noGoto_ret]
                    refine bodyPost_ret (v := .tuple #[.slice oa o.length oc2, .bool true]) ?_ rfl ?_; (focus (simp [results, Tryz.results20, go_sem, Nat.zero_le]; done))
                    exact ⟨O5.out.trans ((only_below L8.out _).trans O9.out), .inl ⟨o, oa, oc2, HX.out.symm.trans (findSome_at HT.out HNO.out (by rw [if_pos HCAND.out]; exact HF9.out)), rfl, HIN9.out.1, HIN9.out.2⟩⟩
                  · have HF9 := Lib.hid hF; have HG9 := Lib.hid hG9
                    have HB9 := Lib.hid (BK.out.turn ((only_below L8.out _).trans O9.out))
                    clear hF hG9
                    dsimp only
                    refine hK.out _ _ s9 (fun hS9 => ?_); clear hK K; (try simp only [Act.put, List.setIfInBounds_toArray, List.set_cons_zero, List.set_cons_succ])
                    refine wpAnyH_take2 (i := 8) (v := ?_) rfl (by kernel_rfl) (by kernel_rfl) (by kernel_rfl) (fun _ _ _ h => h) (Or.inl ⟨by rfl, ?_⟩) (by assumption) ?_; rotate_left; (focus (intro w hSw; (skip); (first | (go_simp; done) | (go_simp; with_reducible rfl)))); (try simp only [Act.put, List.setIfInBounds_toArray, List.set_cons_zero, List.set_cons_succ])
                    refine wpAnyH_take2 (i := 9) (v := ?_) rfl (by kernel_rfl) (by kernel_rfl) (by kernel_rfl) (fun _ _ _ h => h) (Or.inl ⟨by rfl, ?_⟩) (by assumption) ?_; rotate_left; (focus (intro w hSw; (skip); (first | (go_simp; done) | (go_simp; with_reducible rfl)))); (try simp only [Act.put, List.setIfInBounds_toArray, List.set_cons_zero, List.set_cons_succ])
                    refine wpAnyH_take2 (i := 10) (v := ?_) rfl (by kernel_rfl) (by kernel_rfl) (by kernel_rfl) (fun _ _ _ h => h) (Or.inl ⟨by rfl, ?_⟩) (by assumption) ?_; rotate_left; (focus (intro w hSw; (skip); (first | (go_simp; done) | (go_simp; with_reducible rfl)))); (try simp only [Act.put, List.setIfInBounds_toArray, List.set_cons_zero, List.set_cons_succ])
                    refine wpAnyH_take2 (i := 11) (v := ?_) rfl (by kernel_rfl) (by kernel_rfl) (by kernel_rfl) (fun _ _ _ h => h) (Or.inl ⟨by rfl, ?_⟩) (by assumption) ?_; rotate_left; (focus (intro w hSw; (skip); (first | (go_simp; done) | (go_simp; with_reducible rfl)))); (try simp only [Act.put, List.setIfInBounds_toArray, List.set_cons_zero, List.set_cons_succ])
                    refine wpAnyH_take2 (i := 12) (v := ?_) rfl (by kernel_rfl) (by kernel_rfl) (by kernel_rfl) (fun _ _ _ h => h) (Or.inl ⟨by rfl, ?_⟩) (by assumption) ?_; rotate_left; (focus (intro w hSw; (skip); (first | (go_simp; done) | (go_simp; with_reducible rfl)))); (try simp only [Act.put, List.setIfInBounds_toArray, List.set_cons_zero, List.set_cons_succ])
                    refine wpAnyH_done (by kernel_rfl) ?_ _
                    go_wp2_with fail
                    refine (back_any HG9.out b2 b5 HB9.out (layL_len _ _)).mono ?_
                    rintro e w10 ⟨rfl, hG10, o10⟩
                    have HG10 := Lib.hid hG10
                    have O10 := Lib.hid (O5.out.trans (((only_below L8.out _).trans O9.out).trans o10))
                    have HN10 := Lib.hid (findSome_snoc HT.out HNO.out (by rw [if_pos HCAND.out]; exact HF9.out))
                    clear hG10 o10
                    go_wp2_with fail
                    go_roundg (N - (k + 1))
                    case measure => omega
                    case rel => exact ⟨k + 1, by go_num, by omega, rfl, HG10.out, O10.out, HN10.out⟩
      · obtain rfl : k = N := by omega
        rw [List.take_of_length_le (by rw [HN.out]; exact Nat.le_refl _)] at hno
        have hx : R = none := by rw [← HX.out]; exact hno
        subst hx
        clear hno hGr hOr
        go_wp2_with fail
        try rw [Exit.noGoto_ret]
        refine bodyPost_ret (v := .tuple #[.slice none 0 0, .bool false]) ?_ rfl ?_; (focus (simp [results, Tryz.results20, go_sem, Nat.zero_le]; done))
        exact ⟨HOR.out, .inr ⟨rfl, rfl, HGR.out⟩⟩
end Go.Proofs.YtganmdbhmihjpaaGreat.Opa
