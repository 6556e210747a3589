/- The document's side: the k-th order of some. -/
import Derived.Test.YtganmdbhmihjpaaGreatOpaAE
import Derived.Test.YtganmdbhmihjpaaGreatOpaAH
import Derived.Deep.LoopGhost
namespace Go.Proofs.YtganmdbhmihjpaaGreat.Opa
open Go.RowKit Go.Proofs.YtganmdbhmihjpaaGreat.Wri Go.Proofs.YtganmdbhmihjpaaGreat.His
set_option linter.unusedSimpArgs false
set_option linter.unusedVariables false
set_option maxRecDepth 50000

theorem fct_le : ∀ n, n ≤ 6 → fct n ≤ 720 := by decide
theorem fct_step {j : Nat} (h : 2 ≤ j) : fct (j - 1) * j = fct j := by
  obtain ⟨i, rfl⟩ : ∃ i, j = i + 1 := ⟨j - 1, by omega⟩
  rw [fct, Nat.add_sub_cancel, Nat.mul_comm]
theorem fct_small {n : Nat} (h : n < 2) : fct (n - 1) = 1 ∧ fct n = 1 := by
  match n, h with
  | 0, _ => exact ⟨rfl, rfl⟩
  | 1, _ => exact ⟨rfl, rfl⟩
theorem wrap64_at {n : Int} (h : -9223372036854775808 ≤ n ∧ n ≤ 9223372036854775807) : wrap64 n = n := by unfold wrap64; omega
theorem quo_small {kk f : Nat} (h : kk < 720) : wrap64 ((kk : Int) / (f : Int)) = ((kk / f : Nat) : Int) := by
  rw [← Int.natCast_ediv]
  have := Nat.div_le_self kk f
  generalize kk / f = q at *
  exact wrap64_at ⟨by omega, by omega⟩
theorem quo_facts {kk r f : Nat} (hf : 0 < f) (hk : kk < (r + 1) * f) (hk7 : kk < 720) :
    ∃ q m : Nat, kk / f = q ∧ kk % f = m ∧ q ≤ r ∧ m < f ∧ wrap64 ((kk : Int) / (f : Int)) = (q : Int) ∧ (kk : Int) % (f : Int) = (m : Int) :=
  ⟨kk / f, kk % f, rfl, rfl, Nat.lt_succ_iff.1 (Nat.div_lt_of_lt_mul (by rw [Nat.mul_comm]; exact hk)), Nat.mod_lt _ hf, quo_small hk7, (Int.natCast_emod kk f).symm⟩
theorem fct_quo (r : Nat) (h : r + 1 ≤ 6) : wrap64 (((fct (r + 1) : Nat) : Int) / ((r + 1 : Nat) : Int)) = ((fct r : Nat) : Int) := by
  have e : fct (r + 1) / (r + 1) = fct r := by rw [fct]; exact Nat.mul_div_cancel_left _ (Nat.succ_pos r)
  have h7 := fct_le r (by omega)
  rw [← Int.natCast_ediv, e]
  exact wrap64_at ⟨by omega, by omega⟩
theorem news_take {w : World} {b off n : Nat} {ts : List Int} (h : IntsIn w (some ⟨b, off, none⟩) n ts) {q : Nat} (hq : q ≤ n) :
    ((ts.take q).map fun t => Value.int .i64 t).length = q * 1 ∧ ∀ (j : Nat) u, ((ts.take q).map fun t => Value.int .i64 t)[j]? = some u → w.cell? ((⟨b, off, none⟩ : Addr).add j) = some u := by
  refine ⟨by rw [List.length_map, List.length_take, h.1]; omega, fun j u hu => ?_⟩
  have hj : j < q := by
    have := (List.getElem?_eq_some_iff.1 hu).1
    rw [List.length_map, List.length_take] at this
    omega
  obtain ⟨b', off', e, hc⟩ := h.2.resolve_left (by omega)
  injection e with e
  injection e with e1 e2 _
  subst e1 e2
  have h2 := hc j (by omega)
  rw [List.getElem?_map, List.getElem?_take, if_pos hj, List.getElem?_eq_getElem (by rw [h.1]; omega)] at hu
  rw [List.getD_eq_getElem?_getD, List.getElem?_eq_getElem (by rw [h.1]; omega)] at h2
  rw [Addr.add_lit, h2]
  exact hu
theorem news_drop {w : World} {b off r : Nat} {ts : List Int} (h : IntsIn w (some ⟨b, off, none⟩) (r + 1) ts) {q : Nat} (hq : q ≤ r) :
    ((ts.drop (q + 1)).map fun t => Value.int .i64 t).length = (r - q) * 1 ∧ ∀ (j : Nat) u, ((ts.drop (q + 1)).map fun t => Value.int .i64 t)[j]? = some u → w.cell? ((⟨b, off + (q + 1), none⟩ : Addr).add j) = some u := by
  refine ⟨by rw [List.length_map, List.length_drop, h.1]; omega, fun j u hu => ?_⟩
  have hj : j < r - q := by
    have := (List.getElem?_eq_some_iff.1 hu).1
    rw [List.length_map, List.length_drop, h.1] at this
    omega
  obtain ⟨b', off', e, hc⟩ := h.2.resolve_left (by omega)
  injection e with e
  injection e with e1 e2 _
  subst e1 e2
  have h2 := hc (q + 1 + j) (by omega)
  rw [List.getElem?_map, List.getElem?_drop, List.getElem?_eq_getElem (by rw [h.1]; omega)] at hu
  rw [List.getD_eq_getElem?_getD, List.getElem?_eq_getElem (by rw [h.1]; omega)] at h2
  rw [Addr.add_lit, show off + (q + 1) + j = off + (q + 1 + j) by omega, h2]
  exact hu
theorem news_none {ts : List Int} {r q : Nat} (h : ts.length = r + 1) (hq : r = q) (w : World) (b off : Nat) :
    ((ts.drop (q + 1)).map fun t => Value.int .i64 t).length = 0 * 1 ∧ ∀ (j : Nat) u, ((ts.drop (q + 1)).map fun t => Value.int .i64 t)[j]? = some u → w.cell? ((⟨b, off, none⟩ : Addr).add j) = some u := by
  subst hq
  have e : ts.drop (r + 1) = [] := List.drop_eq_nil_of_le (by omega)
  rw [e]
  exact ⟨by simp, fun j u hu => by simp at hu⟩
theorem row_cap {w : World} {B : Nat} {e : TypeId} {size n c : Nat} {a : Option Addr} {xs : List Value} (h : w.ownsRow B e size (.slice a n c) n xs) : n ≤ c := by
  rcases h.2 with ⟨e, h0⟩ | ⟨g, cap, cur, e, _, _, hn, _⟩
  · omega
  · injection e with _ _ e
    omega
/-- what holds at the next round -/
theorem turn_next {w w2 w5 : World} {ov : Value} {out left : List Int} {x : Int} {a : Option Addr} {r nc : Nat} (ho : w2.ownsRow w.heap.size 3 1 ov (out.length + 1) ((out.map fun t => Value.int .i64 t) ++ [.int .i64 x])) (hB : Below w.heap.size w w2) (l5 : Below w2.heap.size w2 w5)
    (h6 : w5.ownsRow w2.heap.size 3 1 (.slice a r nc) r (left.map fun t => Value.int .i64 t)) (hl : left.length = r) :
    IntsAt w.heap.size w5 ov (out ++ [x]) ∧ (∀ W, Only (fun b => ov.ownBlock = some b) w5 W → IntsIn W a r left) ∧ Below w.heap.size w w5 := by
  refine ⟨?_, fun W o => ?_, btrans hB (Nat.le_refl _) l5⟩
  · unfold IntsAt
    rw [List.length_append, List.map_append]
    exact ownsRow_only ho (Only.empty l5 (Nat.le_refl _)) fun _ _ h => h
  · have h7 := ownsRow_only h6 o fun k hk e => by
      have h1 := (World.ownsRow.lt h6 k hk).1
      have h2 := ownsRow_lt ho e
      omega
    exact intsIn_of_row (show RowN W a r nc left from by unfold RowN; exact ownsRow_base h7 fun _ _ => Nat.zero_le _)
set_option maxHeartbeats 12800000 in
theorem rturned_any (w : World) (a : Option Addr) (n c : Nat) (ts : List Int) (k : Nat) (h : IntsIn w a n ts) (hn : n ≤ 6) (hk : k < fct n) (hz : a = none → n = 0 ∧ c = 0) :
    Calls Tryz.prog 23 #[.slice a n c, .int .i64 k] w fun e w' => ∃ v, e = .returned v ∧ IntsAt w.heap.size w' v (permL n ts k) ∧ Below w.heap.size w w' := by
  obtain ⟨i0, hi, hz0, hz1, hz2⟩ := info_parts infoI
  have hE : (w.alloc (.cells #[] 3)).ownsRow w.heap.size 3 1 (.slice (some ⟨w.heap.size, 0, none⟩) 0 0) 0 [] := by
    have := World.ownsRow_lit (base := w.heap.size) (e := 3) (size := 1) w #[] 0 (Nat.le_refl _) (by decide) (by simp)
    simpa using this
  have HE := Lib.hid hE; have HL := Lib.hid h.1; have HI := Lib.hid h; have HZ := Lib.hid hz
  clear hE h hz
  go_enter Tryz.func23, Tryz.ntmps23
  go_wp2_with (at_builtin; refine wpList_append_vals (w.alloc (.cells #[] 3)) rfl _ _ 24 rfl w.heap.size 3 i0 (.int .i64 0) 1 8 Tryz.underlying24 hi hz0 hz1 hz2 rfl (by decide) _ 0 [] rfl HE.out a n c (ts.map fun t => Value.int .i64 t) rfl ?c0 HZ.out ?c1 (intVals_one _) ?c3 ?c4 ?c5 ?_)
  case c0 => exact (by rw [List.length_map, HL.out, Nat.mul_one])
  case c1 =>
    intro pa hpa j u hu
    subst hpa
    have hj : j < n := by
      have := (List.getElem?_eq_some_iff.1 hu).1
      rw [List.length_map, HL.out] at this
      exact this
    rcases HI.out.2 with h0 | ⟨b, off, e, hc⟩
    · omega
    · injection e with e
      subst e
      rw [intVals_get ts j (by rw [HL.out]; exact hj)] at hu
      injection hu with hu
      rw [Addr.add_lit, ← hu]
      exact bkeep ((Below.refl _ _).alloc (Nat.le_refl _) _) (hc j hj)
  case c3 => unfold maxLen; omega
  case c4 => omega
  case c5 => simp
  intro hv w1 hown hgr
  have hB : Below w.heap.size w w1 := ((Below.refl _ w).alloc (Nat.le_refl _) (.cells #[] 3)).grown hgr (by simp) (by simp [Value.ownBlock])
  have HV := Lib.hid (show w1.ownsRow w.heap.size 3 1 hv n (ts.map fun t => Value.int .i64 t) from by simpa using hown)
  have HB := Lib.hid hB
  clear hown hgr hB HE
  go_wp2_with fail
  go_loopw [6, 7] (fun mv i wr => ∃ j : Nat, i = .int .i64 j ∧ 2 ≤ j ∧ (j ≤ n ∨ j = 2) ∧ mv = .int .i64 (fct (j - 1) : Nat) ∧ w1 = wr) (fun _ i _ => n - (intOf i).toNat)
  case atStart => exact ⟨2, rfl, Nat.le_refl _, .inr rfl, rfl, rfl⟩
  case round =>
    obtain ⟨j, rfl, hj2, hjn, rfl, rfl⟩ := hrel
    by_cases hlt : j < n
    · have hlt' : (j : Int) < n := by omega
      have hf := fct_le j (by omega)
      have hs := fct_step hj2
      have hw1 : IntKind.i64.wrap (((fct (j - 1) : Nat) : Int) * (j : Int)) = ((fct j : Nat) : Int) := by
        rw [← Int.natCast_mul, hs, IntKind.wrap_i64]
        omega
      have hw2 : IntKind.i64.wrap ((j : Int) + 1) = (j : Int) + 1 := by rw [IntKind.wrap_i64]; omega
      have HW1 := Lib.hid hw1
      clear hs hf
      go_wp2_with fail
      exact ⟨⟨j + 1, by go_num, by omega, .inl (by omega), by first | rfl | (rw [HW1.out]; rfl), by first | exact rfl | exact trivial⟩, by simp [intOf]; omega⟩
    · have hmany : fct (j - 1) = fct (n - 1) := by
        by_cases h2 : n < 2
        · obtain rfl : j = 2 := by omega
          rw [(fct_small h2).1]
          rfl
        · obtain rfl : j = n := by omega
          rfl
      rw [hmany]
      have hlt' : ¬ (j : Int) < n := by omega
      clear hmany
      go_wp2_with fail
      obtain ⟨la, lc, rfl⟩ := ownsRow_slice HV.out
      have HCAP := Lib.hid (show n ≤ lc ∧ (la = none → n = 0) from by
        rcases HV.out.2 with ⟨e, h0⟩ | ⟨g, cap, cur, e, _, _, hn, _⟩
        · exact ⟨by omega, fun _ => h0⟩
        · injection e with e1 _ e3
          rw [e3]
          exact ⟨hn, fun h => by rw [h] at e1; cases e1⟩)
      go_loopg [1, 5, 6, 8] n (fun r kv lv mv ov wr => ∃ (left out : List Int) (kk lc : Nat) (la : Option Addr), kv = .int .i64 kk ∧ lv = .slice la r lc ∧ r ≤ n ∧ r ≤ lc ∧ kk < fct r ∧ mv = .int .i64 (fct (r - 1) : Nat) ∧ out ++ permL r left kk = permL n ts k ∧ out.length + r = n ∧ IntsAt w.heap.size wr ov out ∧ (∀ W, Only (fun b => ov.ownBlock = some b) wr W → IntsIn W la r left) ∧ Below w.heap.size w wr)
      case atStart =>
        refine ⟨ts, [], k, lc, la, rfl, rfl, Nat.le_refl _, HCAP.out.1, hk, rfl, rfl, by simp, World.ownsRow_nil _ _ _ _, fun W o => ?_, HB.out⟩
        obtain ⟨a', c', e, hi'⟩ := (show IntsAt w.heap.size W (.slice la n lc) ts from by
          unfold IntsAt
          rw [HL.out]
          exact ownsRow_only HV.out o fun b _ hb => by cases hb).open
        injection e with e1 _ _
        subst e1
        rw [HL.out] at hi'
        exact hi'
      case round =>
        obtain ⟨left, out, kk, lc, la, rfl, rfl, hrn, hrc, hkk, rfl, hper, hol, hO, hLI, hB⟩ := hrel
        obtain ⟨wo, rfl⟩ : ∃ wo, wo = wr := ⟨wr, rfl⟩
        have HO := Lib.hid hO; have HLI := Lib.hid hLI; have HB2 := Lib.hid hB; have HPER := Lib.hid hper; have HOL := Lib.hid hol
        clear hO hLI hB hper hol
        cases gk with
        | zero =>
          have hO := HO.out
          have hp := HPER.out
          rw [show permL 0 left kk = [] from rfl, List.append_nil] at hp
          rw [hp] at hO
          have HO2 := Lib.hid hO
          clear hO hp
          go_wp2_with fail
          go_ret
          exact ⟨_, rfl, HO2.out, HB2.out⟩
        | succ r =>
          have hrn' : r + 1 ≤ 6 := by omega
          have hr0 : (0 : Int) < ((r + 1 : Nat) : Int) := by omega
          have hf0 : ¬ (((fct r : Nat) : Int) = 0) := by have := fct_pos r; omega
          have hf1 : ¬ (fct r = 0) := by have := fct_pos r; omega
          obtain ⟨q, m, hq, hm, hqr, hmf, hwq, hwm⟩ := quo_facts (fct_pos r) hkk (Nat.lt_of_lt_of_le hkk (fct_le (r + 1) hrn'))
          have HQ := Lib.hid hq; have HM := Lib.hid hm; have HWQ := Lib.hid (And.intro hwq hwm); have HMF := Lib.hid hmf
          clear hq hm hwq hwm hmf
          have hin := HLI.out wo (Only.refl _ _)
          obtain ⟨b, off, rfl, hc⟩ := hin.2.resolve_left (by omega)
          have c0 := hc q (by omega)
          have HLL := Lib.hid hin.1
          obtain ⟨x, hx⟩ : ∃ x, left.getD q 0 = x := ⟨_, rfl⟩
          rw [hx] at c0
          have HX := Lib.hid hx
          have hqi : (q : Int) < ((r + 1 : Nat) : Int) := by omega
          have hq0 : (0 : Int) ≤ q := by omega
          have hq7 : q < 720 := by omega
          clear hin hc hx hkk
          have hwq := HWQ.out.1; have hwm := HWQ.out.2
          go_wp2_with (at_builtin; refine wpList_append_own _ rfl _ _ 24 rfl w.heap.size 3 i0 (.int .i64 0) 1 8 Tryz.underlying24 hi hz0 hz1 hz2 rfl (by decide) _ out.length (out.map fun t => Value.int .i64 t) rfl (ownsRow_only HO.out (Only.empty (show Below wo.heap.size wo (wo.alloc (.cells #[.int .i64 x] 3)) from by repeat (first | (with_reducible exact Below.refl _ _) | (with_reducible apply Below.drew) | (with_reducible refine below_drewN ?_ _) | (with_reducible refine below_alloc' ?_ ?_ _; (focus ((try simp) <;> omega))) | (with_reducible refine below_set' ?_ ?_ _; (focus ((try simp) <;> omega))))) (Nat.le_refl _)) (fun _ _ h => h)) ⟨wo.heap.size, 0, none⟩ 1 1 [.int .i64 x] rfl rfl ?c1 ?c2 ?c3 ?c4 ?c5 ?_)
          case c1 =>
            intro j u hu
            rw [Addr.add_lit, Nat.zero_add, blk_cell (blk_new wo _) j]
            simpa using hu
          case c2 =>
            intro u hu
            simp at hu
            subst hu
            rfl
          case c3 => clear hwq hwm; have := HOL.out; unfold maxLen; omega
          case c4 => clear hwq hwm; have := HOL.out; omega
          case c5 => clear hwq hwm; have := HB2.out.size; simp; omega
          intro ov2 w2 hown hgr _
          clear hwq hwm hf0 hf1
          have lA : Below wo.heap.size wo (wo.alloc (.cells #[.int .i64 x] 3)) := by repeat (first | (with_reducible exact Below.refl _ _) | (with_reducible apply Below.drew) | (with_reducible refine below_drewN ?_ _) | (with_reducible refine below_alloc' ?_ ?_ _; (focus ((try simp) <;> omega))) | (with_reducible refine below_set' ?_ ?_ _; (focus ((try simp) <;> omega))))
          have hL2 := HLI.out w2 ((only_below lA _).trans (Only.of_grown hgr fun k h => h))
          have hB2 : Below w.heap.size w w2 := (btrans HB2.out (Nat.le_refl _) lA).grown hgr (Nat.le_trans HB2.out.size (by simp)) (fun k hk => (World.ownsRow.lt HO.out k hk).1)
          have HOW := Lib.hid hown; have HL2 := Lib.hid hL2; have HBB := Lib.hid hB2
          clear hown hgr lA hL2 hB2 HO HLI HB2 c0
          go_wp2_with fail
          have hq1 : IntKind.i64.wrap ((q : Int) + 1) = ((q + 1 : Nat) : Int) := by rw [IntKind.wrap_i64]; omega
          have hqc : q ≤ lc := by omega
          have hqc' : (q : Int) ≤ lc := by omega
          have hqc1 : q + 1 ≤ lc := by omega
          have hqc1' : ((q + 1 : Nat) : Int) ≤ lc := by omega
          have hqr1' : ((q + 1 : Nat) : Int) ≤ ((r + 1 : Nat) : Int) := by omega
          have hqr1 : q + 1 ≤ r + 1 := by omega
          have hrc' : ((r + 1 : Nat) : Int) ≤ lc := by omega
          have hqa : (q : Int) ≤ (q : Int) + 1 := by omega
          have hqb : (0 : Int) ≤ (q : Int) + 1 := by omega
          by_cases hkd : lc = q + 1
          · have HRQ := Lib.hid (show r = q by omega)
            subst hkd
            refine wp_region_held_drew (S := fun _ => True) (by kernel_rfl) trivial (fun hS9 => ?_)
            refine wpAnyH_take2 (i := 1) (v := ?_) rfl (by kernel_rfl) (by kernel_rfl) (by kernel_rfl) (fun _ _ _ h => h) (Or.inl ⟨by rfl, ?_⟩) (by assumption) ?_; rotate_left; (focus (intro w hSw; (skip); (first | (go_simp; done) | (go_simp; with_reducible rfl)))); (try simp only [Act.put, List.setIfInBounds_toArray, List.set_cons_zero, List.set_cons_succ])
            refine wpAnyH_take2 (i := 2) (v := ?_) rfl (by kernel_rfl) (by kernel_rfl) (by kernel_rfl) (fun _ _ _ h => h) (Or.inl ⟨by rfl, ?_⟩) (by assumption) ?_; rotate_left; (focus (intro w hSw; (skip); (first | (go_simp; done) | (go_simp; with_reducible rfl)))); (try simp only [Act.put, List.setIfInBounds_toArray, List.set_cons_zero, List.set_cons_succ])
            refine wpAnyH_take2 (i := 3) (v := ?_) rfl (by kernel_rfl) (by kernel_rfl) (by kernel_rfl) (fun _ _ _ h => h) (Or.inl ⟨by rfl, ?_⟩) (by assumption) ?_; rotate_left; (focus (intro w hSw; (skip); (first | (go_simp; done) | (go_simp; with_reducible rfl)))); (try simp only [Act.put, List.setIfInBounds_toArray, List.set_cons_zero, List.set_cons_succ])
            refine wpAnyH_take2 (i := 5) (v := ?_) rfl (by kernel_rfl) (by kernel_rfl) (by kernel_rfl) (fun _ _ _ h => h) (Or.inl ⟨by rfl, ?_⟩) (by assumption) ?_; rotate_left; (focus (intro w hSw; (skip); (first | (go_simp; done) | (go_simp; with_reducible rfl)))); (try simp only [Act.put, List.setIfInBounds_toArray, List.set_cons_zero, List.set_cons_succ])
            refine wpAnyH_take2 (i := 6) (v := ?_) rfl (by kernel_rfl) (by kernel_rfl) (by kernel_rfl) (fun _ _ _ h => h) (Or.inl ⟨by rfl, ?_⟩) (by assumption) ?_; rotate_left; (focus (intro w hSw; (skip); (first | (go_simp; done) | (go_simp; with_reducible rfl)))); (try simp only [Act.put, List.setIfInBounds_toArray, List.set_cons_zero, List.set_cons_succ])
            refine wpAnyH_take2 (i := 7) (v := ?_) rfl (by kernel_rfl) (by kernel_rfl) (by kernel_rfl) (fun _ _ _ h => h) (Or.inl ⟨by rfl, ?_⟩) (by assumption) ?_; rotate_left; (focus (intro w hSw; (skip); (first | (go_simp; done) | (go_simp; with_reducible rfl)))); (try simp only [Act.put, List.setIfInBounds_toArray, List.set_cons_zero, List.set_cons_succ])
            refine wpAnyH_take2 (i := 8) (v := ?_) rfl (by kernel_rfl) (by kernel_rfl) (by kernel_rfl) (fun _ _ _ h => h) (Or.inl ⟨by rfl, ?_⟩) (by assumption) ?_; rotate_left; (focus (intro w hSw; (skip); (first | (go_simp; done) | (go_simp; with_reducible rfl)))); (try simp only [Act.put, List.setIfInBounds_toArray, List.set_cons_zero, List.set_cons_succ])
            refine wpAnyH_ready (rs := [0]) (by kernel_rfl) (by simp) ?_; refine AllReadyH_cons2 rfl (fun K hK => ?_) AllReadyH.nil
            go_simp
            have lA : Below w2.heap.size w2.drew (w2.drew.alloc (.cells #[] 3)) := by repeat (first | (with_reducible exact Below.refl _ _) | (with_reducible apply Below.drew) | (with_reducible refine below_drewN ?_ _) | (with_reducible refine below_alloc' ?_ ?_ _; (focus ((try simp) <;> omega))) | (with_reducible refine below_set' ?_ ?_ _; (focus ((try simp) <;> omega))))
            have hE4 : (w2.drew.alloc (.cells #[] 3)).ownsRow w2.heap.size 3 1 (.slice (some ⟨w2.drew.heap.size, 0, none⟩) 0 0) 0 [] := by
              have := World.ownsRow_lit (base := w2.heap.size) (e := 3) (size := 1) w2.drew #[] 0 (Nat.le_refl _) (by decide) (by simp)
              simpa using this
            have l3 : Below w2.heap.size w2 (w2.drew.alloc (.cells #[] 3)) := (Below.refl w2.heap.size w2).drew.trans lA
            have n1 := news_take (HL2.out.below l3) (show q ≤ r + 1 by omega)
            refine hK.out _ _ trivial (fun hS9 => ?_); clear hK K; (try simp only [Act.put, List.setIfInBounds_toArray, List.set_cons_zero, List.set_cons_succ])
            refine wpAnyH_ready (rs := [4]) (by kernel_rfl) (by simp) ?_; refine AllReadyH_cons2 rfl (fun K hK => ?_) AllReadyH.nil
            refine step_append_own rfl (.tmp 38) (.tmp 41) 24 rfl w2.heap.size 3 i0 (.int .i64 0) 1 8 Tryz.underlying24 hi hz0 hz1 hz2 rfl (by decide) _ 0 [] rfl hE4 ⟨b, off, none⟩ q (q + 1) ((left.take q).map fun t => Value.int .i64 t) rfl n1.1 n1.2 (intVals_one _) (by unfold maxLen; omega) (by omega) (by simp) ?_
            intro v4 w4 own4 hgr4 _
            have l4 : Below w2.heap.size w2 w4 := l3.grown hgr4 l3.size (fun k hk => (World.ownsRow.lt hE4 k hk).1)
            have n2 := news_none (show left.length = r + 1 from HLL.out) HRQ.out w4 b off
            refine hK.out _ _ trivial (fun hS9 => ?_); clear hK K; (try simp only [Act.put, List.setIfInBounds_toArray, List.set_cons_zero, List.set_cons_succ])
            refine wpAnyH_ready (rs := [9]) (by kernel_rfl) (by simp) ?_; refine AllReadyH_cons2 rfl (fun K hK => ?_) AllReadyH.nil
            refine step_append_own rfl (.tmp 42) (.tmp 46) 24 rfl w2.heap.size 3 i0 (.int .i64 0) 1 8 Tryz.underlying24 hi hz0 hz1 hz2 rfl (by decide) v4 (0 + q) ([] ++ (left.take q).map fun t => Value.int .i64 t) rfl own4 ⟨b, off, none⟩ 0 0 ((left.drop (q + 1)).map fun t => Value.int .i64 t) rfl n2.1 n2.2 (intVals_one _) (by unfold maxLen; omega) (by omega) l4.size ?_
            intro v5 w5 own5 hgr5 _
            have l5 : Below w2.heap.size w2 w5 := l4.grown hgr5 l4.size (fun k hk => (World.ownsRow.lt own4 k hk).1)
            have own6 : w5.ownsRow w2.heap.size 3 1 v5 r ((left.eraseIdx q).map fun t => Value.int .i64 t) := by
              rw [List.eraseIdx_eq_take_drop_succ, List.map_append]
              have := own5
              rw [List.nil_append, show 0 + q + 0 = r by have := HRQ.out; omega] at this
              exact this
            obtain ⟨na, nc, rfl⟩ := ownsRow_slice own6
            have NEXT := Lib.hid (turn_next HOW.out HBB.out l5 own6 (by rw [List.length_eraseIdx_of_lt (by rw [HLL.out]; omega), HLL.out]; rfl))
            have hnr := row_cap own6
            clear own5 own6 own4 hgr5 hgr4 n1 n2 l3 l4 l5 lA hE4
            refine hK.out _ _ trivial (fun hS9 => ?_); clear hK K; (try simp only [Act.put, List.setIfInBounds_toArray, List.set_cons_zero, List.set_cons_succ])
            refine wpAnyH_take2 (i := 10) (v := ?_) rfl (by kernel_rfl) (by kernel_rfl) (by kernel_rfl) (fun _ _ _ h => h) (Or.inl ⟨by rfl, ?_⟩) (by assumption) ?_; rotate_left; (focus (intro w hSw; (skip); (first | (go_simp; done) | (go_simp; with_reducible rfl)))); (try simp only [Act.put, List.setIfInBounds_toArray, List.set_cons_zero, List.set_cons_succ])
            refine wpAnyH_done (by kernel_rfl) ?_ _
            have hper2 : (out ++ [x]) ++ permL r (left.eraseIdx q) m = permL n ts k := by
              have hp := HPER.out
              rw [permL, HQ.out, HM.out, HX.out] at hp
              rw [← hp]
              simp
            have HPER2 := Lib.hid hper2
            clear hper2
            cases r with
            | zero =>
              go_wp2_with fail
              go_roundg 0
              case measure => omega
              case rel => exact ⟨left.eraseIdx q, out ++ [x], m, nc, na, rfl, rfl, Nat.zero_le _, Nat.zero_le _, HMF.out, rfl, HPER2.out, by have := HOL.out; simp; omega, NEXT.out.1, NEXT.out.2.1, NEXT.out.2.2⟩
            | succ r =>
              have HFQ := Lib.hid (fct_quo r (by omega))
              have hr1 : (0 : Int) < ((r + 1 : Nat) : Int) := by omega
              have hr2 : ¬ (((r + 1 : Nat) : Int) = 0) := by omega
              go_wp2_with fail
              go_roundg (r + 1)
              case measure => omega
              case rel => exact ⟨left.eraseIdx q, out ++ [x], m, nc, na, rfl, rfl, by omega, hnr, HMF.out, congrArg (Value.int .i64) HFQ.out, HPER2.out, by have := HOL.out; simp; omega, NEXT.out.1, NEXT.out.2.1, NEXT.out.2.2⟩
          · have HKD := Lib.hid hkd
            refine wp_region_held_drew (S := fun _ => True) (by kernel_rfl) trivial (fun hS9 => ?_)
            refine wpAnyH_take2 (i := 1) (v := ?_) rfl (by kernel_rfl) (by kernel_rfl) (by kernel_rfl) (fun _ _ _ h => h) (Or.inl ⟨by rfl, ?_⟩) (by assumption) ?_; rotate_left; (focus (intro w hSw; (skip); (first | (go_simp; done) | (go_simp; with_reducible rfl)))); (try simp only [Act.put, List.setIfInBounds_toArray, List.set_cons_zero, List.set_cons_succ])
            refine wpAnyH_take2 (i := 2) (v := ?_) rfl (by kernel_rfl) (by kernel_rfl) (by kernel_rfl) (fun _ _ _ h => h) (Or.inl ⟨by rfl, ?_⟩) (by assumption) ?_; rotate_left; (focus (intro w hSw; (skip); (first | (go_simp; done) | (go_simp; with_reducible rfl)))); (try simp only [Act.put, List.setIfInBounds_toArray, List.set_cons_zero, List.set_cons_succ])
            refine wpAnyH_take2 (i := 3) (v := ?_) rfl (by kernel_rfl) (by kernel_rfl) (by kernel_rfl) (fun _ _ _ h => h) (Or.inl ⟨by rfl, ?_⟩) (by assumption) ?_; rotate_left; (focus (intro w hSw; (skip); (first | (go_simp; done) | (go_simp; with_reducible rfl)))); (try simp only [Act.put, List.setIfInBounds_toArray, List.set_cons_zero, List.set_cons_succ])
            refine wpAnyH_take2 (i := 5) (v := ?_) rfl (by kernel_rfl) (by kernel_rfl) (by kernel_rfl) (fun _ _ _ h => h) (Or.inl ⟨by rfl, ?_⟩) (by assumption) ?_; rotate_left; (focus (intro w hSw; (skip); (first | (go_simp; done) | (go_simp; with_reducible rfl)))); (try simp only [Act.put, List.setIfInBounds_toArray, List.set_cons_zero, List.set_cons_succ])
            refine wpAnyH_take2 (i := 6) (v := ?_) rfl (by kernel_rfl) (by kernel_rfl) (by kernel_rfl) (fun _ _ _ h => h) (Or.inl ⟨by rfl, ?_⟩) (by assumption) ?_; rotate_left; (focus (intro w hSw; (skip); (first | (go_simp; done) | (go_simp; with_reducible rfl)))); (try simp only [Act.put, List.setIfInBounds_toArray, List.set_cons_zero, List.set_cons_succ])
            refine wpAnyH_take2 (i := 7) (v := ?_) rfl (by kernel_rfl) (by kernel_rfl) (by kernel_rfl) (fun _ _ _ h => h) (Or.inl ⟨by rfl, ?_⟩) (by assumption) ?_; rotate_left; (focus (intro w hSw; (skip); (first | (go_simp; done) | (go_simp; with_reducible rfl)))); (try simp only [Act.put, List.setIfInBounds_toArray, List.set_cons_zero, List.set_cons_succ])
            refine wpAnyH_take2 (i := 8) (v := ?_) rfl (by kernel_rfl) (by kernel_rfl) (by kernel_rfl) (fun _ _ _ h => h) (Or.inl ⟨by rfl, ?_⟩) (by assumption) ?_; rotate_left; (focus (intro w hSw; (skip); (first | (go_simp; done) | (go_simp; with_reducible rfl)))); (try simp only [Act.put, List.setIfInBounds_toArray, List.set_cons_zero, List.set_cons_succ])
            refine wpAnyH_ready (rs := [0]) (by kernel_rfl) (by simp) ?_; refine AllReadyH_cons2 rfl (fun K hK => ?_) AllReadyH.nil
            go_simp
            have lA : Below w2.heap.size w2.drew (w2.drew.alloc (.cells #[] 3)) := by repeat (first | (with_reducible exact Below.refl _ _) | (with_reducible apply Below.drew) | (with_reducible refine below_drewN ?_ _) | (with_reducible refine below_alloc' ?_ ?_ _; (focus ((try simp) <;> omega))) | (with_reducible refine below_set' ?_ ?_ _; (focus ((try simp) <;> omega))))
            have hE4 : (w2.drew.alloc (.cells #[] 3)).ownsRow w2.heap.size 3 1 (.slice (some ⟨w2.drew.heap.size, 0, none⟩) 0 0) 0 [] := by
              have := World.ownsRow_lit (base := w2.heap.size) (e := 3) (size := 1) w2.drew #[] 0 (Nat.le_refl _) (by decide) (by simp)
              simpa using this
            have l3 : Below w2.heap.size w2 (w2.drew.alloc (.cells #[] 3)) := (Below.refl w2.heap.size w2).drew.trans lA
            have n1 := news_take (HL2.out.below l3) (show q ≤ r + 1 by omega)
            refine hK.out _ _ trivial (fun hS9 => ?_); clear hK K; (try simp only [Act.put, List.setIfInBounds_toArray, List.set_cons_zero, List.set_cons_succ])
            refine wpAnyH_ready (rs := [4]) (by kernel_rfl) (by simp) ?_; refine AllReadyH_cons2 rfl (fun K hK => ?_) AllReadyH.nil
            refine step_append_own rfl (.tmp 38) (.tmp 41) 24 rfl w2.heap.size 3 i0 (.int .i64 0) 1 8 Tryz.underlying24 hi hz0 hz1 hz2 rfl (by decide) _ 0 [] rfl hE4 ⟨b, off, none⟩ q lc ((left.take q).map fun t => Value.int .i64 t) rfl n1.1 n1.2 (intVals_one _) (by unfold maxLen; omega) (by omega) (by simp) ?_
            intro v4 w4 own4 hgr4 _
            have l4 : Below w2.heap.size w2 w4 := l3.grown hgr4 l3.size (fun k hk => (World.ownsRow.lt hE4 k hk).1)
            have n2 := news_drop (HL2.out.below l4) (show q ≤ r from hqr)
            refine hK.out _ _ trivial (fun hS9 => ?_); clear hK K; (try simp only [Act.put, List.setIfInBounds_toArray, List.set_cons_zero, List.set_cons_succ])
            refine wpAnyH_ready (rs := [9]) (by kernel_rfl) (by simp) ?_; refine AllReadyH_cons2 rfl (fun K hK => ?_) AllReadyH.nil
            refine step_append_own rfl (.tmp 42) (.tmp 46) 24 rfl w2.heap.size 3 i0 (.int .i64 0) 1 8 Tryz.underlying24 hi hz0 hz1 hz2 rfl (by decide) v4 (0 + q) ([] ++ (left.take q).map fun t => Value.int .i64 t) rfl own4 ⟨b, off + (q + 1), none⟩ (r - q) (lc - (q + 1)) ((left.drop (q + 1)).map fun t => Value.int .i64 t) rfl n2.1 n2.2 (intVals_one _) (by unfold maxLen; omega) (by omega) l4.size ?_
            intro v5 w5 own5 hgr5 _
            have l5 : Below w2.heap.size w2 w5 := l4.grown hgr5 l4.size (fun k hk => (World.ownsRow.lt own4 k hk).1)
            have own6 : w5.ownsRow w2.heap.size 3 1 v5 r ((left.eraseIdx q).map fun t => Value.int .i64 t) := by
              rw [List.eraseIdx_eq_take_drop_succ, List.map_append]
              have := own5
              rw [List.nil_append, show 0 + q + (r - q) = r by omega] at this
              exact this
            obtain ⟨na, nc, rfl⟩ := ownsRow_slice own6
            have NEXT := Lib.hid (turn_next HOW.out HBB.out l5 own6 (by rw [List.length_eraseIdx_of_lt (by rw [HLL.out]; omega), HLL.out]; rfl))
            have hnr := row_cap own6
            clear own5 own6 own4 hgr5 hgr4 n1 n2 l3 l4 l5 lA hE4
            refine hK.out _ _ trivial (fun hS9 => ?_); clear hK K; (try simp only [Act.put, List.setIfInBounds_toArray, List.set_cons_zero, List.set_cons_succ])
            refine wpAnyH_take2 (i := 10) (v := ?_) rfl (by kernel_rfl) (by kernel_rfl) (by kernel_rfl) (fun _ _ _ h => h) (Or.inl ⟨by rfl, ?_⟩) (by assumption) ?_; rotate_left; (focus (intro w hSw; (skip); (first | (go_simp; done) | (go_simp; with_reducible rfl)))); (try simp only [Act.put, List.setIfInBounds_toArray, List.set_cons_zero, List.set_cons_succ])
            refine wpAnyH_done (by kernel_rfl) ?_ _
            have hper2 : (out ++ [x]) ++ permL r (left.eraseIdx q) m = permL n ts k := by
              have hp := HPER.out
              rw [permL, HQ.out, HM.out, HX.out] at hp
              rw [← hp]
              simp
            have HPER2 := Lib.hid hper2
            clear hper2
            cases r with
            | zero =>
              go_wp2_with fail
              go_roundg 0
              case measure => omega
              case rel => exact ⟨left.eraseIdx q, out ++ [x], m, nc, na, rfl, rfl, Nat.zero_le _, Nat.zero_le _, HMF.out, rfl, HPER2.out, by have := HOL.out; simp; omega, NEXT.out.1, NEXT.out.2.1, NEXT.out.2.2⟩
            | succ r =>
              have HFQ := Lib.hid (fct_quo r (by omega))
              have hr1 : (0 : Int) < ((r + 1 : Nat) : Int) := by omega
              have hr2 : ¬ (((r + 1 : Nat) : Int) = 0) := by omega
              go_wp2_with fail
              go_roundg (r + 1)
              case measure => omega
              case rel => exact ⟨left.eraseIdx q, out ++ [x], m, nc, na, rfl, rfl, by omega, hnr, HMF.out, congrArg (Value.int .i64) HFQ.out, HPER2.out, by have := HOL.out; simp; omega, NEXT.out.1, NEXT.out.2.1, NEXT.out.2.2⟩
end Go.Proofs.YtganmdbhmihjpaaGreat.Opa
