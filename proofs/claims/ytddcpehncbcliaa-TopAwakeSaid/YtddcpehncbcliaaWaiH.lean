/- Who is registered ahead of a write is awake behind it. -/
import Derived.Test.YtddcpehncbcliaaWaiK
namespace Go.Proofs.Ytddcpehncbcliaa.Wai
open Go.RowKit
set_option linter.unusedSimpArgs false
set_option linter.unusedVariables false

section
variable {P : Program} {ops : Array Oper} {Q : Exit → Act → World → Prop} {md : Region.Mode} {S : World → Prop}
theorem wpAnyH_take2 {i : Nat} {oi : Oper} {v : Value} {fuel : Nat} {listed : Array Bool} {a : Act} {w : World} (hi' : ops.toList[i]? = some oi)
    (hs : Region.noSelect ops = true) (hf : Region.free md ops listed i = true) (hr : (Region.ready md ops listed).contains i = true)
    (hQ : ∀ c a w, Q (.panic c) (a.put oi.dst v) w → Q (.panic c) a w) (hy : YieldsIf P ops S oi v a) (hS : S w)
    (h : wpAnyH P md ops Q S fuel (listed.setIfInBounds i true) (a.put oi.dst v) w) : wpAnyH P md ops Q S (fuel + 1) listed a w :=
  wpAnyH_take (by rw [← Array.getElem?_toList]; exact hi') hs hf hr hQ hy hS h
theorem AllReadyH_cons2 {fuel : Nat} {listed : Array Bool} {a : Act} {w : World} {i : Nat} {o : Oper} {rs : List Nat} (ho' : ops.toList[i]? = some o)
    (h : ∀ K' : Act → World → Prop, Shut (∀ a w, S w → (S w → wpAnyH P md ops Q S fuel (listed.setIfInBounds i true) a w) → K' a w) → if Region.wanted o (yielded ops a.tmps) = true then Oper.wp P o a w K' Q else K' (a.put o.dst undef) w)
    (hs : AllReadyH P md ops Q S fuel listed a w rs) : AllReadyH P md ops Q S fuel listed a w (i :: rs) :=
  AllReadyH.cons (by rw [← Array.getElem?_toList]; exact ho') h hs
end
theorem cells_a42 : Try.prog.cellsOf 52 = 8 := by kernel_rfl
theorem cells_a2 : Try.prog.cellsOf 51 = 2 := by kernel_rfl
theorem cells_a4b : Try.prog.cellsOf 53 = 4 := by kernel_rfl
theorem cells_bool : Try.prog.cellsOf 4 = 1 := by kernel_rfl
theorem a2_of {H : Type} {enc : TypeId × Value → H} {w : World} {c0 c1 : Value} (h : Fits enc Try.prog w 51 [c0, c1]) : ∃ x y : Int, (0 ≤ x ∧ x < 256) ∧ (0 ≤ y ∧ y < 256) ∧ c0 = .int .u8 x ∧ c1 = .int .u8 y := by
  obtain ⟨_, hf⟩ := h.array Try.underlying51
  have h0 := hf 0 (by decide); have h1 := hf 1 (by decide)
  rw [cells_u8] at h0 h1
  obtain ⟨x, e0, w0⟩ := h0.int (k := .u8) (by kernel_rfl)
  obtain ⟨y, e1, w1⟩ := h1.int (k := .u8) (by kernel_rfl)
  simp at e0 e1
  have b0 := bounds_u8 w0; have b1 := bounds_u8 w1
  exact ⟨x, y, ⟨b0.1, by have := b0.2; omega⟩, ⟨b1.1, by have := b1.2; omega⟩, e0, e1⟩
theorem a42_of {H : Type} {enc : TypeId × Value → H} {w : World} {cs : List Value} (h : Fits enc Try.prog w 52 cs) : ∃ f : Nat → Int, (∀ i, 0 ≤ f i ∧ f i < 256) ∧ cs = (List.range 8).map fun i => .int .u8 (f i) := by
  obtain ⟨hl, hf⟩ := h.array Try.underlying52
  rw [cells_a42] at hl
  match cs, hl with
  | [c0, c1, c2, c3, c4, c5, c6, c7], _ =>
    have h0 := hf 0 (by decide); have h1 := hf 1 (by decide); have h2 := hf 2 (by decide); have h3 := hf 3 (by decide)
    rw [cells_a2] at h0 h1 h2 h3
    obtain ⟨x0, x1, b0, b1, rfl, rfl⟩ := a2_of h0
    obtain ⟨x2, x3, b2, b3, rfl, rfl⟩ := a2_of h1
    obtain ⟨x4, x5, b4, b5, rfl, rfl⟩ := a2_of h2
    obtain ⟨x6, x7, b6, b7, rfl, rfl⟩ := a2_of h3
    refine ⟨fun i => match i with | 0 => x0 | 1 => x1 | 2 => x2 | 3 => x3 | 4 => x4 | 5 => x5 | 6 => x6 | 7 => x7 | _ => 0, fun i => ?_, rfl⟩
    match i with
    | 0 => exact b0
    | 1 => exact b1
    | 2 => exact b2
    | 3 => exact b3
    | 4 => exact b4
    | 5 => exact b5
    | 6 => exact b6
    | 7 => exact b7
    | n + 8 => exact (show (0 : Int) ≤ 0 ∧ (0 : Int) < 256 from ⟨Int.le_refl 0, by decide⟩)
theorem a4b_of {H : Type} {enc : TypeId × Value → H} {w : World} {cs : List Value} (h : Fits enc Try.prog w 53 cs) : ∃ f : Nat → Bool, cs = (List.range 4).map fun i => .bool (f i) := by
  obtain ⟨hl, hf⟩ := h.array Try.underlying53
  rw [cells_a4b] at hl
  match cs, hl with
  | [c0, c1, c2, c3], _ =>
    have h0 := hf 0 (by decide); have h1 := hf 1 (by decide); have h2 := hf 2 (by decide); have h3 := hf 3 (by decide)
    rw [cells_bool] at h0 h1 h2 h3
    obtain ⟨x0, e0⟩ := h0.bool (by kernel_rfl)
    obtain ⟨x1, e1⟩ := h1.bool (by kernel_rfl)
    obtain ⟨x2, e2⟩ := h2.bool (by kernel_rfl)
    obtain ⟨x3, e3⟩ := h3.bool (by kernel_rfl)
    simp at e0 e1 e2 e3
    refine ⟨fun i => match i with | 0 => x0 | 1 => x1 | 2 => x2 | _ => x3, ?_⟩
    rw [e0, e1, e2, e3]
    rfl
/-! ### the plain law -/
def xOf (f : Nat → Int) (s : Nat → Bool) (k : Nat) : Wt := ⟨k, setN [f (2 * k) % 12, f (2 * k + 1) % 12], s k⟩
def wsOf (f : Nat → Int) (s : Nat → Bool) : Nat → Ws
  | 0 => []
  | k + 1 => wsOf f s k ++ [xOf f s k]
theorem wsOf_mem (f : Nat → Int) (s : Nat → Bool) (i : Nat) : ∀ k, i < k → xOf f s i ∈ wsOf f s k := by
  intro k
  induction k with
  | zero => intro h; omega
  | succ k ih =>
    intro h
    rw [wsOf, List.mem_append]
    rcases Nat.lt_or_ge i k with h1 | h1
    · exact .inl (ih h1)
    · obtain rfl : i = k := by omega
      exact .inr (by simp)
theorem wsOf_none (f : Nat → Int) (s : Nat → Bool) (i : Nat) : ∀ k, k ≤ i → findW (wsOf f s k) i = none := by
  intro k
  induction k with
  | zero => intro _; rfl
  | succ k ih =>
    intro h
    rw [wsOf, findW_snoc, ih (by omega), if_neg (by show ¬ (k : Int) = i; omega)]
    rfl
theorem pair_ok (f : Nat → Int) (k : Nat) : ([f (2 * k) % 12, f (2 * k + 1) % 12]).all okB = true := by
  simp [okB]
  omega
theorem meet_pair (f : Nat → Int) (s : Nat → Bool) (k : Nat) (v : Int) (hv : okB v = true) : meets (setR [v]) (xOf f s k) = (v == f (2 * k) % 12 || v == f (2 * k + 1) % 12) := by
  have hall := List.all_eq_true.1 (pair_ok f k)
  have h0 := okB_iff.1 hv
  rw [meets_one (setN_lt hall), hv, Bool.true_and]
  show (setN _).testBit _ = _
  rw [setN_bit (fun x hx => (okB_iff.1 (hall x hx)).1), show ((v.toNat : Nat) : Int) = v by omega]
  rw [Bool.eq_iff_iff, decide_eq_true_iff]
  simp
theorem find_wake {ws : Ws} (h : WfW ws) (u : Nat) {x : Wt} (hx : x ∈ ws) : findW (wakeS ws u) x.th = if meets u x then none else some x := by
  cases hm : meets u x
  · rw [if_neg (by decide)]
    exact findW_at (WfW.wake h u).nodup (List.mem_filter.2 ⟨hx, by simp [hm]⟩)
  · rw [if_pos rfl, findW_none]
    intro hin
    obtain ⟨z, hz, he⟩ := List.mem_map.1 hin
    obtain ⟨hz1, hz2⟩ := List.mem_filter.1 hz
    have e1 := findW_at h.nodup hz1
    have e2 := findW_at h.nodup hx
    rw [he, e2] at e1
    injection e1 with e1
    subst e1
    rw [hm] at hz2
    cases hz2
theorem awake_of {f : Nat → Int} {s : Nat → Bool} (h : WfW (wsOf f s 4)) (u k : Nat) (hk : k < 4) : decide (0 < ((bitsOf (gOf (wakeS (wsOf f s 4) u) k) 12).length : Int)) = !meets u (xOf f s k) := by
  have hf := find_wake h u (wsOf_mem f s k 4 hk)
  rw [of_len (WfW.wake h u)]
  rw [show (xOf f s k).th = (k : Int) from rfl] at hf
  rw [Bool.eq_iff_iff, decide_eq_true_iff, mem_ths, hf]
  cases meets u (xOf f s k) <;> simp
theorem awake_sl {f : Nat → Int} {s : Nat → Bool} (h : WfW (wsOf f s 4)) (u k : Nat) (hk : k < 4) : gSl (wakeS (wsOf f s 4) u) k = (s k && !meets u (xOf f s k)) := by
  have hf := find_wake h u (wsOf_mem f s k 4 hk)
  rw [show (xOf f s k).th = (k : Int) from rfl] at hf
  unfold gSl
  rw [hf]
  cases meets u (xOf f s k)
  · show s k = _; simp
  · simp
theorem reg_one {f : Nat → Int} {s : Nat → Bool} {k : Nat} (hk : k < 4) : regE (wsOf f s k) k [f (2 * k) % 12, f (2 * k + 1) % 12] = 0 ∧ regS (wsOf f s k) k [f (2 * k) % 12, f (2 * k + 1) % 12] = wsOf f s k ++ [⟨k, setN [f (2 * k) % 12, f (2 * k + 1) % 12], false⟩] := by
  have hE : regE (wsOf f s k) k [f (2 * k) % 12, f (2 * k + 1) % 12] = 0 := by
    rw [regE_th ⟨by omega, by omega⟩ (pair_ok f k), if_neg (by simp), wsOf_none f s k k (Nat.le_refl _)]
    rfl
  exact ⟨hE, by unfold regS; rw [if_pos hE]⟩
theorem sleep_one {ws : Ws} {th : Int} {n : Nat} (ht : okTh th) (hf : findW ws th = none) : sleepE (ws ++ [⟨th, n, false⟩]) th = 0 ∧ sleepS (ws ++ [⟨th, n, false⟩]) th = ws ++ [⟨th, n, true⟩] := by
  have hE : sleepE (ws ++ [⟨th, n, false⟩]) th = 0 := by
    unfold sleepE
    rw [if_neg (by simpa using ht), findW_snoc, hf]
    simp
  refine ⟨hE, ?_⟩
  unfold sleepS
  rw [if_pos hE]
  unfold bedded
  rw [List.map_append]
  congr 1
  · conv => rhs; rw [← List.map_id ws]
    refine List.map_congr_left fun x hx => ?_
    rw [if_neg (fun he => findW_none.1 hf (List.mem_map.2 ⟨x, hx, he⟩))]
    rfl
  · simp
theorem f_cell {w : World} {b : Nat} {f : Nat → Int} {c : Array Value} {t : TypeId} (hb : w.heap[b]? = some (.cells c t (0, 0))) (hc : c.toList = (List.range 8).map fun i => .int .u8 (f i)) (i : Nat) (hi : i < 8) : w.cell? ⟨b, i, none⟩ = some (.int .u8 (f i)) := by
  rw [blk_cell hb, ← Array.getElem?_toList, hc, List.getElem?_map, List.getElem?_range hi]
  rfl
theorem s_cell {w : World} {b : Nat} {f : Nat → Bool} {c : Array Value} {t : TypeId} (hb : w.heap[b]? = some (.cells c t (0, 0))) (hc : c.toList = (List.range 4).map fun i => .bool (f i)) (i : Nat) (hi : i < 4) : w.cell? ⟨b, i, none⟩ = some (.bool (f i)) := by
  rw [blk_cell hb, ← Array.getElem?_toList, hc, List.getElem?_map, List.getElem?_range hi]
  rfl
set_option maxRecDepth 50000 in
set_option maxHeartbeats 6400000 in
theorem awake_law {H : Type} (enc : TypeId × Value → H) (w : World) (co : Array Value) (h1 : Fits enc Try.prog w 52 co.toList) (cz : Array Value) (h2 : Fits enc Try.prog w 53 cz.toList) (a2 : Option Addr) (len2 cap2 : Nat) (h3 : Fits enc Try.prog w 38 [.slice a2 len2 cap2]) :
    Calls Try.prog 9 #[.agg co, .agg cz, .slice a2 len2 cap2] w fun e w' => e = .returned (.bool true) ∧ Below w.heap.size w w' := by
  obtain ⟨i0, hi, hz0, hz1, hz2⟩ := info_parts infoI
  obtain ⟨f, hf, hco⟩ := a42_of h1
  obtain ⟨s, hcz⟩ := a4b_of h2
  obtain ⟨hm2, us, hus⟩ := bytes_of h3
  have HUS := Lib.hid hus; have HF := Lib.hid hf; have HCO := Lib.hid hco; have HCZ := Lib.hid hcz
  obtain ⟨x, hx⟩ : ∃ x, w.heap.size = x := ⟨_, rfl⟩
  have L0 := Lib.hid (show Below w.heap.size w ((w.alloc (.cells co 52)).alloc (.cells cz 53)) from by repeat (first | (with_reducible exact Below.refl _ _) | (with_reducible apply Below.drew) | (with_reducible refine below_drewN ?_ _) | (with_reducible refine below_alloc' ?_ ?_ _; (focus ((try simp) <;> omega))) | (with_reducible refine below_set' ?_ ?_ _; (focus ((try simp) <;> omega)))))
  have hb1 := blk_alloc (blk_new w (.cells co 52)) (.cells cz 53)
  have hb2 := blk_new (w.alloc (.cells co 52)) (.cells cz 53)
  have hs1 : (w.alloc (.cells co 52)).heap.size = w.heap.size + 1 := by simp
  rw [hs1] at hb2
  rw [hx] at hb1 hb2
  have HX := Lib.hid hx
  have hsz1 : co.size = 8 := by have := congrArg List.length hco; simpa using this
  have hsz2 : cz.size = 4 := by have := congrArg List.length hcz; simpa using this
  have hsW : ((w.alloc (.cells co 52)).alloc (.cells cz 53)).heap.size = x + 2 := by simp [← hx]
  clear h1 h2 h3 hus hf hco hcz hs1
  go_enter Try.func9, Try.ntmps9
  go_wp2_with fail
  obtain ⟨W, hW⟩ : ∃ W, (w.alloc (.cells co 52)).alloc (.cells cz 53) = W := ⟨_, rfl⟩
  rw [hW] at hb1 hb2 hsW L0 ⊢
  have HB1 := Lib.hid hb1; have HB2 := Lib.hid hb2
  have KO := Lib.hid (show ∀ w', Below W.heap.size W w' → (∀ i, i < 8 → w'.cell? ⟨x, i, none⟩ = some (.int .u8 (f i))) ∧ (∀ i, i < 4 → w'.cell? ⟨x + 1, i, none⟩ = some (.bool (s i))) from fun w' l => ⟨f_cell (bblk l HB1.out) HCO.out, s_cell (bblk l HB2.out) HCZ.out⟩)
  clear hb1 hb2 hW
  refine (new_any W).mono ?_
  rintro e w1 ⟨b, rfl, h1, l1⟩
  have HP1 := Lib.hid (show Ply W w1 b (Grow (fun _ => False) W w1) 0 (wsOf f s 0) from ⟨h1, l1, fun k hk => by rcases hk with hk | hk; exact hk.elim; exact hk.1⟩)
  clear h1 l1
  go_wp2_with fail
  go_loopw [8] (fun i wr => ∃ (k n : Nat) (F : Nat → Prop), i = .int .i64 k ∧ k ≤ 4 ∧ n ≤ 2 * k ∧ Ply W wr b F n (wsOf f s k)) (fun i _ => 4 - (intOf i).toNat)
  case atStart => exact ⟨0, 0, _, rfl, Nat.zero_le _, Nat.le_refl _, HP1.out⟩
  case round =>
    clear HP1
    obtain ⟨k, n, F, rfl, hk, hn, hP⟩ := hrel
    have HP := Lib.hid hP
    clear hP
    by_cases hlt : k < 4
    · have hkk : (k : Int) < 4 := by omega
      obtain ⟨hE, hS⟩ := reg_one (f := f) (s := s) hlt
      have hfp := HF.out (2 * k); have hfr := HF.out (2 * k + 1)
      have KS := Lib.hid (show ∀ w', Below W.heap.size W w' → (w'.cell? ⟨x, k * 2, none⟩ = some (.int .u8 (f (2 * k))) ∧ w'.cell? ⟨x, k * 2 + 1, none⟩ = some (.int .u8 (f (2 * k + 1))) ∧ w'.cell? ⟨x + 1, k, none⟩ = some (.bool (s k))) from fun w' l => by
        have h := KO.out w' l
        have h1 := h.1 (2 * k) (by omega); have h2 := h.1 (2 * k + 1) (by omega)
        rw [Nat.mul_comm 2 k] at h1 h2
        rw [Nat.mul_comm 2 k]
        exact ⟨h1, h2, h.2 k hlt⟩)
      have HWS := Lib.hid (show wsOf f s (k + 1) = wsOf f s k ++ [⟨k, setN [f (2 * k) % 12, f (2 * k + 1) % 12], s k⟩] from rfl)
      have HNO := Lib.hid (wsOf_none f s k k (Nat.le_refl _))
      generalize f (2 * k) = p at *
      generalize f (2 * k + 1) = r at *
      have q1 : IntKind.i64.wrap p = p := by rw [IntKind.wrap_i64]; omega
      have q2 : IntKind.i64.wrap r = r := by rw [IntKind.wrap_i64]; omega
      have t1 : p.tmod 12 = p % 12 := Int.tmod_eq_emod_of_nonneg hfp.1
      have t2 : r.tmod 12 = r % 12 := Int.tmod_eq_emod_of_nonneg hfr.1
      obtain ⟨p', hp'⟩ : ∃ p', p.tmod 12 = p' := ⟨_, rfl⟩
      obtain ⟨r', hr'⟩ : ∃ r', r.tmod 12 = r' := ⟨_, rfl⟩
      have q3 : IntKind.i64.wrap p' = p' := by rw [IntKind.wrap_i64]; omega
      have q4 : IntKind.i64.wrap r' = r' := by rw [IntKind.wrap_i64]; omega
      rw [← t1, ← t2, hp', hr'] at hE hS HWS
      have lWA : Below wr.heap.size wr ((wr.alloc (.cells #[.int .i64 p', .int .i64 r'] 3)).drew) := by repeat (first | (with_reducible exact Below.refl _ _) | (with_reducible apply Below.drew) | (with_reducible refine below_drewN ?_ _) | (with_reducible refine below_alloc' ?_ ?_ _; (focus ((try simp) <;> omega))) | (with_reducible refine below_set' ?_ ?_ _; (focus ((try simp) <;> omega))))
      have HREG := Lib.hid (show Calls Try.prog 20 #[ptr b, .int .i64 k, .slice (some ⟨wr.heap.size, 0, none⟩) 2 2] ((wr.alloc (.cells #[.int .i64 p', .int .i64 r'] 3)).drew) (OpPost ((wr.alloc (.cells #[.int .i64 p', .int .i64 r'] 3)).drew) b F n 0 (wsOf f s k ++ [⟨k, setN [p', r'], false⟩])) from by
        have := reg_any _ b n (wsOf f s k) (HP.out.l.below lWA) (by omega) k (some ⟨wr.heap.size, 0, none⟩) 2 2 [p', r'] ((two_in wr p' r').below (Below.refl _ _).drew) (by decide)
        rw [hE, hS] at this
        exact this)
      obtain ⟨hE2, hS2⟩ := sleep_one (n := setN [p', r']) (show okTh (k : Int) from ⟨by omega, by omega⟩) HNO.out
      have HPA := Lib.hid (HP.out.below lWA)
      have Q0 := KS.out wr.drew HP.out.lo.drew
      have QA := KS.out _ HPA.out.lo
      generalize wsOf f s k = wk at *
      have HE2 := Lib.hid hE2; have HS2 := Lib.hid hS2
      clear t1 t2 hfp hfr hE hS hE2 hS2 lWA
      cases hs : s k
      · rw [hs] at Q0 QA KS HWS
        clear hs
        go_wp2_with fail
        refine wp_region_held_drew (S := fun w' => w'.cell? ⟨x, k * 2, none⟩ = some (.int .u8 p) ∧ w'.cell? ⟨x, k * 2 + 1, none⟩ = some (.int .u8 r) ∧ w'.cell? ⟨x + 1, k, none⟩ = some (.bool false)) (by kernel_rfl) Q0 (fun hS9 => ?_)
        refine wpAnyH_take2 (i := 0) (v := ?_) rfl (by kernel_rfl) (by kernel_rfl) (by kernel_rfl) (fun _ _ _ h => h) (Or.inl ⟨by rfl, ?_⟩) (by assumption) ?_; rotate_left; (focus (intro w hSw; (skip); (first | (go_simp; done) | (go_simp; with_reducible rfl)))); (try simp only [Act.put, List.setIfInBounds_toArray, List.set_cons_zero, List.set_cons_succ])
        refine wpAnyH_take2 (i := 1) (v := ?_) rfl (by kernel_rfl) (by kernel_rfl) (by kernel_rfl) (fun _ _ _ h => h) (Or.inl ⟨by rfl, ?_⟩) (by assumption) ?_; rotate_left; (focus (intro w hSw; (skip); (first | (go_simp; done) | (go_simp; with_reducible rfl)))); (try simp only [Act.put, List.setIfInBounds_toArray, List.set_cons_zero, List.set_cons_succ])
        refine wpAnyH_take2 (i := 2) (v := ?_) rfl (by kernel_rfl) (by kernel_rfl) (by kernel_rfl) (fun _ _ _ h => h) (Or.inl ⟨by rfl, ?_⟩) (by assumption) ?_; rotate_left; (focus (intro w hSw; (skip); (first | (go_simp; done) | (go_simp; with_reducible rfl)))); (try simp only [Act.put, List.setIfInBounds_toArray, List.set_cons_zero, List.set_cons_succ])
        refine wpAnyH_take2 (i := 3) (v := ?_) rfl (by kernel_rfl) (by kernel_rfl) (by kernel_rfl) (fun _ _ _ h => h) (Or.inl ⟨by rfl, ?_⟩) (by assumption) ?_; rotate_left; (focus (intro w hSw; (skip); (first | (go_simp; done) | (go_simp; with_reducible rfl)))); (try simp only [Act.put, List.setIfInBounds_toArray, List.set_cons_zero, List.set_cons_succ])
        refine wpAnyH_take2 (i := 4) (v := ?_) rfl (by kernel_rfl) (by kernel_rfl) (by kernel_rfl) (fun _ _ _ h => h) (Or.inl ⟨by rfl, ?_⟩) (by assumption) ?_; rotate_left; (focus (intro w hSw; (skip); (first | (go_simp; done) | (go_simp; with_reducible rfl)))); (try simp only [Act.put, List.setIfInBounds_toArray, List.set_cons_zero, List.set_cons_succ])
        refine wpAnyH_take2 (i := 5) (v := ?_) rfl (by kernel_rfl) (by kernel_rfl) (by kernel_rfl) (fun _ _ _ h => h) (Or.inl ⟨by rfl, ?_⟩) (by assumption) ?_; rotate_left; (focus (intro w hSw; (obtain ⟨q0, q1, q2⟩ := hSw); (first | (go_simp; done) | (go_simp; with_reducible rfl)))); (try simp only [Act.put, List.setIfInBounds_toArray, List.set_cons_zero, List.set_cons_succ])
        refine wpAnyH_take2 (i := 6) (v := ?_) rfl (by kernel_rfl) (by kernel_rfl) (by kernel_rfl) (fun _ _ _ h => h) (Or.inl ⟨by rfl, ?_⟩) (by assumption) ?_; rotate_left; (focus (intro w hSw; (skip); (first | (go_simp; done) | (go_simp; with_reducible rfl)))); (try simp only [Act.put, List.setIfInBounds_toArray, List.set_cons_zero, List.set_cons_succ])
        refine wpAnyH_take2 (i := 7) (v := ?_) rfl (by kernel_rfl) (by kernel_rfl) (by kernel_rfl) (fun _ _ _ h => h) (Or.inl ⟨by rfl, ?_⟩) (by assumption) ?_; rotate_left; (focus (intro w hSw; (skip); (first | (go_simp; done) | (go_simp; with_reducible rfl)))); (try simp only [Act.put, List.setIfInBounds_toArray, List.set_cons_zero, List.set_cons_succ])
        refine wpAnyH_take2 (i := 8) (v := ?_) rfl (by kernel_rfl) (by kernel_rfl) (by kernel_rfl) (fun _ _ _ h => h) (Or.inl ⟨by rfl, ?_⟩) (by assumption) ?_; rotate_left; (focus (intro w hSw; (skip); (first | (go_simp; done) | (go_simp; with_reducible rfl)))); (try simp only [Act.put, List.setIfInBounds_toArray, List.set_cons_zero, List.set_cons_succ])
        refine wpAnyH_take2 (i := 9) (v := ?_) rfl (by kernel_rfl) (by kernel_rfl) (by kernel_rfl) (fun _ _ _ h => h) (Or.inl ⟨by rfl, ?_⟩) (by assumption) ?_; rotate_left; (focus (intro w hSw; (skip); (first | (go_simp; done) | (go_simp; with_reducible rfl)))); (try simp only [Act.put, List.setIfInBounds_toArray, List.set_cons_zero, List.set_cons_succ])
        refine wpAnyH_take2 (i := 10) (v := ?_) rfl (by kernel_rfl) (by kernel_rfl) (by kernel_rfl) (fun _ _ _ h => h) (Or.inl ⟨by rfl, ?_⟩) (by assumption) ?_; rotate_left; (focus (intro w hSw; (skip); (first | (go_simp; done) | (go_simp; with_reducible rfl)))); (try simp only [Act.put, List.setIfInBounds_toArray, List.set_cons_zero, List.set_cons_succ])
        refine wpAnyH_take2 (i := 11) (v := ?_) rfl (by kernel_rfl) (by kernel_rfl) (by kernel_rfl) (fun _ _ _ h => h) (Or.inl ⟨by rfl, ?_⟩) (by assumption) ?_; rotate_left; (focus (intro w hSw; (obtain ⟨q0, q1, q2⟩ := hSw); (first | (go_simp; done) | (go_simp; with_reducible rfl)))); (try simp only [Act.put, List.setIfInBounds_toArray, List.set_cons_zero, List.set_cons_succ])
        refine wpAnyH_take2 (i := 12) (v := ?_) rfl (by kernel_rfl) (by kernel_rfl) (by kernel_rfl) (fun _ _ _ h => h) (Or.inl ⟨by rfl, ?_⟩) (by assumption) ?_; rotate_left; (focus (intro w hSw; (skip); (first | (go_simp; done) | (go_simp; with_reducible rfl)))); (try simp only [Act.put, List.setIfInBounds_toArray, List.set_cons_zero, List.set_cons_succ])
        refine wpAnyH_take2 (i := 13) (v := ?_) rfl (by kernel_rfl) (by kernel_rfl) (by kernel_rfl) (fun _ _ _ h => h) (Or.inl ⟨by rfl, ?_⟩) (by assumption) ?_; rotate_left; (focus (intro w hSw; (skip); (first | (go_simp; done) | (go_simp; with_reducible rfl)))); (try simp only [Act.put, List.setIfInBounds_toArray, List.set_cons_zero, List.set_cons_succ])
        refine wpAnyH_ready (rs := [14]) (by kernel_rfl) (by simp) ?_; refine AllReadyH_cons2 rfl (fun K hK => ?_) AllReadyH.nil
        go_simp
        refine hK.out _ _ QA (fun hS9 => ?_); clear hK K; (try simp only [Act.put, List.setIfInBounds_toArray, List.set_cons_zero, List.set_cons_succ])
        refine wpAnyH_ready (rs := [15]) (by kernel_rfl) (by simp) ?_; refine AllReadyH_cons2 rfl (fun K hK => ?_) AllReadyH.nil
        go_simp
        refine HREG.out.mono ?_
        rintro e w5 ⟨rfl, h5, o5⟩
        have P5 := HPA.out.step h5 o5
        have Q1 := KS.out w5 P5.lo
        dsimp only
        refine hK.out _ _ Q1 (fun hS9 => ?_); clear hK K; (try simp only [Act.put, List.setIfInBounds_toArray, List.set_cons_zero, List.set_cons_succ])
        refine wpAnyH_take2 (i := 16) (v := ?_) rfl (by kernel_rfl) (by kernel_rfl) (by kernel_rfl) (fun _ _ _ h => h) (Or.inl ⟨by rfl, ?_⟩) (by assumption) ?_; rotate_left; (focus (intro w hSw; (skip); (first | (go_simp; done) | (go_simp; with_reducible rfl)))); (try simp only [Act.put, List.setIfInBounds_toArray, List.set_cons_zero, List.set_cons_succ])
        refine wpAnyH_take2 (i := 17) (v := ?_) rfl (by kernel_rfl) (by kernel_rfl) (by kernel_rfl) (fun _ _ _ h => h) (Or.inl ⟨by rfl, ?_⟩) (by assumption) ?_; rotate_left; (focus (intro w hSw; (skip); (first | (go_simp; done) | (go_simp; with_reducible rfl)))); (try simp only [Act.put, List.setIfInBounds_toArray, List.set_cons_zero, List.set_cons_succ])
        refine wpAnyH_take2 (i := 18) (v := ?_) rfl (by kernel_rfl) (by kernel_rfl) (by kernel_rfl) (fun _ _ _ h => h) (Or.inl ⟨by rfl, ?_⟩) (by assumption) ?_; rotate_left; (focus (intro w hSw; (skip); (first | (go_simp; done) | (go_simp; with_reducible rfl)))); (try simp only [Act.put, List.setIfInBounds_toArray, List.set_cons_zero, List.set_cons_succ])
        refine wpAnyH_take2 (i := 19) (v := ?_) rfl (by kernel_rfl) (by kernel_rfl) (by kernel_rfl) (fun _ _ _ h => h) (Or.inl ⟨by rfl, ?_⟩) (by assumption) ?_; rotate_left; (focus (intro w hSw; (skip); (first | (go_simp; done) | (go_simp; with_reducible rfl)))); (try simp only [Act.put, List.setIfInBounds_toArray, List.set_cons_zero, List.set_cons_succ])
        refine wpAnyH_take2 (i := 20) (v := ?_) rfl (by kernel_rfl) (by kernel_rfl) (by kernel_rfl) (fun _ _ _ h => h) (Or.inl ⟨by rfl, ?_⟩) (by assumption) ?_; rotate_left; (focus (intro w hSw; (obtain ⟨q0, q1, q2⟩ := hSw); (first | (go_simp; done) | (go_simp; with_reducible rfl)))); (try simp only [Act.put, List.setIfInBounds_toArray, List.set_cons_zero, List.set_cons_succ])
        refine wpAnyH_take2 (i := 21) (v := ?_) rfl (by kernel_rfl) (by kernel_rfl) (by kernel_rfl) (fun _ _ _ h => h) (Or.inl ⟨by rfl, ?_⟩) (by assumption) ?_; rotate_left; (focus (intro w hSw; (skip); (first | (go_simp; done) | (go_simp; with_reducible rfl)))); (try simp only [Act.put, List.setIfInBounds_toArray, List.set_cons_zero, List.set_cons_succ])
        refine wpAnyH_take2 (i := 22) (v := undef) rfl (by kernel_rfl) (by kernel_rfl) (by kernel_rfl) (fun _ _ _ h => h) (Or.inr ⟨by (first | rfl | (simp [Region.wanted, yielded]; done)), rfl⟩) (by assumption) ?_; (try simp only [Act.put, List.setIfInBounds_toArray, List.set_cons_zero, List.set_cons_succ])
        refine wpAnyH_take2 (i := 23) (v := undef) rfl (by kernel_rfl) (by kernel_rfl) (by kernel_rfl) (fun _ _ _ h => h) (Or.inr ⟨by (first | rfl | (simp [Region.wanted, yielded]; done)), rfl⟩) (by assumption) ?_; (try simp only [Act.put, List.setIfInBounds_toArray, List.set_cons_zero, List.set_cons_succ])
        refine wpAnyH_take2 (i := 24) (v := undef) rfl (by kernel_rfl) (by kernel_rfl) (by kernel_rfl) (fun _ _ _ h => h) (Or.inr ⟨by (first | rfl | (simp [Region.wanted, yielded]; done)), rfl⟩) (by assumption) ?_; (try simp only [Act.put, List.setIfInBounds_toArray, List.set_cons_zero, List.set_cons_succ])
        refine wpAnyH_take2 (i := 25) (v := undef) rfl (by kernel_rfl) (by kernel_rfl) (by kernel_rfl) (fun _ _ _ h => h) (Or.inr ⟨by (first | rfl | (simp [Region.wanted, yielded]; done)), rfl⟩) (by assumption) ?_; (try simp only [Act.put, List.setIfInBounds_toArray, List.set_cons_zero, List.set_cons_succ])
        refine wpAnyH_take2 (i := 26) (v := ?_) rfl (by kernel_rfl) (by kernel_rfl) (by kernel_rfl) (fun _ _ _ h => h) (Or.inl ⟨by rfl, ?_⟩) (by assumption) ?_; rotate_left; (focus (intro w hSw; (skip); (first | (go_simp; done) | (go_simp; with_reducible rfl)))); (try simp only [Act.put, List.setIfInBounds_toArray, List.set_cons_zero, List.set_cons_succ])
        refine wpAnyH_take2 (i := 27) (v := ?_) rfl (by kernel_rfl) (by kernel_rfl) (by kernel_rfl) (fun _ _ _ h => h) (Or.inl ⟨by rfl, ?_⟩) (by assumption) ?_; rotate_left; (focus (intro w hSw; (skip); (first | (go_simp; done) | (go_simp; with_reducible rfl)))); (try simp only [Act.put, List.setIfInBounds_toArray, List.set_cons_zero, List.set_cons_succ])
        refine wpAnyH_done (by kernel_rfl) ?_ _
        have HP5 := Lib.hid P5
        clear P5 Q0 QA Q1 h5 o5 hS9
        go_wp2_with fail
        exact ⟨⟨k + 1, _, _, by go_num, by omega, (by omega : n + 1 ≤ 2 * (k + 1)), by rw [HWS.out]; exact HP5.out⟩, by simp [intOf]; omega⟩
      · rw [hs] at Q0 QA KS HWS
        clear hs
        go_wp2_with fail
        go_region_held3 (fun w' => w'.cell? ⟨x, k * 2, none⟩ = some (.int .u8 p) ∧ w'.cell? ⟨x, k * 2 + 1, none⟩ = some (.int .u8 r) ∧ w'.cell? ⟨x + 1, k, none⟩ = some (.bool true)) (first | (with_reducible exact Q0) | (with_reducible exact QA) | (with_reducible exact Q1) | (with_reducible exact Q2)) (first | (go_at_call 20; (with_reducible refine Calls.mono HREG.out ?_); rintro e w5 ⟨rfl, h5, o5⟩; have P5 := HPA.out.step h5 o5; have Q1 := KS.out w5 P5.lo; have HSL := sleep_any w5 b (n + 1) _ P5.l (by omega) k; rw [HE2.out, HS2.out] at HSL) | (go_at_call 26; (with_reducible refine Calls.mono HSL ?_); rintro e w6 ⟨rfl, h6, o6⟩; have P6 := P5.step h6 o6; have Q2 := KS.out w6 P6.lo))
        have HP6 := Lib.hid P6
        clear P5 P6 Q0 QA Q1 Q2 h5 o5 h6 o6 HSL
        go_wp2_with fail
        exact ⟨⟨k + 1, _, _, by go_num, by omega, (by omega : n + 1 + 1 ≤ 2 * (k + 1)), by rw [HWS.out]; exact HP6.out⟩, by simp [intOf]; omega⟩
    · obtain rfl : k = 4 := by omega
      obtain ⟨wo, rfl⟩ : ∃ wo, wo = wr := ⟨wr, rfl⟩
      have HWF := Lib.hid HP.out.l.wf
      have HWI := Lib.hid HP.out.l.within
      have LWO := Lib.hid (L0.out.trans (HP.out.lo.mono L0.out.size))
      simp only [Int.cast_ofNat_Int]
      go_wp2_with fail
      go_loopw [9, 10] (fun v i wr => ∃ k : Nat, i = .int .i64 k ∧ k ≤ len2 ∧ k ≤ 8 ∧ IntsAt wo.heap.size wr v (mod12 (us.take k)) ∧ Below wo.heap.size wo wr) (fun _ i _ => len2 - (intOf i).toNat)
      case atStart => exact ⟨0, rfl, Nat.zero_le _, Nat.zero_le _, World.ownsRow_nil _ _ _ _, Below.refl _ _⟩
      case round =>
        clear hk hlt
        obtain ⟨k, rfl, hk, hk8, hR, hB⟩ := hrel
        have HR := Lib.hid hR; have HB := Lib.hid hB
        have hsz := hB.size
        clear hR hB
        by_cases hgo : k < len2 ∧ k < 8
        · obtain ⟨hlt, h8⟩ := hgo
          obtain ⟨ub, uo, rfl, hc⟩ := HUS.out.2.2.resolve_left (by omega)
          have c0 := bkeep (btrans LWO.out (Nat.le_refl _) HB.out) (hc k hlt)
          have hul : k < us.length := by rw [HUS.out.1]; exact hlt
          have hsn := mod12_snoc us k hul
          have hub := HUS.out.2.1 (us.getD k 0) (by rw [List.getD_eq_getElem?_getD, List.getElem?_eq_getElem hul]; exact List.getElem_mem _)
          have hml : (mod12 (us.take k)).length ≤ k := by rw [mod12_len, List.length_take]; omega
          generalize us.getD k 0 = u at *
          have hq2 : IntKind.i64.wrap u = u := by rw [IntKind.wrap_i64]; omega
          have htm2 : u.tmod 12 = u % 12 := Int.tmod_eq_emod_of_nonneg hub.1
          obtain ⟨s9, hs9⟩ : ∃ s, u.tmod 12 = s := ⟨_, rfl⟩
          have hw3 : IntKind.i64.wrap s9 = s9 := by rw [IntKind.wrap_i64]; omega
          rw [← htm2, hs9] at hsn
          have HS2 := Lib.hid hsn
          clear hsn htm2 hc hub hul
          go_wp2_with (at_builtin; refine wpList_append_own _ rfl _ _ 28 rfl wo.heap.size 3 i0 (.int .i64 0) 1 8 Try.underlying28 hi hz0 hz1 hz2 rfl (by decide) _ _ ((mod12 (us.take k)).map fun t => .int .i64 t) rfl (HR.out.below ((Below.refl wr.heap.size wr).alloc (Nat.le_refl _) _)) ⟨wr.heap.size, 0, none⟩ 1 1 [.int .i64 (s9)] rfl rfl ?_ ?_ ?_ ?_ ?_ ?_); rotate_right; (intro v' w9 hown hgr _; have hB2 : Below wo.heap.size wo w9 := (HB.out.alloc hsz _).grown hgr (by simp; omega) (fun k hk => (World.ownsRow.lt HR.out k hk).1); have HB2 := Lib.hid hB2; have HP2 := Lib.hid (show IntsAt wo.heap.size w9 v' (mod12 (us.take k) ++ [s9]) from (by unfold IntsAt; rw [List.map_append, List.length_append]; exact hown)); clear hown hgr hB2; go_wp2_with fail; exact ⟨⟨k + 1, by go_num, by omega, by omega, by rw [HS2.out]; exact HP2.out, HB2.out⟩, by simp [intOf]; omega⟩); all_goals (first | (intro jj vv hv; rw [Addr.add_lit]; have hnw := blk_cell (blk_new wr (.cells #[.int .i64 (s9)] 3)) jj; rw [Nat.zero_add, hnw]; simpa using hv) | (simp [Value.oneCell']; done) | (unfold maxLen; omega) | omega | (simp; omega))
        · have hcase : ¬ k < len2 ∨ (k < len2 ∧ ¬ (k : Int) < 8) := by omega
          have HOK := Lib.hid (mod12_ok (us.take k))
          have hvl : (mod12 (us.take k)).length = k := by rw [mod12_len, List.length_take, HUS.out.1]; omega
          generalize mod12 (us.take k) = vs at *
          obtain ⟨va, vc, rfl, _⟩ := IntsAt.open HR.out
          rw [hvl] at HR ⊢
          have HVL := Lib.hid hvl
          have HK := Lib.hid (wake_any wr b n (wsOf f s 4) (HP.out.l.below HB.out) va k vc vs (HR.out.opened HVL.out) (by omega))
          obtain ⟨u, hu⟩ : ∃ u, wakeN vs = u := ⟨_, rfl⟩
          rw [hu] at HK
          have HU := Lib.hid hu
          clear hgo hvl HUS hu
          rcases hcase with hlt | ⟨hlt, h8⟩
          all_goals
            go_wp2_with fail
            refine HK.out.mono ?_
            rintro e w5 ⟨v5, rfl, i5, nf5, h5, o5⟩
            have P5 := Lib.hid ((HP.out.below HB.out).step h5 o5)
            have HV5 := Lib.hid ((show IntsAt wo.heap.size w5 (.slice va k vc) vs from ownsRow_only HR.out o5 (fun g hg hF => by have h1 := (World.ownsRow.lt HR.out g hg).1; have h2 := HWI.out g hF; omega)).opened HVL.out)
            obtain ⟨va5, vc5, rfl, _⟩ := IntsAt.open i5
            generalize Grow F wr w5 = F5 at *
            clear i5 nf5 h5 o5 HK
            go_wp2_with fail
            go_loopw [11] (fun i wr => ∃ j : Nat, i = .int .i64 j ∧ j ≤ 4 ∧ Below w5.heap.size w5 wr) (fun i _ => 4 - (intOf i).toNat)
            case atStart => exact ⟨0, rfl, Nat.zero_le _, Below.refl _ _⟩
            case round =>
              obtain ⟨j, rfl, hj, hB9⟩ := hrel
              have HBQ0 := Lib.hid hB9
              clear hB9
              obtain ⟨wq, rfl⟩ : ∃ wq, wq = wr := ⟨wr, rfl⟩
              by_cases hjt : j < 4
              · have hj4 : (j : Int) < 4 := by omega
                go_wp2_with fail
                go_loopw [12, 13] (fun hit i wr => ∃ q : Nat, i = .int .i64 q ∧ q ≤ k ∧ hit = .bool (meets (wakeN (vs.take q)) (xOf f s j)) ∧ Below w5.heap.size w5 wr) (fun _ i _ => k - (intOf i).toNat)
                case atStart => exact ⟨0, rfl, Nat.zero_le _, by simp [wakeN, meets], HBQ0.out⟩
                case round =>
                  obtain ⟨q, rfl, hq, rfl, hB9⟩ := hrel
                  have HBQ := Lib.hid hB9
                  have PP := Lib.hid (P5.out.below hB9)
                  clear hB9
                  by_cases hqk : q < k
                  · obtain ⟨g, off, rfl, hc⟩ := HV5.out.2.resolve_left (by omega)
                    have c0 := bkeep HBQ.out (hc q hqk)
                    have hql : q < vs.length := by rw [HVL.out]; exact hqk
                    have hT := take_snoc vs q hql
                    have hmem : vs.getD q 0 ∈ vs := by rw [List.getD_eq_getElem?_getD, List.getElem?_eq_getElem hql]; exact List.getElem_mem _
                    have hw := wakeN_snoc (vs.take q) (vs.getD q 0)
                    rw [← hT] at hw
                    have hM : meets (wakeN (vs.take (q + 1))) (xOf f s j) = (meets (wakeN (vs.take q)) (xOf f s j) || (vs.getD q 0 == f (2 * j) % 12 || vs.getD q 0 == f (2 * j + 1) % 12)) := by
                      rw [hw, meets_or, meet_pair f s j _ (List.all_eq_true.1 HOK.out _ hmem)]
                    have hfp := HF.out (2 * j); have hfr := HF.out (2 * j + 1)
                    have hc1 := (KO.out wr PP.out.lo).1 (2 * j) (by omega); have hc2 := (KO.out wr PP.out.lo).1 (2 * j + 1) (by omega)
                    rw [Nat.mul_comm 2 j] at hc1 hc2
                    rw [Nat.mul_comm 2 j] at hM hfp hfr
                    generalize f (j * 2) = p at *
                    generalize f (j * 2 + 1) = r at *
                    have q1 : IntKind.i64.wrap p = p := by rw [IntKind.wrap_i64]; omega
                    have q2 : IntKind.i64.wrap r = r := by rw [IntKind.wrap_i64]; omega
                    have t1 : p.tmod 12 = p % 12 := Int.tmod_eq_emod_of_nonneg hfp.1
                    have t2 : r.tmod 12 = r % 12 := Int.tmod_eq_emod_of_nonneg hfr.1
                    obtain ⟨p', hp'⟩ : ∃ p', p.tmod 12 = p' := ⟨_, rfl⟩
                    obtain ⟨r', hr'⟩ : ∃ r', r.tmod 12 = r' := ⟨_, rfl⟩
                    have q3 : IntKind.i64.wrap p' = p' := by rw [IntKind.wrap_i64]; omega
                    have q4 : IntKind.i64.wrap r' = r' := by rw [IntKind.wrap_i64]; omega
                    rw [← t1, ← t2, hp', hr'] at hM
                    have HM := Lib.hid hM
                    generalize vs.getD q 0 = t at *
                    generalize meets (wakeN (vs.take q)) (xOf f s j) = hit at *
                    clear t1 t2 hfp hfr hM hw hT hmem hc hql
                    cases hit
                    · cases e1 : (t == p')
                      · cases e2 : (t == r')
                        all_goals
                          have HM2 := Lib.hid (show meets (wakeN (vs.take (q + 1))) (xOf f s j) = (t == r') by rw [HM.out, e1]; rfl)
                          rw [e2] at HM2
                          go_wp2_with fail
                          refine wp_region_tail 27 (by kernel_rfl) (by kernel_rfl) ?_; simp only [List.take_succ_cons, List.take_zero, List.drop_succ_cons, List.drop_zero]; (repeat (first | (with_reducible refine wpStill_skip ?_ ?_; (focus (first | (simp [Region.wanted, yielded]; done) | (rfl) | (simp [Region.wanted, yielded, undef]; done))); simp only [Act.put, List.setIfInBounds_toArray, List.set_cons_succ, List.set_cons_zero]) | (with_reducible refine wpStill_step (fun KK hKK => ?_); go_simp; refine hKK _ ?_; clear hKK KK))); with_reducible refine wpStill_nil ?_
                          go_wp2_with fail
                          exact ⟨⟨q + 1, by go_num, by omega, by rw [HM2.out], HBQ.out.drew⟩, by simp [intOf]; omega⟩
                      · have HM2 := Lib.hid (show meets (wakeN (vs.take (q + 1))) (xOf f s j) = true by rw [HM.out, e1]; rfl)
                        go_wp2_with fail
                        refine wp_region_tail 27 (by kernel_rfl) (by kernel_rfl) ?_; simp only [List.take_succ_cons, List.take_zero, List.drop_succ_cons, List.drop_zero]; (repeat (first | (with_reducible refine wpStill_skip ?_ ?_; (focus (first | (simp [Region.wanted, yielded]; done) | (rfl) | (simp [Region.wanted, yielded, undef]; done))); simp only [Act.put, List.setIfInBounds_toArray, List.set_cons_succ, List.set_cons_zero]) | (with_reducible refine wpStill_step (fun KK hKK => ?_); go_simp; refine hKK _ ?_; clear hKK KK))); with_reducible refine wpStill_nil ?_
                        go_wp2_with fail
                        exact ⟨⟨q + 1, by go_num, by omega, by rw [HM2.out], HBQ.out.drew⟩, by simp [intOf]; omega⟩
                    · have HM2 := Lib.hid (show meets (wakeN (vs.take (q + 1))) (xOf f s j) = true by rw [HM.out]; rfl)
                      go_wp2_with fail
                      refine wp_region_tail 27 (by kernel_rfl) (by kernel_rfl) ?_; simp only [List.take_succ_cons, List.take_zero, List.drop_succ_cons, List.drop_zero]; (repeat (first | (with_reducible refine wpStill_skip ?_ ?_; (focus (first | (simp [Region.wanted, yielded]; done) | (rfl) | (simp [Region.wanted, yielded, undef]; done))); simp only [Act.put, List.setIfInBounds_toArray, List.set_cons_succ, List.set_cons_zero]) | (with_reducible refine wpStill_step (fun KK hKK => ?_); go_simp; refine hKK _ ?_; clear hKK KK))); with_reducible refine wpStill_nil ?_
                      go_wp2_with fail
                      exact ⟨⟨q + 1, by go_num, by omega, by rw [HM2.out], HBQ.out.drew⟩, by simp [intOf]; omega⟩
                  · obtain rfl : q = k := by omega
                    rw [List.take_of_length_le (by rw [HVL.out]; exact Nat.le_refl _), HU.out]
                    have ha := awake_of HWF.out u j hjt
                    have hsl := awake_sl HWF.out u j hjt
                    have KS := Lib.hid (show ∀ w', Below W.heap.size W w' → w'.cell? ⟨x + 1, j, none⟩ = some (.bool (s j)) from fun w' l => (KO.out w' l).2 j hjt)
                    have PD := Lib.hid (PP.out.below (Below.refl _ _).drew)
                    have Q0 := KS.out wr.drew PP.out.lo.drew
                    generalize meets u (xOf f s j) = hit at *
                    generalize s j = sj at *
                    obtain ⟨z, hz⟩ : ∃ z, (bitsOf (gOf (wakeS (wsOf f s 4) u) (j : Int)) 12).length = z := ⟨_, rfl⟩
                    rw [hz] at ha
                    have HZ := Lib.hid hz
                    clear hz
                    cases hit
                    · have hz1 : 0 < z := by simpa using ha
                      have hz0 : ((z : Int) == 0) = false := by simp; omega
                      clear ha
                      cases sj
                      · have HSL := Lib.hid (show gSl (wakeS (wsOf f s 4) u) (j : Int) = false from hsl)
                        clear hsl
                        go_wp2_with fail
                        refine wp_region_held_drew (S := fun w' => w'.cell? ⟨x + 1, j, none⟩ = some (.bool false)) (by kernel_rfl) Q0 (fun hS9 => ?_); refine wpAnyH_take2 (i := 0) (v := ?_) rfl (by kernel_rfl) (by kernel_rfl) (by kernel_rfl) (fun _ _ _ h => h) (Or.inl ⟨by rfl, ?_⟩) (by assumption) ?_; rotate_left; (focus (intro w hSw; (skip); (first | (go_simp; done) | (go_simp; with_reducible rfl)))); (try simp only [Act.put, List.setIfInBounds_toArray, List.set_cons_zero, List.set_cons_succ]); refine wpAnyH_take2 (i := 1) (v := ?_) rfl (by kernel_rfl) (by kernel_rfl) (by kernel_rfl) (fun _ _ _ h => h) (Or.inl ⟨by rfl, ?_⟩) (by assumption) ?_; rotate_left; (focus (intro w hSw; (skip); (first | (go_simp; done) | (go_simp; with_reducible rfl)))); (try simp only [Act.put, List.setIfInBounds_toArray, List.set_cons_zero, List.set_cons_succ]); refine wpAnyH_take2 (i := 5) (v := ?_) rfl (by kernel_rfl) (by kernel_rfl) (by kernel_rfl) (fun _ _ _ h => h) (Or.inl ⟨by rfl, ?_⟩) (by assumption) ?_; rotate_left; (focus (intro w hSw; (skip); (first | (go_simp; done) | (go_simp; with_reducible rfl)))); (try simp only [Act.put, List.setIfInBounds_toArray, List.set_cons_zero, List.set_cons_succ]); refine wpAnyH_ready (rs := [2]) (by kernel_rfl) (by simp) ?_; refine AllReadyH_cons2 rfl (fun K hK => ?_) AllReadyH.nil; go_simp; refine (of_any _ b _ _ PD.out.l (j : Int)).mono ?_; rintro e w6 ⟨v6, rfl, i6, l6⟩; obtain ⟨va6, vc6, rfl, _⟩ := IntsAt.open i6; have P6 := PD.out.below l6; have Q1 := KS.out w6 P6.lo; dsimp only; rw [HZ.out]; refine hK.out _ _ Q1 (fun hS9 => ?_); clear hK K; (try simp only [Act.put, List.setIfInBounds_toArray, List.set_cons_zero, List.set_cons_succ]); refine wpAnyH_take2 (i := 3) (v := ?_) rfl (by kernel_rfl) (by kernel_rfl) (by kernel_rfl) (fun _ _ _ h => h) (Or.inl ⟨by rfl, ?_⟩) (by assumption) ?_; rotate_left; (focus (intro w hSw; (skip); (first | (go_simp; done) | (go_simp; with_reducible rfl)))); (try simp only [Act.put, List.setIfInBounds_toArray, List.set_cons_zero, List.set_cons_succ]); refine wpAnyH_take2 (i := 4) (v := ?_) rfl (by kernel_rfl) (by kernel_rfl) (by kernel_rfl) (fun _ _ _ h => h) (Or.inl ⟨by rfl, ?_⟩) (by assumption) ?_; rotate_left; (focus (intro w hSw; (skip); (first | (go_simp; done) | (go_simp; with_reducible rfl)))); (try simp only [Act.put, List.setIfInBounds_toArray, List.set_cons_zero, List.set_cons_succ]); refine wpAnyH_take2 (i := 6) (v := ?_) rfl (by kernel_rfl) (by kernel_rfl) (by kernel_rfl) (fun _ _ _ h => h) (Or.inl ⟨by rfl, ?_⟩) (by assumption) ?_; rotate_left; (focus (intro w hSw; (skip); (first | (go_simp; done) | (go_simp; with_reducible rfl)))); (try simp only [Act.put, List.setIfInBounds_toArray, List.set_cons_zero, List.set_cons_succ]); refine wpAnyH_take2 (i := 7) (v := ?_) rfl (by kernel_rfl) (by kernel_rfl) (by kernel_rfl) (fun _ _ _ h => h) (Or.inl ⟨by rfl, ?_⟩) (by assumption) ?_; rotate_left; (focus (intro w hSw; (skip); (first | (go_simp; done) | (go_simp; with_reducible rfl)))); (try simp only [Act.put, List.setIfInBounds_toArray, List.set_cons_zero, List.set_cons_succ]); refine wpAnyH_take2 (i := 8) (v := ?_) rfl (by kernel_rfl) (by kernel_rfl) (by kernel_rfl) (fun _ _ _ h => h) (Or.inl ⟨by rfl, ?_⟩) (by assumption) ?_; rotate_left; (focus (intro w hSw; (skip); (first | (go_simp; done) | (go_simp; with_reducible rfl)))); (try simp only [Act.put, List.setIfInBounds_toArray, List.set_cons_zero, List.set_cons_succ]); refine wpAnyH_take2 (i := 9) (v := ?_) rfl (by kernel_rfl) (by kernel_rfl) (by kernel_rfl) (fun _ _ _ h => h) (Or.inl ⟨by rfl, ?_⟩) (by assumption) ?_; rotate_left; (focus (intro w hSw; (skip); (first | (go_simp; done) | (go_simp; with_reducible rfl)))); (try simp only [Act.put, List.setIfInBounds_toArray, List.set_cons_zero, List.set_cons_succ]); refine wpAnyH_take2 (i := 11) (v := ?_) rfl (by kernel_rfl) (by kernel_rfl) (by kernel_rfl) (fun _ _ _ h => h) (Or.inl ⟨by rfl, ?_⟩) (by assumption) ?_; rotate_left; (focus (intro w hSw; (skip); (first | (go_simp; done) | (go_simp; with_reducible rfl)))); (try simp only [Act.put, List.setIfInBounds_toArray, List.set_cons_zero, List.set_cons_succ]); refine wpAnyH_take2 (i := 12) (v := ?_) rfl (by kernel_rfl) (by kernel_rfl) (by kernel_rfl) (fun _ _ _ h => h) (Or.inl ⟨by rfl, ?_⟩) (by assumption) ?_; rotate_left; (focus (intro w hSw; (skip); (first | (go_simp; done) | (go_simp; with_reducible rfl)))); (try simp only [Act.put, List.setIfInBounds_toArray, List.set_cons_zero, List.set_cons_succ]); refine wpAnyH_take2 (i := 13) (v := ?_) rfl (by kernel_rfl) (by kernel_rfl) (by kernel_rfl) (fun _ _ _ h => h) (Or.inl ⟨by rfl, ?_⟩) (by assumption) ?_; rotate_left; (focus (intro w hSw; (skip); (first | (go_simp; done) | (go_simp; with_reducible rfl)))); (try simp only [Act.put, List.setIfInBounds_toArray, List.set_cons_zero, List.set_cons_succ]); refine wpAnyH_ready (rs := [10]) (by kernel_rfl) (by simp) ?_; refine AllReadyH_cons2 rfl (fun K hK => ?_) AllReadyH.nil; go_simp; refine (asleep_any _ b _ _ P6.l (j : Int)).mono ?_; rintro e w7 ⟨rfl, l7⟩; have P7 := P6.below l7; have Q2 := KS.out w7 P7.lo; rw [HSL.out]; dsimp only; refine hK.out _ _ Q2 (fun hS9 => ?_); clear hK K; (try simp only [Act.put, List.setIfInBounds_toArray, List.set_cons_zero, List.set_cons_succ]); refine wpAnyH_take2 (i := 14) (v := ?_) rfl (by kernel_rfl) (by kernel_rfl) (by kernel_rfl) (fun _ _ _ h => h) (Or.inl ⟨by rfl, ?_⟩) (by assumption) ?_; rotate_left; (focus (intro w hSw; (skip); (first | (go_simp; done) | (go_simp; with_reducible rfl)))); (try simp only [Act.put, List.setIfInBounds_toArray, List.set_cons_zero, List.set_cons_succ])
                        refine wpAnyH_take2 (i := 15) (v := undef) rfl (by kernel_rfl) (by kernel_rfl) (by kernel_rfl) (fun _ _ _ h => h) (Or.inr ⟨by (first | rfl | (simp [Region.wanted, yielded]; done)), rfl⟩) (by assumption) ?_; (try simp only [Act.put, List.setIfInBounds_toArray, List.set_cons_zero, List.set_cons_succ])
                        refine wpAnyH_take2 (i := 16) (v := undef) rfl (by kernel_rfl) (by kernel_rfl) (by kernel_rfl) (fun _ _ _ h => h) (Or.inr ⟨by (first | rfl | (simp [Region.wanted, yielded]; done)), rfl⟩) (by assumption) ?_; (try simp only [Act.put, List.setIfInBounds_toArray, List.set_cons_zero, List.set_cons_succ])
                        refine wpAnyH_take2 (i := 17) (v := ?_) rfl (by kernel_rfl) (by kernel_rfl) (by kernel_rfl) (fun _ _ _ h => h) (Or.inl ⟨by rfl, ?_⟩) (by assumption) ?_; rotate_left; (focus (intro w hSw; (skip); (first | (go_simp; done) | (go_simp; with_reducible rfl)))); (try simp only [Act.put, List.setIfInBounds_toArray, List.set_cons_zero, List.set_cons_succ]); refine wpAnyH_take2 (i := 18) (v := ?_) rfl (by kernel_rfl) (by kernel_rfl) (by kernel_rfl) (fun _ _ _ h => h) (Or.inl ⟨by rfl, ?_⟩) (by assumption) ?_; rotate_left; (focus (intro w hSw; (skip); (first | (go_simp; done) | (go_simp; with_reducible rfl)))); (try simp only [Act.put, List.setIfInBounds_toArray, List.set_cons_zero, List.set_cons_succ]); refine wpAnyH_take2 (i := 19) (v := ?_) rfl (by kernel_rfl) (by kernel_rfl) (by kernel_rfl) (fun _ _ _ h => h) (Or.inl ⟨by rfl, ?_⟩) (by assumption) ?_; rotate_left; (focus (intro w hSw; (skip); (first | (go_simp; done) | (go_simp; with_reducible rfl)))); (try simp only [Act.put, List.setIfInBounds_toArray, List.set_cons_zero, List.set_cons_succ]); refine wpAnyH_done (by kernel_rfl) ?_ _; have P8 := Lib.hid (btrans HBQ.out (Nat.le_refl _) (btrans ((Below.refl _ _).drew) (Nat.le_refl _) (btrans l6 (Nat.le_refl _) l7))); clear Q0 Q1 Q2 P6 P7 i6 l6 l7 hS9; go_wp2_with fail; exact ⟨⟨j + 1, by go_num, by omega, P8.out⟩, by simp [intOf]; omega⟩
                      · have HSL := Lib.hid (show gSl (wakeS (wsOf f s 4) u) (j : Int) = true from hsl)
                        clear hsl
                        go_wp2_with fail
                        refine wp_region_held_drew (S := fun w' => w'.cell? ⟨x + 1, j, none⟩ = some (.bool true)) (by kernel_rfl) Q0 (fun hS9 => ?_); refine wpAnyH_take2 (i := 0) (v := ?_) rfl (by kernel_rfl) (by kernel_rfl) (by kernel_rfl) (fun _ _ _ h => h) (Or.inl ⟨by rfl, ?_⟩) (by assumption) ?_; rotate_left; (focus (intro w hSw; (skip); (first | (go_simp; done) | (go_simp; with_reducible rfl)))); (try simp only [Act.put, List.setIfInBounds_toArray, List.set_cons_zero, List.set_cons_succ]); refine wpAnyH_take2 (i := 1) (v := ?_) rfl (by kernel_rfl) (by kernel_rfl) (by kernel_rfl) (fun _ _ _ h => h) (Or.inl ⟨by rfl, ?_⟩) (by assumption) ?_; rotate_left; (focus (intro w hSw; (skip); (first | (go_simp; done) | (go_simp; with_reducible rfl)))); (try simp only [Act.put, List.setIfInBounds_toArray, List.set_cons_zero, List.set_cons_succ]); refine wpAnyH_take2 (i := 5) (v := ?_) rfl (by kernel_rfl) (by kernel_rfl) (by kernel_rfl) (fun _ _ _ h => h) (Or.inl ⟨by rfl, ?_⟩) (by assumption) ?_; rotate_left; (focus (intro w hSw; (skip); (first | (go_simp; done) | (go_simp; with_reducible rfl)))); (try simp only [Act.put, List.setIfInBounds_toArray, List.set_cons_zero, List.set_cons_succ]); refine wpAnyH_ready (rs := [2]) (by kernel_rfl) (by simp) ?_; refine AllReadyH_cons2 rfl (fun K hK => ?_) AllReadyH.nil; go_simp; refine (of_any _ b _ _ PD.out.l (j : Int)).mono ?_; rintro e w6 ⟨v6, rfl, i6, l6⟩; obtain ⟨va6, vc6, rfl, _⟩ := IntsAt.open i6; have P6 := PD.out.below l6; have Q1 := KS.out w6 P6.lo; dsimp only; rw [HZ.out]; refine hK.out _ _ Q1 (fun hS9 => ?_); clear hK K; (try simp only [Act.put, List.setIfInBounds_toArray, List.set_cons_zero, List.set_cons_succ]); refine wpAnyH_take2 (i := 3) (v := ?_) rfl (by kernel_rfl) (by kernel_rfl) (by kernel_rfl) (fun _ _ _ h => h) (Or.inl ⟨by rfl, ?_⟩) (by assumption) ?_; rotate_left; (focus (intro w hSw; (skip); (first | (go_simp; done) | (go_simp; with_reducible rfl)))); (try simp only [Act.put, List.setIfInBounds_toArray, List.set_cons_zero, List.set_cons_succ]); refine wpAnyH_take2 (i := 4) (v := ?_) rfl (by kernel_rfl) (by kernel_rfl) (by kernel_rfl) (fun _ _ _ h => h) (Or.inl ⟨by rfl, ?_⟩) (by assumption) ?_; rotate_left; (focus (intro w hSw; (skip); (first | (go_simp; done) | (go_simp; with_reducible rfl)))); (try simp only [Act.put, List.setIfInBounds_toArray, List.set_cons_zero, List.set_cons_succ]); refine wpAnyH_take2 (i := 6) (v := ?_) rfl (by kernel_rfl) (by kernel_rfl) (by kernel_rfl) (fun _ _ _ h => h) (Or.inl ⟨by rfl, ?_⟩) (by assumption) ?_; rotate_left; (focus (intro w hSw; (skip); (first | (go_simp; done) | (go_simp; with_reducible rfl)))); (try simp only [Act.put, List.setIfInBounds_toArray, List.set_cons_zero, List.set_cons_succ]); refine wpAnyH_take2 (i := 7) (v := ?_) rfl (by kernel_rfl) (by kernel_rfl) (by kernel_rfl) (fun _ _ _ h => h) (Or.inl ⟨by rfl, ?_⟩) (by assumption) ?_; rotate_left; (focus (intro w hSw; (skip); (first | (go_simp; done) | (go_simp; with_reducible rfl)))); (try simp only [Act.put, List.setIfInBounds_toArray, List.set_cons_zero, List.set_cons_succ]); refine wpAnyH_take2 (i := 8) (v := ?_) rfl (by kernel_rfl) (by kernel_rfl) (by kernel_rfl) (fun _ _ _ h => h) (Or.inl ⟨by rfl, ?_⟩) (by assumption) ?_; rotate_left; (focus (intro w hSw; (skip); (first | (go_simp; done) | (go_simp; with_reducible rfl)))); (try simp only [Act.put, List.setIfInBounds_toArray, List.set_cons_zero, List.set_cons_succ]); refine wpAnyH_take2 (i := 9) (v := ?_) rfl (by kernel_rfl) (by kernel_rfl) (by kernel_rfl) (fun _ _ _ h => h) (Or.inl ⟨by rfl, ?_⟩) (by assumption) ?_; rotate_left; (focus (intro w hSw; (skip); (first | (go_simp; done) | (go_simp; with_reducible rfl)))); (try simp only [Act.put, List.setIfInBounds_toArray, List.set_cons_zero, List.set_cons_succ]); refine wpAnyH_take2 (i := 11) (v := ?_) rfl (by kernel_rfl) (by kernel_rfl) (by kernel_rfl) (fun _ _ _ h => h) (Or.inl ⟨by rfl, ?_⟩) (by assumption) ?_; rotate_left; (focus (intro w hSw; (skip); (first | (go_simp; done) | (go_simp; with_reducible rfl)))); (try simp only [Act.put, List.setIfInBounds_toArray, List.set_cons_zero, List.set_cons_succ]); refine wpAnyH_take2 (i := 12) (v := ?_) rfl (by kernel_rfl) (by kernel_rfl) (by kernel_rfl) (fun _ _ _ h => h) (Or.inl ⟨by rfl, ?_⟩) (by assumption) ?_; rotate_left; (focus (intro w hSw; (skip); (first | (go_simp; done) | (go_simp; with_reducible rfl)))); (try simp only [Act.put, List.setIfInBounds_toArray, List.set_cons_zero, List.set_cons_succ]); refine wpAnyH_take2 (i := 13) (v := ?_) rfl (by kernel_rfl) (by kernel_rfl) (by kernel_rfl) (fun _ _ _ h => h) (Or.inl ⟨by rfl, ?_⟩) (by assumption) ?_; rotate_left; (focus (intro w hSw; (skip); (first | (go_simp; done) | (go_simp; with_reducible rfl)))); (try simp only [Act.put, List.setIfInBounds_toArray, List.set_cons_zero, List.set_cons_succ]); refine wpAnyH_ready (rs := [10]) (by kernel_rfl) (by simp) ?_; refine AllReadyH_cons2 rfl (fun K hK => ?_) AllReadyH.nil; go_simp; refine (asleep_any _ b _ _ P6.l (j : Int)).mono ?_; rintro e w7 ⟨rfl, l7⟩; have P7 := P6.below l7; have Q2 := KS.out w7 P7.lo; rw [HSL.out]; dsimp only; refine hK.out _ _ Q2 (fun hS9 => ?_); clear hK K; (try simp only [Act.put, List.setIfInBounds_toArray, List.set_cons_zero, List.set_cons_succ]); refine wpAnyH_take2 (i := 14) (v := ?_) rfl (by kernel_rfl) (by kernel_rfl) (by kernel_rfl) (fun _ _ _ h => h) (Or.inl ⟨by rfl, ?_⟩) (by assumption) ?_; rotate_left; (focus (intro w hSw; (skip); (first | (go_simp; done) | (go_simp; with_reducible rfl)))); (try simp only [Act.put, List.setIfInBounds_toArray, List.set_cons_zero, List.set_cons_succ])
                        refine wpAnyH_take2 (i := 15) (v := ?_) rfl (by kernel_rfl) (by kernel_rfl) (by kernel_rfl) (fun _ _ _ h => h) (Or.inl ⟨by rfl, ?_⟩) (by assumption) ?_; rotate_left; (focus (intro w hSw; (skip); (first | (go_simp; done) | (go_simp; with_reducible rfl)))); (try simp only [Act.put, List.setIfInBounds_toArray, List.set_cons_zero, List.set_cons_succ])
                        refine wpAnyH_take2 (i := 16) (v := ?_) rfl (by kernel_rfl) (by kernel_rfl) (by kernel_rfl) (fun _ _ _ h => h) (Or.inl ⟨by rfl, ?_⟩) (by assumption) ?_; rotate_left; (focus (intro w hSw; (skip); (first | (go_simp; done) | (go_simp; with_reducible rfl)))); (try simp only [Act.put, List.setIfInBounds_toArray, List.set_cons_zero, List.set_cons_succ])
                        refine wpAnyH_take2 (i := 17) (v := ?_) rfl (by kernel_rfl) (by kernel_rfl) (by kernel_rfl) (fun _ _ _ h => h) (Or.inl ⟨by rfl, ?_⟩) (by assumption) ?_; rotate_left; (focus (intro w hSw; (skip); (first | (go_simp; done) | (go_simp; with_reducible rfl)))); (try simp only [Act.put, List.setIfInBounds_toArray, List.set_cons_zero, List.set_cons_succ]); refine wpAnyH_take2 (i := 18) (v := ?_) rfl (by kernel_rfl) (by kernel_rfl) (by kernel_rfl) (fun _ _ _ h => h) (Or.inl ⟨by rfl, ?_⟩) (by assumption) ?_; rotate_left; (focus (intro w hSw; (skip); (first | (go_simp; done) | (go_simp; with_reducible rfl)))); (try simp only [Act.put, List.setIfInBounds_toArray, List.set_cons_zero, List.set_cons_succ]); refine wpAnyH_take2 (i := 19) (v := ?_) rfl (by kernel_rfl) (by kernel_rfl) (by kernel_rfl) (fun _ _ _ h => h) (Or.inl ⟨by rfl, ?_⟩) (by assumption) ?_; rotate_left; (focus (intro w hSw; (skip); (first | (go_simp; done) | (go_simp; with_reducible rfl)))); (try simp only [Act.put, List.setIfInBounds_toArray, List.set_cons_zero, List.set_cons_succ]); refine wpAnyH_done (by kernel_rfl) ?_ _; have P8 := Lib.hid (btrans HBQ.out (Nat.le_refl _) (btrans ((Below.refl _ _).drew) (Nat.le_refl _) (btrans l6 (Nat.le_refl _) l7))); clear Q0 Q1 Q2 P6 P7 i6 l6 l7 hS9; go_wp2_with fail; exact ⟨⟨j + 1, by go_num, by omega, P8.out⟩, by simp [intOf]; omega⟩
                    · obtain rfl : z = 0 := by simp at ha; omega
                      clear ha
                      cases sj
                      · have HSL := Lib.hid (show gSl (wakeS (wsOf f s 4) u) (j : Int) = false from hsl)
                        clear hsl
                        go_wp2_with fail
                        refine wp_region_held_drew (S := fun w' => w'.cell? ⟨x + 1, j, none⟩ = some (.bool false)) (by kernel_rfl) Q0 (fun hS9 => ?_); refine wpAnyH_take2 (i := 0) (v := ?_) rfl (by kernel_rfl) (by kernel_rfl) (by kernel_rfl) (fun _ _ _ h => h) (Or.inl ⟨by rfl, ?_⟩) (by assumption) ?_; rotate_left; (focus (intro w hSw; (skip); (first | (go_simp; done) | (go_simp; with_reducible rfl)))); (try simp only [Act.put, List.setIfInBounds_toArray, List.set_cons_zero, List.set_cons_succ]); refine wpAnyH_take2 (i := 1) (v := ?_) rfl (by kernel_rfl) (by kernel_rfl) (by kernel_rfl) (fun _ _ _ h => h) (Or.inl ⟨by rfl, ?_⟩) (by assumption) ?_; rotate_left; (focus (intro w hSw; (skip); (first | (go_simp; done) | (go_simp; with_reducible rfl)))); (try simp only [Act.put, List.setIfInBounds_toArray, List.set_cons_zero, List.set_cons_succ]); refine wpAnyH_take2 (i := 5) (v := ?_) rfl (by kernel_rfl) (by kernel_rfl) (by kernel_rfl) (fun _ _ _ h => h) (Or.inl ⟨by rfl, ?_⟩) (by assumption) ?_; rotate_left; (focus (intro w hSw; (skip); (first | (go_simp; done) | (go_simp; with_reducible rfl)))); (try simp only [Act.put, List.setIfInBounds_toArray, List.set_cons_zero, List.set_cons_succ]); refine wpAnyH_ready (rs := [2]) (by kernel_rfl) (by simp) ?_; refine AllReadyH_cons2 rfl (fun K hK => ?_) AllReadyH.nil; go_simp; refine (of_any _ b _ _ PD.out.l (j : Int)).mono ?_; rintro e w6 ⟨v6, rfl, i6, l6⟩; obtain ⟨va6, vc6, rfl, _⟩ := IntsAt.open i6; have P6 := PD.out.below l6; have Q1 := KS.out w6 P6.lo; dsimp only; rw [HZ.out]; refine hK.out _ _ Q1 (fun hS9 => ?_); clear hK K; (try simp only [Act.put, List.setIfInBounds_toArray, List.set_cons_zero, List.set_cons_succ]); refine wpAnyH_take2 (i := 3) (v := ?_) rfl (by kernel_rfl) (by kernel_rfl) (by kernel_rfl) (fun _ _ _ h => h) (Or.inl ⟨by rfl, ?_⟩) (by assumption) ?_; rotate_left; (focus (intro w hSw; (skip); (first | (go_simp; done) | (go_simp; with_reducible rfl)))); (try simp only [Act.put, List.setIfInBounds_toArray, List.set_cons_zero, List.set_cons_succ]); refine wpAnyH_take2 (i := 4) (v := ?_) rfl (by kernel_rfl) (by kernel_rfl) (by kernel_rfl) (fun _ _ _ h => h) (Or.inl ⟨by rfl, ?_⟩) (by assumption) ?_; rotate_left; (focus (intro w hSw; (skip); (first | (go_simp; done) | (go_simp; with_reducible rfl)))); (try simp only [Act.put, List.setIfInBounds_toArray, List.set_cons_zero, List.set_cons_succ]); refine wpAnyH_take2 (i := 6) (v := ?_) rfl (by kernel_rfl) (by kernel_rfl) (by kernel_rfl) (fun _ _ _ h => h) (Or.inl ⟨by rfl, ?_⟩) (by assumption) ?_; rotate_left; (focus (intro w hSw; (skip); (first | (go_simp; done) | (go_simp; with_reducible rfl)))); (try simp only [Act.put, List.setIfInBounds_toArray, List.set_cons_zero, List.set_cons_succ]); refine wpAnyH_take2 (i := 7) (v := ?_) rfl (by kernel_rfl) (by kernel_rfl) (by kernel_rfl) (fun _ _ _ h => h) (Or.inl ⟨by rfl, ?_⟩) (by assumption) ?_; rotate_left; (focus (intro w hSw; (skip); (first | (go_simp; done) | (go_simp; with_reducible rfl)))); (try simp only [Act.put, List.setIfInBounds_toArray, List.set_cons_zero, List.set_cons_succ]); refine wpAnyH_take2 (i := 8) (v := ?_) rfl (by kernel_rfl) (by kernel_rfl) (by kernel_rfl) (fun _ _ _ h => h) (Or.inl ⟨by rfl, ?_⟩) (by assumption) ?_; rotate_left; (focus (intro w hSw; (skip); (first | (go_simp; done) | (go_simp; with_reducible rfl)))); (try simp only [Act.put, List.setIfInBounds_toArray, List.set_cons_zero, List.set_cons_succ]); refine wpAnyH_take2 (i := 9) (v := ?_) rfl (by kernel_rfl) (by kernel_rfl) (by kernel_rfl) (fun _ _ _ h => h) (Or.inl ⟨by rfl, ?_⟩) (by assumption) ?_; rotate_left; (focus (intro w hSw; (skip); (first | (go_simp; done) | (go_simp; with_reducible rfl)))); (try simp only [Act.put, List.setIfInBounds_toArray, List.set_cons_zero, List.set_cons_succ]); refine wpAnyH_take2 (i := 11) (v := ?_) rfl (by kernel_rfl) (by kernel_rfl) (by kernel_rfl) (fun _ _ _ h => h) (Or.inl ⟨by rfl, ?_⟩) (by assumption) ?_; rotate_left; (focus (intro w hSw; (skip); (first | (go_simp; done) | (go_simp; with_reducible rfl)))); (try simp only [Act.put, List.setIfInBounds_toArray, List.set_cons_zero, List.set_cons_succ]); refine wpAnyH_take2 (i := 12) (v := ?_) rfl (by kernel_rfl) (by kernel_rfl) (by kernel_rfl) (fun _ _ _ h => h) (Or.inl ⟨by rfl, ?_⟩) (by assumption) ?_; rotate_left; (focus (intro w hSw; (skip); (first | (go_simp; done) | (go_simp; with_reducible rfl)))); (try simp only [Act.put, List.setIfInBounds_toArray, List.set_cons_zero, List.set_cons_succ]); refine wpAnyH_take2 (i := 13) (v := ?_) rfl (by kernel_rfl) (by kernel_rfl) (by kernel_rfl) (fun _ _ _ h => h) (Or.inl ⟨by rfl, ?_⟩) (by assumption) ?_; rotate_left; (focus (intro w hSw; (skip); (first | (go_simp; done) | (go_simp; with_reducible rfl)))); (try simp only [Act.put, List.setIfInBounds_toArray, List.set_cons_zero, List.set_cons_succ]); refine wpAnyH_ready (rs := [10]) (by kernel_rfl) (by simp) ?_; refine AllReadyH_cons2 rfl (fun K hK => ?_) AllReadyH.nil; go_simp; refine (asleep_any _ b _ _ P6.l (j : Int)).mono ?_; rintro e w7 ⟨rfl, l7⟩; have P7 := P6.below l7; have Q2 := KS.out w7 P7.lo; rw [HSL.out]; dsimp only; refine hK.out _ _ Q2 (fun hS9 => ?_); clear hK K; (try simp only [Act.put, List.setIfInBounds_toArray, List.set_cons_zero, List.set_cons_succ]); refine wpAnyH_take2 (i := 14) (v := ?_) rfl (by kernel_rfl) (by kernel_rfl) (by kernel_rfl) (fun _ _ _ h => h) (Or.inl ⟨by rfl, ?_⟩) (by assumption) ?_; rotate_left; (focus (intro w hSw; (skip); (first | (go_simp; done) | (go_simp; with_reducible rfl)))); (try simp only [Act.put, List.setIfInBounds_toArray, List.set_cons_zero, List.set_cons_succ])
                        refine wpAnyH_take2 (i := 15) (v := undef) rfl (by kernel_rfl) (by kernel_rfl) (by kernel_rfl) (fun _ _ _ h => h) (Or.inr ⟨by (first | rfl | (simp [Region.wanted, yielded]; done)), rfl⟩) (by assumption) ?_; (try simp only [Act.put, List.setIfInBounds_toArray, List.set_cons_zero, List.set_cons_succ])
                        refine wpAnyH_take2 (i := 16) (v := undef) rfl (by kernel_rfl) (by kernel_rfl) (by kernel_rfl) (fun _ _ _ h => h) (Or.inr ⟨by (first | rfl | (simp [Region.wanted, yielded]; done)), rfl⟩) (by assumption) ?_; (try simp only [Act.put, List.setIfInBounds_toArray, List.set_cons_zero, List.set_cons_succ])
                        refine wpAnyH_take2 (i := 17) (v := ?_) rfl (by kernel_rfl) (by kernel_rfl) (by kernel_rfl) (fun _ _ _ h => h) (Or.inl ⟨by rfl, ?_⟩) (by assumption) ?_; rotate_left; (focus (intro w hSw; (skip); (first | (go_simp; done) | (go_simp; with_reducible rfl)))); (try simp only [Act.put, List.setIfInBounds_toArray, List.set_cons_zero, List.set_cons_succ]); refine wpAnyH_take2 (i := 18) (v := ?_) rfl (by kernel_rfl) (by kernel_rfl) (by kernel_rfl) (fun _ _ _ h => h) (Or.inl ⟨by rfl, ?_⟩) (by assumption) ?_; rotate_left; (focus (intro w hSw; (skip); (first | (go_simp; done) | (go_simp; with_reducible rfl)))); (try simp only [Act.put, List.setIfInBounds_toArray, List.set_cons_zero, List.set_cons_succ]); refine wpAnyH_take2 (i := 19) (v := ?_) rfl (by kernel_rfl) (by kernel_rfl) (by kernel_rfl) (fun _ _ _ h => h) (Or.inl ⟨by rfl, ?_⟩) (by assumption) ?_; rotate_left; (focus (intro w hSw; (skip); (first | (go_simp; done) | (go_simp; with_reducible rfl)))); (try simp only [Act.put, List.setIfInBounds_toArray, List.set_cons_zero, List.set_cons_succ]); refine wpAnyH_done (by kernel_rfl) ?_ _; have P8 := Lib.hid (btrans HBQ.out (Nat.le_refl _) (btrans ((Below.refl _ _).drew) (Nat.le_refl _) (btrans l6 (Nat.le_refl _) l7))); clear Q0 Q1 Q2 P6 P7 i6 l6 l7 hS9; go_wp2_with fail; exact ⟨⟨j + 1, by go_num, by omega, P8.out⟩, by simp [intOf]; omega⟩
                      · have HSL := Lib.hid (show gSl (wakeS (wsOf f s 4) u) (j : Int) = false from hsl)
                        clear hsl
                        go_wp2_with fail
                        refine wp_region_held_drew (S := fun w' => w'.cell? ⟨x + 1, j, none⟩ = some (.bool true)) (by kernel_rfl) Q0 (fun hS9 => ?_); refine wpAnyH_take2 (i := 0) (v := ?_) rfl (by kernel_rfl) (by kernel_rfl) (by kernel_rfl) (fun _ _ _ h => h) (Or.inl ⟨by rfl, ?_⟩) (by assumption) ?_; rotate_left; (focus (intro w hSw; (skip); (first | (go_simp; done) | (go_simp; with_reducible rfl)))); (try simp only [Act.put, List.setIfInBounds_toArray, List.set_cons_zero, List.set_cons_succ]); refine wpAnyH_take2 (i := 1) (v := ?_) rfl (by kernel_rfl) (by kernel_rfl) (by kernel_rfl) (fun _ _ _ h => h) (Or.inl ⟨by rfl, ?_⟩) (by assumption) ?_; rotate_left; (focus (intro w hSw; (skip); (first | (go_simp; done) | (go_simp; with_reducible rfl)))); (try simp only [Act.put, List.setIfInBounds_toArray, List.set_cons_zero, List.set_cons_succ]); refine wpAnyH_take2 (i := 5) (v := ?_) rfl (by kernel_rfl) (by kernel_rfl) (by kernel_rfl) (fun _ _ _ h => h) (Or.inl ⟨by rfl, ?_⟩) (by assumption) ?_; rotate_left; (focus (intro w hSw; (skip); (first | (go_simp; done) | (go_simp; with_reducible rfl)))); (try simp only [Act.put, List.setIfInBounds_toArray, List.set_cons_zero, List.set_cons_succ]); refine wpAnyH_ready (rs := [2]) (by kernel_rfl) (by simp) ?_; refine AllReadyH_cons2 rfl (fun K hK => ?_) AllReadyH.nil; go_simp; refine (of_any _ b _ _ PD.out.l (j : Int)).mono ?_; rintro e w6 ⟨v6, rfl, i6, l6⟩; obtain ⟨va6, vc6, rfl, _⟩ := IntsAt.open i6; have P6 := PD.out.below l6; have Q1 := KS.out w6 P6.lo; dsimp only; rw [HZ.out]; refine hK.out _ _ Q1 (fun hS9 => ?_); clear hK K; (try simp only [Act.put, List.setIfInBounds_toArray, List.set_cons_zero, List.set_cons_succ]); refine wpAnyH_take2 (i := 3) (v := ?_) rfl (by kernel_rfl) (by kernel_rfl) (by kernel_rfl) (fun _ _ _ h => h) (Or.inl ⟨by rfl, ?_⟩) (by assumption) ?_; rotate_left; (focus (intro w hSw; (skip); (first | (go_simp; done) | (go_simp; with_reducible rfl)))); (try simp only [Act.put, List.setIfInBounds_toArray, List.set_cons_zero, List.set_cons_succ]); refine wpAnyH_take2 (i := 4) (v := ?_) rfl (by kernel_rfl) (by kernel_rfl) (by kernel_rfl) (fun _ _ _ h => h) (Or.inl ⟨by rfl, ?_⟩) (by assumption) ?_; rotate_left; (focus (intro w hSw; (skip); (first | (go_simp; done) | (go_simp; with_reducible rfl)))); (try simp only [Act.put, List.setIfInBounds_toArray, List.set_cons_zero, List.set_cons_succ]); refine wpAnyH_take2 (i := 6) (v := ?_) rfl (by kernel_rfl) (by kernel_rfl) (by kernel_rfl) (fun _ _ _ h => h) (Or.inl ⟨by rfl, ?_⟩) (by assumption) ?_; rotate_left; (focus (intro w hSw; (skip); (first | (go_simp; done) | (go_simp; with_reducible rfl)))); (try simp only [Act.put, List.setIfInBounds_toArray, List.set_cons_zero, List.set_cons_succ]); refine wpAnyH_take2 (i := 7) (v := ?_) rfl (by kernel_rfl) (by kernel_rfl) (by kernel_rfl) (fun _ _ _ h => h) (Or.inl ⟨by rfl, ?_⟩) (by assumption) ?_; rotate_left; (focus (intro w hSw; (skip); (first | (go_simp; done) | (go_simp; with_reducible rfl)))); (try simp only [Act.put, List.setIfInBounds_toArray, List.set_cons_zero, List.set_cons_succ]); refine wpAnyH_take2 (i := 8) (v := ?_) rfl (by kernel_rfl) (by kernel_rfl) (by kernel_rfl) (fun _ _ _ h => h) (Or.inl ⟨by rfl, ?_⟩) (by assumption) ?_; rotate_left; (focus (intro w hSw; (skip); (first | (go_simp; done) | (go_simp; with_reducible rfl)))); (try simp only [Act.put, List.setIfInBounds_toArray, List.set_cons_zero, List.set_cons_succ]); refine wpAnyH_take2 (i := 9) (v := ?_) rfl (by kernel_rfl) (by kernel_rfl) (by kernel_rfl) (fun _ _ _ h => h) (Or.inl ⟨by rfl, ?_⟩) (by assumption) ?_; rotate_left; (focus (intro w hSw; (skip); (first | (go_simp; done) | (go_simp; with_reducible rfl)))); (try simp only [Act.put, List.setIfInBounds_toArray, List.set_cons_zero, List.set_cons_succ]); refine wpAnyH_take2 (i := 11) (v := ?_) rfl (by kernel_rfl) (by kernel_rfl) (by kernel_rfl) (fun _ _ _ h => h) (Or.inl ⟨by rfl, ?_⟩) (by assumption) ?_; rotate_left; (focus (intro w hSw; (skip); (first | (go_simp; done) | (go_simp; with_reducible rfl)))); (try simp only [Act.put, List.setIfInBounds_toArray, List.set_cons_zero, List.set_cons_succ]); refine wpAnyH_take2 (i := 12) (v := ?_) rfl (by kernel_rfl) (by kernel_rfl) (by kernel_rfl) (fun _ _ _ h => h) (Or.inl ⟨by rfl, ?_⟩) (by assumption) ?_; rotate_left; (focus (intro w hSw; (skip); (first | (go_simp; done) | (go_simp; with_reducible rfl)))); (try simp only [Act.put, List.setIfInBounds_toArray, List.set_cons_zero, List.set_cons_succ]); refine wpAnyH_take2 (i := 13) (v := ?_) rfl (by kernel_rfl) (by kernel_rfl) (by kernel_rfl) (fun _ _ _ h => h) (Or.inl ⟨by rfl, ?_⟩) (by assumption) ?_; rotate_left; (focus (intro w hSw; (skip); (first | (go_simp; done) | (go_simp; with_reducible rfl)))); (try simp only [Act.put, List.setIfInBounds_toArray, List.set_cons_zero, List.set_cons_succ]); refine wpAnyH_ready (rs := [10]) (by kernel_rfl) (by simp) ?_; refine AllReadyH_cons2 rfl (fun K hK => ?_) AllReadyH.nil; go_simp; refine (asleep_any _ b _ _ P6.l (j : Int)).mono ?_; rintro e w7 ⟨rfl, l7⟩; have P7 := P6.below l7; have Q2 := KS.out w7 P7.lo; rw [HSL.out]; dsimp only; refine hK.out _ _ Q2 (fun hS9 => ?_); clear hK K; (try simp only [Act.put, List.setIfInBounds_toArray, List.set_cons_zero, List.set_cons_succ]); refine wpAnyH_take2 (i := 14) (v := ?_) rfl (by kernel_rfl) (by kernel_rfl) (by kernel_rfl) (fun _ _ _ h => h) (Or.inl ⟨by rfl, ?_⟩) (by assumption) ?_; rotate_left; (focus (intro w hSw; (skip); (first | (go_simp; done) | (go_simp; with_reducible rfl)))); (try simp only [Act.put, List.setIfInBounds_toArray, List.set_cons_zero, List.set_cons_succ])
                        refine wpAnyH_take2 (i := 15) (v := ?_) rfl (by kernel_rfl) (by kernel_rfl) (by kernel_rfl) (fun _ _ _ h => h) (Or.inl ⟨by rfl, ?_⟩) (by assumption) ?_; rotate_left; (focus (intro w hSw; (skip); (first | (go_simp; done) | (go_simp; with_reducible rfl)))); (try simp only [Act.put, List.setIfInBounds_toArray, List.set_cons_zero, List.set_cons_succ])
                        refine wpAnyH_take2 (i := 16) (v := ?_) rfl (by kernel_rfl) (by kernel_rfl) (by kernel_rfl) (fun _ _ _ h => h) (Or.inl ⟨by rfl, ?_⟩) (by assumption) ?_; rotate_left; (focus (intro w hSw; (skip); (first | (go_simp; done) | (go_simp; with_reducible rfl)))); (try simp only [Act.put, List.setIfInBounds_toArray, List.set_cons_zero, List.set_cons_succ])
                        refine wpAnyH_take2 (i := 17) (v := ?_) rfl (by kernel_rfl) (by kernel_rfl) (by kernel_rfl) (fun _ _ _ h => h) (Or.inl ⟨by rfl, ?_⟩) (by assumption) ?_; rotate_left; (focus (intro w hSw; (skip); (first | (go_simp; done) | (go_simp; with_reducible rfl)))); (try simp only [Act.put, List.setIfInBounds_toArray, List.set_cons_zero, List.set_cons_succ]); refine wpAnyH_take2 (i := 18) (v := ?_) rfl (by kernel_rfl) (by kernel_rfl) (by kernel_rfl) (fun _ _ _ h => h) (Or.inl ⟨by rfl, ?_⟩) (by assumption) ?_; rotate_left; (focus (intro w hSw; (skip); (first | (go_simp; done) | (go_simp; with_reducible rfl)))); (try simp only [Act.put, List.setIfInBounds_toArray, List.set_cons_zero, List.set_cons_succ]); refine wpAnyH_take2 (i := 19) (v := ?_) rfl (by kernel_rfl) (by kernel_rfl) (by kernel_rfl) (fun _ _ _ h => h) (Or.inl ⟨by rfl, ?_⟩) (by assumption) ?_; rotate_left; (focus (intro w hSw; (skip); (first | (go_simp; done) | (go_simp; with_reducible rfl)))); (try simp only [Act.put, List.setIfInBounds_toArray, List.set_cons_zero, List.set_cons_succ]); refine wpAnyH_done (by kernel_rfl) ?_ _; have P8 := Lib.hid (btrans HBQ.out (Nat.le_refl _) (btrans ((Below.refl _ _).drew) (Nat.le_refl _) (btrans l6 (Nat.le_refl _) l7))); clear Q0 Q1 Q2 P6 P7 i6 l6 l7 hS9; go_wp2_with fail; exact ⟨⟨j + 1, by go_num, by omega, P8.out⟩, by simp [intOf]; omega⟩
              · obtain rfl : j = 4 := by omega
                simp only [Int.cast_ofNat_Int]
                go_wp2_with fail
                refine (new_any _).mono ?_
                rintro e w8 ⟨b8, rfl, _, l8⟩
                have L8 := Lib.hid (btrans HBQ0.out (Nat.le_refl _) l8)
                clear l8
                go_wp2_with fail
                go_ret
                exact ⟨rfl, (L0.out.trans (P5.out.lo.mono L0.out.size)).trans (L8.out.mono (L0.out.trans (P5.out.lo.mono L0.out.size)).size)⟩
end Go.Proofs.Ytddcpehncbcliaa.Wai
