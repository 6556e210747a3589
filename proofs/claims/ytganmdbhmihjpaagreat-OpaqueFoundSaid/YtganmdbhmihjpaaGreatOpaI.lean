/- The real side: whether one can come over a heap. -/
import Derived.Test.YtganmdbhmihjpaaGreatOpaH
namespace Go.Proofs.YtganmdbhmihjpaaGreat.Opa
open Go.RowKit Go.Proofs.YtganmdbhmihjpaaGreat.Wri Go.Proofs.YtganmdbhmihjpaaGreat.His
set_option linter.unusedSimpArgs false
set_option linter.unusedVariables false
set_option maxRecDepth 50000

/-- a game: its own heap's block alone may change -/
structure Game (w : World) (q : Nat) (p : Option Addr) (n c : Nat) (l : List Ev) (av hv : Value) (os : List One) (vs : List Int) : Prop where
  fix : ∀ W, Only (fun k => hv.ownBlock = some k) w W → W.heap[q]? = some (.cells #[.slice p n c, av, hv] 48 (0, 0)) ∧ EvsIn W p n l ∧ OnesAt W av os
  heap : ValsAt 0 w hv vs
section
variable {w w' : World} {q : Nat} {p : Option Addr} {n c : Nat} {l : List Ev} {av hv : Value} {os : List One} {vs vs' : List Int}
theorem Game.turn (h : Game w q p n c l av hv os vs) (o : Only (fun k => hv.ownBlock = some k) w w') (hh : ValsAt 0 w' hv vs') : Game w' q p n c l av hv os vs' :=
  ⟨fun W oW => h.fix W (o.trans oW), hh⟩
theorem only_below (lw : Below w.heap.size w w') (S : Nat → Prop) : Only S w w' := Only.of_below lw fun k hk h => absurd hk (Nat.not_lt.2 h)
theorem Game.below (h : Game w q p n c l av hv os vs) (lw : Below w.heap.size w w') : Game w' q p n c l av hv os vs :=
  h.turn (only_below lw _) (ownsRow_only h.heap (Only.empty lw (Nat.le_refl _)) fun _ _ h => h)
theorem Game.obj (h : Game w q p n c l av hv os vs) : w.heap[q]? = some (.cells #[.slice p n c, av, hv] 48 (0, 0)) := (h.fix w (Only.refl _ _)).1
theorem Game.evs (h : Game w q p n c l av hv os vs) : EvsIn w p n l := (h.fix w (Only.refl _ _)).2.1
theorem Game.ones (h : Game w q p n c l av hv os vs) : OnesAt w av os := (h.fix w (Only.refl _ _)).2.2
theorem game_of {w0 : World} (h0 : EvsIn w0 p n l) (h : Game0 w q p n c av hv os vs) (hlo : ∀ k, hv.ownBlock = some k → w0.heap.size ≤ k) (l0 : Below w0.heap.size w0 w) : Game w q p n c l av hv os vs where
  fix W o := by
    refine ⟨o.blk h.obj (row_ne h.heap h.obj (by decide)), h0.below (l0.trans (o.below l0.size fun k hk e => by have := hlo k e; omega)), ?_⟩
    obtain ⟨xs, e, hx⟩ := h.ones
    exact ⟨xs, e, hx.only o (fun k hk e2 => by obtain ⟨cs, hc⟩ := row_obj h.heap e2; exact row_ne hx.row hc (by decide) hk) fun k cs hk => row_ne h.heap hk (by decide)⟩
  heap := h.heap
end
def oneV (x : OneX) : Value := .agg #[.int .i64 x.1.num, x.2.1, x.2.2, .bool x.1.own, .bool x.1.com]
def okP (vs : List Int) (p : Int × Int) : Bool := decide (p.1 < vs.length) && (vs.getD p.1.toNat 0 == p.2)
def inP (vs : List Int) (p : Int × Int) : Bool := decide (p.1 < vs.length)
def fitsB (o : One) (vs : List Int) : Bool := o.reads.all (okP vs) && o.writes.all (inP vs) && o.own
structure OneOk (o : One) : Prop where
  rk : ∀ p ∈ o.reads, 0 ≤ p.1 ∧ p.1 < 12
  wk : ∀ p ∈ o.writes, 0 ≤ p.1 ∧ p.1 < 12
  rl : o.reads.length ≤ 1000000
  wl : o.writes.length ≤ 1000000
theorem pairs_cells {w : World} {v : Value} {f : Frm} (h : PairsAt 0 w v f) : ∃ a c, v = .slice a f.length c ∧ ∀ i p, f[i]? = some p → ∃ g, a = some ⟨g, 0, none⟩ ∧ w.cell? ⟨g, i * 2, none⟩ = some (.int .i64 p.1) ∧ w.cell? ⟨g, i * 2 + 1, none⟩ = some (.int .u64 p.2) := by
  rcases h.2 with ⟨rfl, h0⟩ | ⟨g, cap, cur, rfl, _⟩
  · refine ⟨none, 0, by rw [h0], fun i p hp => ?_⟩
    rw [List.length_eq_zero_iff.1 h0] at hp
    simp at hp
  · refine ⟨_, _, rfl, fun i p hp => ⟨g, rfl, ?_, ?_⟩⟩
    · have := h.cells (g := g) rfl _ _ (pairVals_get f i p hp).1
      rw [Addr.add_lit, Nat.zero_add] at this
      exact this
    · have := h.cells (g := g) rfl _ _ (pairVals_get f i p hp).2
      rw [Addr.add_lit, Nat.zero_add] at this
      exact this
theorem all_take_snoc {f : Frm} {g : Int × Int → Bool} {k : Nat} {x : Int × Int} (hx : f[k]? = some x) (h : (f.take k).all g = true) (hg : g x = true) : (f.take (k + 1)).all g = true := by
  rw [List.take_add_one, hx, List.all_append, h]
  simp [hg]
theorem all_bad {f : Frm} {g : Int × Int → Bool} {k : Nat} {x : Int × Int} (hx : f[k]? = some x) (hg : g x = false) : f.all g = false := by
  cases h : f.all g with
  | false => rfl
  | true => rw [List.all_eq_true.1 h x (List.mem_of_getElem? hx)] at hg; cases hg
set_option maxHeartbeats 12800000 in
theorem fits_any {w : World} {q : Nat} {p : Option Addr} {n c : Nat} {l : List Ev} {av hv : Value} {os : List One} {vs : List Int} (hG : Game w q p n c l av hv os vs)
    (x : OneX) (hp : PairsAt 0 w x.2.1 x.1.reads ∧ PairsAt 0 w x.2.2 x.1.writes) (hk : OneOk x.1) (hvl : vs.length ≤ 1000) :
    Calls Tryz.prog 41 #[ptr q, oneV x] w fun e w' => e = .returned (.bool (fitsB x.1 vs)) ∧ Below w.heap.size w w' := by
  obtain ⟨⟨num, f, g, own, com⟩, rv, wv⟩ := x
  obtain ⟨r, hr⟩ : ∃ r, fitsB ⟨num, f, g, own, com⟩ vs = r := ⟨_, rfl⟩
  simp only at hp hk ⊢
  rw [hr]
  have HR := Lib.hid hr
  obtain ⟨ra, rc, rfl, hrc⟩ := pairs_cells hp.1
  obtain ⟨wa, wc, rfl, hwc⟩ := pairs_cells hp.2
  have hobj := hG.obj
  obtain ⟨ha, hc, rfl, hvi⟩ := hG.heap.open
  obtain ⟨M, hM⟩ : ∃ M, vs.length = M := ⟨_, rfl⟩
  obtain ⟨R1, hR1⟩ : ∃ R, f.length = R := ⟨_, rfl⟩
  obtain ⟨R2, hR2⟩ : ∃ R, g.length = R := ⟨_, rfl⟩
  have hk1 := hk.rl; have hk2 := hk.wl
  simp only at hk1 hk2
  rw [hR1] at hk1 ⊢; rw [hR2] at hk2 ⊢; rw [hM] at hobj hvi hvl
  have HK := Lib.hid hk
  have HM := Lib.hid hM; have HR1 := Lib.hid hR1; have HR2 := Lib.hid hR2
  have l1 : Below w.heap.size w (w.alloc (.cells #[.int .i64 num, .slice ra R1 rc, .slice wa R2 wc, .bool own, .bool com] 75)) := by repeat (first | (with_reducible exact Below.refl _ _) | (with_reducible apply Below.drew) | (with_reducible refine below_drewN ?_ _) | (with_reducible refine below_alloc' ?_ ?_ _; (focus ((try simp) <;> omega))) | (with_reducible refine below_set' ?_ ?_ _; (focus ((try simp) <;> omega))))
  have hb1 : (w.alloc (.cells #[.int .i64 num, .slice ra R1 rc, .slice wa R2 wc, .bool own, .bool com] 75)).heap[w.heap.size]? = some (.cells #[.int .i64 num, .slice ra R1 rc, .slice wa R2 wc, .bool own, .bool com] 75 (0, 0)) := by simp [↓heap_alloc_eq, ↓heap_set_eq, ↓heap_drew_eq, ↓heap_drewN_eq, setObj, size_drewN]
  have HRC := Lib.hid hrc; have HWC := Lib.hid hwc; have HVI := Lib.hid hvi; have HOB := Lib.hid hobj; have HB1 := Lib.hid hb1; have L1 := Lib.hid l1
  clear hr hp hk hrc hwc hobj hvi hM hR1 hR2 hb1 l1 hG
  unfold oneV
  go_enter Tryz.func41, Tryz.ntmps41
  have b1 := blk_cell HB1.out 1
  simp only [List.getElem?_toArray, List.getElem?_cons_zero, List.getElem?_cons_succ] at b1
  go_wp2_with fail
  obtain ⟨W1, hW1⟩ : ∃ W1, w.alloc (.cells #[.int .i64 num, .slice ra R1 rc, .slice wa R2 wc, .bool own, .bool com] 75) = W1 := ⟨_, rfl⟩
  rw [hW1] at HB1 L1 ⊢
  clear hW1 b1
  go_loopw [12] (fun i wr => ∃ k : Nat, i = .int .i64 k ∧ k ≤ R1 ∧ (f.take k).all (okP vs) = true ∧ Below W1.heap.size W1 wr) (fun i _ => R1 - (intOf i).toNat)
  case atStart => exact ⟨0, rfl, Nat.zero_le _, by simp, Below.refl _ _⟩
  case round =>
    obtain ⟨k, rfl, hk, hA, hB⟩ := hrel
    have HA := Lib.hid hA; have HB := Lib.hid hB
    clear hA hB
    by_cases hlt : k < R1
    · obtain ⟨⟨t, v⟩, hx⟩ : ∃ x, f[k]? = some x := ⟨_, List.getElem?_eq_getElem (by rw [HR1.out]; exact hlt)⟩
      obtain ⟨gb, rfl, c0, c1⟩ := HRC.out k _ hx
      have lw := btrans L1.out (Nat.le_refl _) HB.out
      replace c0 := bkeep lw c0; replace c1 := bkeep lw c1
      have ob := bblk lw HOB.out
      have o2 := blk_cell ob 2
      simp only [List.getElem?_toArray, List.getElem?_cons_zero, List.getElem?_cons_succ] at o2 c0 c1
      have hql := blk_lt ob
      have hqn : ¬ q = wr.heap.size := by omega
      have hlt' : (k : Int) < R1 := by omega
      have hw1 : IntKind.i64.wrap ((k : Int) + 1) = (k : Int) + 1 := by rw [IntKind.wrap_i64]; omega
      obtain ⟨h0, h12⟩ := HK.out.rk _ (List.mem_of_getElem? hx)
      simp only at h0 h12
      obtain ⟨tn, rfl⟩ := Int.eq_ofNat_of_zero_le h0
      have HX := Lib.hid hx
      have LW := Lib.hid lw
      have hok : okP vs ((tn : Int), v) = (decide ((tn : Int) < M) && (vs.getD tn 0 == v)) := by unfold okP; rw [HM.out]; rfl
      have HOK := Lib.hid hok
      clear hx lw ob hok
      by_cases hin : tn < M
      · have hin' : (tn : Int) < M := by omega
        have d1 : decide ((M : Int) ≤ tn) = false := by simp; omega
        obtain ⟨hb, ho, rfl, hcv⟩ := HVI.out.2.resolve_left (by omega)
        have cv := bkeep LW.out (hcv tn hin)
        have hhl : hb < wr.heap.size := World.block_lt_of_cell? wr _ cv
        have hhn : ¬ hb = wr.heap.size := by omega
        obtain ⟨y, hy⟩ : ∃ y, vs.getD tn 0 = y := ⟨_, rfl⟩
        rw [hy] at cv HOK
        clear hcv hy
        cases hyv : (y == v) with
        | true =>
          have hne : (y != v) = false := by simp only [bne, hyv]; rfl
          have HA2 := Lib.hid (all_take_snoc HX.out HA.out (by rw [HOK.out, hyv]; simp; exact hin))
          clear hyv
          go_wp2_with fail
          go_quiet (fail)
          go_wp2_with fail
          exact ⟨⟨k + 1, by go_num, by omega, HA2.out, below_drewN (HB.out.alloc HB.out.size _) _⟩, by simp [intOf]; omega⟩
        | false =>
          have hne : (y != v) = true := by simp only [bne, hyv]; rfl
          have hrf : r = false := by rw [← HR.out]; unfold fitsB; rw [all_bad HX.out (by rw [HOK.out, hyv]; simp)]; rfl
          subst hrf
          clear hyv
          go_wp2_with fail
          go_quiet (fail)
          go_wp2_with fail
          go_ret
          exact ⟨rfl, below_drewN (LW.out.alloc LW.out.size _) _⟩
      · have hin' : ¬ (tn : Int) < M := by omega
        have d1 : decide ((M : Int) ≤ tn) = true := by simp; omega
        have hrf : r = false := by rw [← HR.out]; unfold fitsB; rw [all_bad HX.out (by rw [HOK.out]; simp; intro h; omega)]; rfl
        subst hrf
        go_wp2_with fail
        refine wp_region_tail 20 (by kernel_rfl) (by kernel_rfl) ?_; simp only [List.take_succ_cons, List.take_zero, List.drop_succ_cons, List.drop_zero]
        repeat (first | with_reducible refine wpStill_skip ?_ ?_; (focus (first | (simp [Region.wanted, yielded]; done) | (rfl) | (simp [Region.wanted, yielded, undef]; done))); simp only [Act.put, List.setIfInBounds_toArray, List.set_cons_succ, List.set_cons_zero] | with_reducible refine wpStill_step (fun KK hKK => ?_); go_simp; refine hKK _ ?_; clear hKK KK)
        with_reducible refine wpStill_nil ?_
        go_wp2_with fail
        go_ret
        exact ⟨rfl, (LW.out.alloc LW.out.size _).drew⟩
    · obtain rfl : k = R1 := by omega
      have hA := HA.out
      rw [List.take_of_length_le (by rw [HR1.out]; exact Nat.le_refl _)] at hA
      have HA1 := Lib.hid hA
      have lw := btrans L1.out (Nat.le_refl _) HB.out
      have ob := bblk lw HOB.out
      have ob1 := bblk HB.out HB1.out
      have e2 := blk_cell ob1 2
      simp only [List.getElem?_toArray, List.getElem?_cons_zero, List.getElem?_cons_succ] at e2
      clear hA
      go_wp2_with fail
      have LW := Lib.hid lw; have OB := Lib.hid ob; have OB1 := Lib.hid ob1
      clear lw ob ob1 e2 HA HB HRC
      obtain ⟨W2, hW2⟩ : ∃ W2, W2 = wr := ⟨wr, rfl⟩
      subst hW2
      go_loopw [41] (fun i wr => ∃ k : Nat, i = .int .i64 k ∧ k ≤ R2 ∧ (g.take k).all (inP vs) = true ∧ Below W2.heap.size W2 wr) (fun i _ => R2 - (intOf i).toNat)
      case atStart => exact ⟨0, rfl, Nat.zero_le _, by simp, Below.refl _ _⟩
      case round =>
        obtain ⟨j, rfl, hj, hA, hB⟩ := hrel
        have HA := Lib.hid hA; have HB := Lib.hid hB
        clear hA hB
        by_cases hlt2 : j < R2
        · obtain ⟨⟨t, v⟩, hx⟩ : ∃ x, g[j]? = some x := ⟨_, List.getElem?_eq_getElem (by rw [HR2.out]; exact hlt2)⟩
          obtain ⟨gb, rfl, c0, c1⟩ := HWC.out j _ hx
          have lw := btrans LW.out (Nat.le_refl _) HB.out
          replace c0 := bkeep lw c0; replace c1 := bkeep lw c1
          have ob := bblk HB.out OB.out
          have o2 := blk_cell ob 2
          simp only [List.getElem?_toArray, List.getElem?_cons_zero, List.getElem?_cons_succ] at o2 c0 c1
          have hql := blk_lt ob
          have hqn : ¬ q = wr.heap.size := by omega
          have hlt' : (j : Int) < R2 := by omega
          have hw1 : IntKind.i64.wrap ((j : Int) + 1) = (j : Int) + 1 := by rw [IntKind.wrap_i64]; omega
          obtain ⟨h0, h12⟩ := HK.out.wk _ (List.mem_of_getElem? hx)
          simp only at h0 h12
          obtain ⟨tn, rfl⟩ := Int.eq_ofNat_of_zero_le h0
          have HX := Lib.hid hx
          have LW2 := Lib.hid lw
          have HOK := Lib.hid (show inP vs ((tn : Int), v) = decide ((tn : Int) < M) by unfold inP; rw [HM.out])
          clear hx lw ob
          by_cases hin : tn < M
          · have d1 : decide ((M : Int) ≤ tn) = false := by simp; omega
            have HA2 := Lib.hid (all_take_snoc HX.out HA.out (by rw [HOK.out]; simp; exact hin))
            go_wp2_with fail
            go_quiet (fail)
            go_wp2_with fail
            exact ⟨⟨j + 1, by go_num, by omega, HA2.out, below_drewN (HB.out.alloc HB.out.size _) _⟩, by simp [intOf]; omega⟩
          · have d1 : decide ((M : Int) ≤ tn) = true := by simp; omega
            have hrf : r = false := by rw [← HR.out]; unfold fitsB; rw [all_bad HX.out (by rw [HOK.out]; simp; omega)]; simp
            subst hrf
            go_wp2_with fail
            go_quiet (fail)
            go_wp2_with fail
            go_ret
            exact ⟨rfl, below_drewN (LW2.out.alloc LW2.out.size _) _⟩
        · obtain rfl : j = R2 := by omega
          have hA := HA.out
          rw [List.take_of_length_le (by rw [HR2.out]; exact Nat.le_refl _)] at hA
          have hrt : r = own := by rw [← HR.out]; unfold fitsB; rw [HA1.out, hA]; rfl
          subst hrt
          have ob1 := bblk HB.out OB1.out
          have e3 := blk_cell ob1 3
          simp only [List.getElem?_toArray, List.getElem?_cons_zero, List.getElem?_cons_succ] at e3
          clear hA ob1
          go_wp2_with fail
          go_ret
          exact ⟨rfl, btrans LW.out (Nat.le_refl _) HB.out⟩
end Go.Proofs.YtganmdbhmihjpaaGreat.Opa
