/- The real side: an attempt of a game. -/
import Derived.Test.YtganmdbhmihjpaaGreatOpaI
namespace Go.Proofs.YtganmdbhmihjpaaGreat.Opa
open Go.RowKit Go.Proofs.YtganmdbhmihjpaaGreat.Wri Go.Proofs.YtganmdbhmihjpaaGreat.His
set_option linter.unusedSimpArgs false
set_option linter.unusedVariables false
set_option maxRecDepth 50000

theorem ones_cells {w : World} {av : Value} {xs : List OneX} (h : OnesX w av xs) : ∃ a c, av = .slice a xs.length c ∧ ∀ i x, xs[i]? = some x → ∃ g ra r1 rc wa r2 wc, a = some ⟨g, 0, none⟩ ∧ x.2 = (.slice ra r1 rc, .slice wa r2 wc) ∧
    w.cell? ⟨g, i * 5, none⟩ = some (.int .i64 x.1.num) ∧ w.cell? ⟨g, i * 5 + 1, none⟩ = some (.slice ra r1 rc) ∧ w.cell? ⟨g, i * 5 + 2, none⟩ = some (.slice wa r2 wc) ∧ w.cell? ⟨g, i * 5 + 3, none⟩ = some (.bool x.1.own) ∧ w.cell? ⟨g, i * 5 + 4, none⟩ = some (.bool x.1.com) := by
  rcases h.row.2 with ⟨rfl, h0⟩ | ⟨g, cap, cur, rfl, _⟩
  · refine ⟨none, 0, by rw [h0], fun i p hp => ?_⟩
    rw [List.length_eq_zero_iff.1 h0] at hp
    simp at hp
  · refine ⟨_, _, rfl, fun i x hx => ?_⟩
    obtain ⟨o, v1, v2⟩ := x
    obtain ⟨p1, p2⟩ := h.pairs _ (List.mem_of_getElem? hx)
    simp only at p1 p2
    obtain ⟨ra, rc, rfl⟩ := ownsRow_slice p1
    obtain ⟨wa, wc, rfl⟩ := ownsRow_slice p2
    have hc : ∀ j u, (oneCells (o, Value.slice ra o.reads.length rc, Value.slice wa o.writes.length wc))[j]? = some u → w.cell? ⟨g, i * 5 + j, none⟩ = some u := fun j u hu => by
      have hj : j < 5 := (List.getElem?_eq_some_iff.1 hu).1
      have := h.row.cells (g := g) rfl (i * 5 + j) u (by rw [flat_get oneCells 5 one_cells xs i _ j hx hj]; exact hu)
      rw [Addr.add_lit, Nat.zero_add] at this
      exact this
    exact ⟨g, ra, _, rc, wa, _, wc, rfl, rfl, hc 0 _ rfl, hc 1 _ rfl, hc 2 _ rfl, hc 3 _ rfl, hc 4 _ rfl⟩
set_option maxHeartbeats 1600000 in
theorem get1_any (w : World) (bx : Nat) (n num : Int) (ra wa : Option Addr) (r1 rc r2 wc : Nat) (own com : Bool) (hb : w.heap[bx]? = some (.cells #[.int .i64 n] 3 (0, 0))) :
    Calls Tryz.prog 73 #[.agg #[.int .i64 num, .slice ra r1 rc, .slice wa r2 wc, .bool own, .bool com], ptr bx] w fun e w' => e = .returned (.bool (num == n)) ∧ Below w.heap.size w w' := by
  have b0 := blk_cell hb 0
  simp only [List.getElem?_toArray, List.getElem?_cons_zero] at b0
  have hl := blk_lt hb
  have hne : ¬ bx = w.heap.size := by omega
  clear hb
  go_enter Tryz.func73, Tryz.ntmps73
  go_wp2_with fail
  go_ret
  exact ⟨rfl, (Below.refl _ w).alloc (Nat.le_refl _) _⟩
theorem takeX_snoc {xs : List OneX} {k : Nat} {x : OneX} (h : xs[k]? = some x) : xs.take (k + 1) = xs.take k ++ [x] := by
  rw [List.take_add_one, h]; rfl
def GetPost (w : World) (xs : List OneX) (n : Int) (e : Ending) (w' : World) : Prop :=
  ∃ (i : Nat) (x : OneX), xs[i]? = some x ∧ x.1.num = n ∧ e = .returned (.int .i64 i) ∧ Below w.heap.size w w'
set_option maxHeartbeats 3200000 in
theorem idxO_any (w : World) (bx : Nat) (n : Int) (av : Value) (xs : List OneX) (h : OnesX w av xs) (hb : w.heap[bx]? = some (.cells #[.int .i64 n] 3 (0, 0))) (hex : ∃ x ∈ xs, x.1.num = n) (hn : xs.length ≤ 1000000) :
    Calls Tryz.prog 72 #[av, .func (.func 73) #[] #[ptr bx]] w (GetPost w xs n) := by
  obtain ⟨a, c, rfl, hcs⟩ := ones_cells h
  obtain ⟨N, hN⟩ : ∃ N, xs.length = N := ⟨_, rfl⟩
  rw [hN] at hn ⊢
  have HN := Lib.hid hN; have HCS := Lib.hid hcs; have HB := Lib.hid hb; have HEX := Lib.hid hex
  have hcf : ∀ args W, (callFunc 73 args).run Tryz.prog W = .ok (.enter 73 args) W := fun args W => by kernel_rfl
  clear h hcs hb hex hN
  unfold GetPost
  go_enter Tryz.func72, Tryz.ntmps72
  go_wp2_with fail
  go_loopw [8] (fun i wr => ∃ k : Nat, i = .int .i64 k ∧ k ≤ N ∧ (∀ x ∈ xs.take k, x.1.num ≠ n) ∧ Below w.heap.size w wr) (fun i _ => N - (intOf i).toNat)
  case atStart => exact ⟨0, rfl, Nat.zero_le _, by simp, Below.refl _ _⟩
  case round =>
    obtain ⟨k, rfl, hk, hno, hL⟩ := hrel
    have HL := Lib.hid hL; have HNO := Lib.hid hno
    clear hL hno
    by_cases hlt : k < N
    · obtain ⟨x, hx⟩ : ∃ x, xs[k]? = some x := ⟨_, List.getElem?_eq_getElem (by rw [HN.out]; exact hlt)⟩
      obtain ⟨g, ra, r1, rc, wa, r2, wc, rfl, hx2, c0, c1, c2, c3, c4⟩ := HCS.out k x hx
      replace c0 := bkeep HL.out c0; replace c1 := bkeep HL.out c1; replace c2 := bkeep HL.out c2; replace c3 := bkeep HL.out c3; replace c4 := bkeep HL.out c4
      have hlt' : (k : Int) < N := by omega
      have hw1 : IntKind.i64.wrap ((k : Int) + 1) = (k : Int) + 1 := by rw [IntKind.wrap_i64]; omega
      have HX := Lib.hid hx
      have HT := Lib.hid (takeX_snoc hx)
      obtain ⟨⟨num, rd, wr', own, com⟩, v12⟩ := x
      simp only at c0 c3 c4 hx2
      have hC := get1_any wr bx n num ra wa r1 rc r2 wc own com (bblk HL.out HB.out)
      clear hx hx2
      cases hq : (num == n) with
      | true =>
        rw [hq] at hC
        have HC := Lib.hid hC
        have HQ := Lib.hid (show num = n by simpa using hq)
        clear hC hq
        go_wp2_with fail
        refine HC.out.mono ?_
        rintro e w1 ⟨rfl, l1⟩
        have HL1 := Lib.hid (btrans HL.out (Nat.le_refl _) l1)
        clear l1
        go_wp2_with fail
        go_ret
        exact ⟨k, _, HX.out, HQ.out, rfl, HL1.out⟩
      | false =>
        rw [hq] at hC
        have HC := Lib.hid hC
        have HN2 := Lib.hid (show ∀ x ∈ xs.take (k + 1), x.1.num ≠ n from fun s hs => by
          rw [HT.out, List.mem_append, List.mem_singleton] at hs
          rcases hs with hs | rfl
          · exact HNO.out s hs
          · simpa using hq)
        clear hC hq
        go_wp2_with fail
        refine HC.out.mono ?_
        rintro e w1 ⟨rfl, l1⟩
        have HL1 := Lib.hid (btrans HL.out (Nat.le_refl _) l1)
        clear l1
        go_wp2_with fail
        exact ⟨⟨k + 1, by go_num, by omega, HN2.out, HL1.out⟩, by simp [intOf]; omega⟩
    · obtain rfl : k = N := by omega
      obtain ⟨x, hx, hxn⟩ := HEX.out
      rw [List.take_of_length_le (by rw [HN.out]; exact Nat.le_refl _)] at HNO
      exact absurd hxn (HNO.out x hx)
def GotPost (w : World) (xs : List OneX) (n : Int) (e : Ending) (w' : World) : Prop :=
  ∃ x ∈ xs, x.1.num = n ∧ e = .returned (oneV x) ∧ Below w.heap.size w w'
set_option maxHeartbeats 6400000 in
theorem get_any {w : World} {q : Nat} {av hv : Value} {p : Option Addr} {nn c : Nat} (n : Int) (xs : List OneX) (h : OnesX w av xs) (hq : w.heap[q]? = some (.cells #[.slice p nn c, av, hv] 48 (0, 0))) (hex : ∃ x ∈ xs, x.1.num = n) (hn : xs.length ≤ 1000000) :
    Calls Tryz.prog 51 #[ptr q, .int .i64 n] w (GotPost w xs n) := by
  have l1 : Below w.heap.size w ((w.alloc (.cells #[.int .i64 n] 3)).alloc (.cells #[.int .i64 0, .slice none 0 0, .slice none 0 0, .bool false, .bool false] 75)) := by repeat (first | (with_reducible exact Below.refl _ _) | (with_reducible apply Below.drew) | (with_reducible refine below_drewN ?_ _) | (with_reducible refine below_alloc' ?_ ?_ _; (focus ((try simp) <;> omega))) | (with_reducible refine below_set' ?_ ?_ _; (focus ((try simp) <;> omega))))
  have hb : ((w.alloc (.cells #[.int .i64 n] 3)).alloc (.cells #[.int .i64 0, .slice none 0 0, .slice none 0 0, .bool false, .bool false] 75)).heap[w.heap.size]? = some (.cells #[.int .i64 n] 3 (0, 0)) := by simp [↓heap_alloc_eq, ↓heap_set_eq, ↓heap_drew_eq, ↓heap_drewN_eq, setObj, size_drewN]; try omega
  have hb2 : ((w.alloc (.cells #[.int .i64 n] 3)).alloc (.cells #[.int .i64 0, .slice none 0 0, .slice none 0 0, .bool false, .bool false] 75)).heap[w.heap.size + 1]? = some (.cells #[.int .i64 0, .slice none 0 0, .slice none 0 0, .bool false, .bool false] 75 (0, 0)) := by simp [↓heap_alloc_eq, ↓heap_set_eq, ↓heap_drew_eq, ↓heap_drewN_eq, setObj, size_drewN]; try omega
  obtain ⟨W1, hW1⟩ : ∃ W1, ((w.alloc (.cells #[.int .i64 n] 3)).alloc (.cells #[.int .i64 0, .slice none 0 0, .slice none 0 0, .bool false, .bool false] 75)) = W1 := ⟨_, rfl⟩
  rw [hW1] at l1 hb hb2
  have HID := Lib.hid (idxO_any W1 w.heap.size n av xs (h.below l1) hb hex hn)
  obtain ⟨a, cc, rfl, hcs⟩ := ones_cells (h.below l1)
  have hob := bblk l1 hq
  have q1 := blk_cell hq 1
  simp only [List.getElem?_toArray, List.getElem?_cons_zero, List.getElem?_cons_succ] at q1
  have hq0 := blk_lt hq
  have hq2 : ¬ q = w.heap.size := by omega
  have hq3 : ¬ q = w.heap.size + 1 := by omega
  have hq4 : q < w.heap.size + 1 := by omega
  have HOB := Lib.hid hob; have HB2 := Lib.hid hb2; have HCS := Lib.hid hcs; have L1 := Lib.hid l1; have HW1 := Lib.hid hW1
  clear hob hb hb2 hcs l1 hW1 h hq hex
  unfold GotPost
  go_enter Tryz.func51, Tryz.ntmps51
  go_wp2_with fail
  rw [HW1.out]
  refine HID.out.mono ?_
  rintro e w2 ⟨i, x, hx, hxn, rfl, l2⟩
  have L2 := Lib.hid l2; have HX := Lib.hid hx; have HXN := Lib.hid hxn
  obtain ⟨g, ra, r1, rc, wa, r2, wc, rfl, hx2, c0, c1, c2, c3, c4⟩ := HCS.out i x hx
  replace c0 := bkeep l2 c0; replace c1 := bkeep l2 c1; replace c2 := bkeep l2 c2; replace c3 := bkeep l2 c3; replace c4 := bkeep l2 c4
  have hob := bblk l2 HOB.out
  have hb2 := bblk l2 HB2.out
  have q5 := blk_cell hob 1
  simp only [List.getElem?_toArray, List.getElem?_cons_zero, List.getElem?_cons_succ] at q5
  have hil : i < xs.length := (List.getElem?_eq_some_iff.1 hx).1
  have d0 := blk_cell hb2 0; have d1 := blk_cell hb2 1; have d2 := blk_cell hb2 2; have d3 := blk_cell hb2 3; have d4 := blk_cell hb2 4
  have fd := blk_free hb2
  have hD := Lib.hid hb2
  simp only [List.getElem?_toArray, List.getElem?_cons_zero, List.getElem?_cons_succ] at d0 d1 d2 d3 d4
  clear hx hxn l2 hob hb2 q1 hq0 hq2 hq3 hq4
  go_wp2_with fail
  refine bodyPost_ret (v := oneV x) ?_ rfl ?_; (focus (simp [results, Tryz.results51, go_sem, oneV, hx2, d0, d1, d2, d3, d4]; done))
  refine ⟨x, List.mem_of_getElem? HX.out, HXN.out, rfl, ?_⟩
  have lw := btrans L1.out (Nat.le_refl _) L2.out
  repeat (with_reducible refine below_set' ?_ ?_ _; (focus (simp <;> omega)))
  exact lw
end Go.Proofs.YtganmdbhmihjpaaGreat.Opa
