/- What must be whatever is asked. -/
import Derived.Test.YtganmdbhmihjpaaGreatOpaP
namespace Go.Proofs.YtganmdbhmihjpaaGreat.Opa
open Go.RowKit Go.Proofs.YtganmdbhmihjpaaGreat.Wri Go.Proofs.YtganmdbhmihjpaaGreat.His
set_option linter.unusedSimpArgs false
set_option linter.unusedVariables false
set_option maxRecDepth 50000

def L10 : List Ev := [⟨1, 0, 0, 0⟩, ⟨1, 1, 0, 0⟩, ⟨2, 0, 1, 0⟩, ⟨2, 1, 1, 0⟩, ⟨3, 0, 1, 4607182418800017408⟩, ⟨3, 1, 1, 4607182418800017408⟩, ⟨7, 0, 0, 0⟩, ⟨8, 0, 0, 0⟩, ⟨7, 1, 0, 0⟩, ⟨8, 1, 0, 0⟩]
set_option maxRecDepth 50000 in
theorem L10_found : foundL L10 [0, 0] [] = (5, []) := by decide
set_option maxRecDepth 50000 in
theorem L9_found : foundL (L10.take 9) [0, 0] [] = (0, [1, 0]) := by decide
set_option maxRecDepth 50000 in
theorem L10_form : formE L10 [0, 0] = 0 := by decide
set_option maxRecDepth 50000 in
theorem L10_att : attL L10 = [0, 1] := by decide
set_option maxRecDepth 50000 in
theorem L10_pend : pendE L10 [] = 0 := by decide
theorem L10_check : checkE L10 [0, 0] [0, 1] [] = 0 := by
  unfold checkE
  rw [L10_form, L10_att, L10_pend, show alikeB [0, 1] [0, 1] = true by unfold alikeB; simp]
  rfl
set_option maxRecDepth 50000 in
theorem L10_first : (firstL L10 (oneOf L10 []) [0, 1] 0 [0, 0]).1 = 1 ∧ (firstL L10 (oneOf L10 []) [0, 1] 0 [0, 0]).2.1 = 9 := by decide
theorem L10_legal : (legalL L10 [0, 0] [0, 1] []).1 = 1 ∧ (legalL L10 [0, 0] [0, 1] []).2.1 = 9 := by
  unfold legalL
  rw [if_neg (by rw [L10_check]; decide)]
  exact L10_first
theorem L10_ok : EvsOk L10 := by
  intro x hx
  simp [L10] at hx
  rcases hx with rfl | rfl | rfl | rfl | rfl | rfl | rfl | rfl | rfl | rfl <;> simp [inInt]
theorem L10_in {w : World} {b : Nat} (h : w.heap[b]? = some (.cells (evVals L10).toArray 60 (0, 0))) : EvsIn w (some ⟨b, 0, none⟩) 10 L10 := by
  refine ⟨rfl, .inr ⟨b, 0, rfl, fun i hi => ?_⟩⟩
  have hx : L10[i]? = some (L10[i]'hi) := List.getElem?_eq_getElem hi
  obtain ⟨h0, h1, h2, h3⟩ := evVals_get L10 i _ hx
  refine ⟨_, hx, ?_, ?_, ?_, ?_⟩
  all_goals
    simp only [World.cell?, h, Nat.zero_add, List.getElem?_toArray]
    assumption
theorem evsIn_take {w : World} {a : Option Addr} {n : Nat} {l : List Ev} (h : EvsIn w a n l) {k : Nat} (hk : k ≤ n) : EvsIn w a k (l.take k) := by
  refine ⟨by rw [List.length_take, h.1]; omega, ?_⟩
  rcases h.2 with h0 | ⟨b, off, e, hc⟩
  · exact .inl (by omega)
  · refine .inr ⟨b, off, e, fun i hi => ?_⟩
    obtain ⟨x, hx, h4⟩ := hc i (by omega)
    exact ⟨x, by rw [List.getElem?_take, if_pos hi]; exact hx, h4⟩
theorem vals_in {w : World} {b : Nat} (h : w.heap[b]? = some (.cells #[.int .u64 0, .int .u64 0] 58 (0, 0))) : ValsIn w (some ⟨b, 0, none⟩) 2 [0, 0] := by
  refine ⟨rfl, .inr ⟨b, 0, rfl, fun i hi => ?_⟩⟩
  rw [Nat.zero_add, blk_cell h]
  match i, hi with
  | 0, _ => rfl
  | 1, _ => rfl
theorem ints_in {w : World} {b : Nat} (h : w.heap[b]? = some (.cells #[.int .i64 0, .int .i64 1] 3 (0, 0))) : IntsIn w (some ⟨b, 0, none⟩) 2 [0, 1] := by
  refine ⟨rfl, .inr ⟨b, 0, rfl, fun i hi => ?_⟩⟩
  rw [Nat.zero_add, blk_cell h]
  match i, hi with
  | 0, _ => rfl
  | 1, _ => rfl
theorem asked_live {w : World} {p : Option Addr} {n c : Nat} {l : List Ev} (he : EvsIn w p n l) (hok : EvsOk l) (hn : n ≤ 400) {b : Nat} (hb : w.heap[b]? = some (.cells #[.int .u64 0, .int .u64 0] 58 (0, 0))) :
    Asked w p n c l (some ⟨b, 0, none⟩) 2 2 [0, 0] none 0 0 [] where
  evs := he
  ok := hok
  hn := hn
  vals := vals_in hb
  u64 := by intro v hv; simp at hv; subst hv; unfold U64; omega
  hm := by omega
  hz := fun h => by cases h
  com := ⟨rfl, .inl rfl⟩
  hm2 := by omega
  hmd2 := Nat.le_refl _
set_option maxHeartbeats 6400000 in
theorem live_any (w : World) : Calls Tryz.prog 9 #[] w fun e w' => e = .returned (.bool true) ∧ Below w.heap.size w w' := by
  go_enter Tryz.func9, Tryz.ntmps9
  go_wp2_with fail
  obtain ⟨W, hW⟩ : ∃ W, w.alloc (.cells (evVals L10).toArray 60) = W := ⟨_, rfl⟩
  have lW : Below w.heap.size w W := by rw [← hW]; repeat (first | (with_reducible exact Below.refl _ _) | (with_reducible apply Below.drew) | (with_reducible refine below_drewN ?_ _) | (with_reducible refine below_alloc' ?_ ?_ _; (focus ((try simp) <;> omega))) | (with_reducible refine below_set' ?_ ?_ _; (focus ((try simp) <;> omega))))
  have hb : W.heap[w.heap.size]? = some (.cells (evVals L10).toArray 60 (0, 0)) := by rw [← hW]; simp [↓heap_alloc_eq, ↓heap_set_eq, ↓heap_drew_eq, ↓heap_drewN_eq, setObj, size_drewN]
  have HE := Lib.hid (L10_in hb)
  have HL := Lib.hid lW
  have hws : W.heap.size = w.heap.size + 1 := by rw [← hW]; simp
  refine (show Calls Tryz.prog 7 #[.slice (some ⟨w.heap.size, 0, none⟩) 10 10, .slice (some ⟨w.heap.size + 1, 0, none⟩) 2 2, .slice none 0 0] ((w.alloc (.cells (evVals L10).toArray 60)).alloc (.cells #[.int .u64 0, .int .u64 0] 58)) _ from ?_)
  rw [hW]
  obtain ⟨W1, hW1⟩ : ∃ W1, W.alloc (.cells #[.int .u64 0, .int .u64 0] 58) = W1 := ⟨_, rfl⟩
  have lW1 : Below W.heap.size W W1 := by rw [← hW1]; repeat (first | (with_reducible exact Below.refl _ _) | (with_reducible apply Below.drew) | (with_reducible refine below_drewN ?_ _) | (with_reducible refine below_alloc' ?_ ?_ _; (focus ((try simp) <;> omega))) | (with_reducible refine below_set' ?_ ?_ _; (focus ((try simp) <;> omega))))
  have hbv : W1.heap[w.heap.size + 1]? = some (.cells #[.int .u64 0, .int .u64 0] 58 (0, 0)) := by rw [← hW1, ← hws]; simp [↓heap_alloc_eq, ↓heap_set_eq, ↓heap_drew_eq, ↓heap_drewN_eq, setObj, size_drewN]
  have hf := found_any (asked_live (c := 10) (HE.out.below lW1) L10_ok (by decide) hbv)
  rw [L10_found] at hf
  have HE1 := Lib.hid (HE.out.below lW1)
  have HL1 := Lib.hid (btrans HL.out (Nat.le_refl _) lW1)
  rw [hW1]
  clear hW1 hW hb lW HE HL lW1 hbv hws
  refine hf.mono ?_
  rintro e w1 ⟨l1, a1, c1, rfl, _, _⟩
  have HE2 := Lib.hid (HE1.out.below l1)
  have HL2 := Lib.hid (btrans HL1.out (Nat.le_refl _) l1)
  have hsz2 := HL2.out.size
  clear l1 hf HE1 HL1
  simp only [List.length_nil]
  go_wp2_with fail
  obtain ⟨W2, hW2⟩ : ∃ W2, (w1.alloc (.cells #[.int .u64 0, .int .u64 0] 58)).alloc (.cells #[.int .i64 0, .int .i64 1] 3) = W2 := ⟨_, rfl⟩
  have lW2 : Below w1.heap.size w1 W2 := by rw [← hW2]; repeat (first | (with_reducible exact Below.refl _ _) | (with_reducible apply Below.drew) | (with_reducible refine below_drewN ?_ _) | (with_reducible refine below_alloc' ?_ ?_ _; (focus ((try simp) <;> omega))) | (with_reducible refine below_set' ?_ ?_ _; (focus ((try simp) <;> omega))))
  have hbv : W2.heap[w1.heap.size]? = some (.cells #[.int .u64 0, .int .u64 0] 58 (0, 0)) := by rw [← hW2]; simp [↓heap_alloc_eq, ↓heap_set_eq, ↓heap_drew_eq, ↓heap_drewN_eq, setObj, size_drewN]
  have hbi : W2.heap[w1.heap.size + 1]? = some (.cells #[.int .i64 0, .int .i64 1] 3 (0, 0)) := by rw [← hW2]; simp [↓heap_alloc_eq, ↓heap_set_eq, ↓heap_drew_eq, ↓heap_drewN_eq, setObj, size_drewN]
  have hg := legal_any (asked_live (c := 10) (HE2.out.below lW2) L10_ok (by decide) hbv) (some ⟨w1.heap.size + 1, 0, none⟩) 2 2 [0, 1] (ints_in hbi) (by decide) (Nat.le_refl _)
  have HE3 := Lib.hid (HE2.out.below lW2)
  have HL3 := Lib.hid (btrans HL2.out (Nat.le_refl _) lW2)
  rw [hW2]
  clear hW2 HE2 HL2 lW2 hbv hbi hsz2
  refine hg.mono ?_
  rintro e w2 ⟨rfl, l2⟩
  rw [L10_legal.1, L10_legal.2]
  have HE4 := Lib.hid (HE3.out.below l2)
  have HL4 := Lib.hid (btrans HL3.out (Nat.le_refl _) l2)
  have hsz4 := HL4.out.size
  clear l2 hg HE3 HL3
  go_wp2_with fail
  obtain ⟨W3, hW3⟩ : ∃ W3, w2.alloc (.cells #[.int .u64 0, .int .u64 0] 58) = W3 := ⟨_, rfl⟩
  have lW3 : Below w2.heap.size w2 W3 := by rw [← hW3]; repeat (first | (with_reducible exact Below.refl _ _) | (with_reducible apply Below.drew) | (with_reducible refine below_drewN ?_ _) | (with_reducible refine below_alloc' ?_ ?_ _; (focus ((try simp) <;> omega))) | (with_reducible refine below_set' ?_ ?_ _; (focus ((try simp) <;> omega))))
  have hbv : W3.heap[w2.heap.size]? = some (.cells #[.int .u64 0, .int .u64 0] 58 (0, 0)) := by rw [← hW3]; simp [↓heap_alloc_eq, ↓heap_set_eq, ↓heap_drew_eq, ↓heap_drewN_eq, setObj, size_drewN]
  have hf := found_any (asked_live (c := 10) (evsIn_take (HE4.out.below lW3) (k := 9) (by decide)) (fun x hx => L10_ok x (List.mem_of_mem_take hx)) (by decide) hbv)
  rw [L9_found] at hf
  have HL5 := Lib.hid (btrans HL4.out (Nat.le_refl _) lW3)
  rw [hW3]
  clear hW3 HE4 HL4 lW3 hbv hsz4
  refine hf.mono ?_
  rintro e w3 ⟨l3, a3, c3, rfl, hc3, hi3⟩
  have HL6 := Lib.hid (btrans HL5.out (Nat.le_refl _) l3)
  obtain ⟨g, off, rfl, hc⟩ := hi3.2.resolve_left (by decide)
  have c0 := hc 0 (by decide)
  clear l3 hf HL5 hi3 hc hc3
  simp only [List.length_cons, List.length_nil, Nat.zero_add]
  rw [Nat.add_zero, show ([1, 0] : List Int).getD 0 0 = 1 from rfl] at c0
  go_wp2_with fail
  go_ret
  exact ⟨rfl, HL6.out⟩
end Go.Proofs.YtganmdbhmihjpaaGreat.Opa
