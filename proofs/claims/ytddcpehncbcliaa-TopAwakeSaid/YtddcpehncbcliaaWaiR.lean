/- The other side: its lists in memory; New, at, may, Asleep, At, Of, Waiting. -/
import Derived.Test.YtddcpehncbcliaaWaiG
namespace Go.Proofs.Ytddcpehncbcliaa.Wai
open Go.RowKit
set_option linter.unusedSimpArgs false
set_option linter.unusedVariables false

/-- one that waits, cell by cell -/
def rcW (x : Wt) : List Value := .int .i64 x.th :: ((List.range 12).map (fun t => .bool (x.of.testBit t)) ++ [.bool x.sl])
theorem rcW_len (x : Wt) : (rcW x).length = 14 := by simp [rcW]
theorem rcW_one (x : Wt) : ∀ u ∈ rcW x, u.oneCell' = true := by
  intro u hu
  simp only [rcW, List.mem_cons, List.mem_append, List.mem_map, List.not_mem_nil, or_false] at hu
  rcases hu with rfl | ⟨t, _, rfl⟩ | rfl <;> rfl
theorem rcW_of (x : Wt) (t : Nat) (h : t < 12) : (rcW x)[1 + t]? = some (.bool (x.of.testBit t)) := by
  unfold rcW
  rw [show 1 + t = t + 1 by omega, List.getElem?_cons_succ, List.getElem?_append_left (by simpa using h)]
  simp [h]
theorem rcW_sl (x : Wt) : (rcW x)[13]? = some (.bool x.sl) := by simp [rcW]
def rowW (ws : Ws) : List Value := ws.flatMap rcW
theorem rowW_len (ws : Ws) : (rowW ws).length = ws.length * 14 := by
  induction ws with
  | nil => rfl
  | cons f ws ih => rw [rowW, List.flatMap_cons, List.length_append, rcW_len, ← rowW, ih, List.length_cons]; omega
theorem rowW_one (ws : Ws) : ∀ u ∈ rowW ws, u.oneCell' = true := by
  intro u hu
  simp only [rowW, List.mem_flatMap] at hu
  obtain ⟨f, _, hu⟩ := hu
  exact rcW_one f u hu
theorem rowW_get (ws : Ws) : ∀ (i r : Nat), r < 14 → (rowW ws)[i * 14 + r]? = (ws[i]?).bind fun x => (rcW x)[r]? := by
  induction ws with
  | nil => intro i r _; simp [rowW]
  | cons f ws ih =>
    intro i r hr
    rw [rowW, List.flatMap_cons, ← rowW]
    cases i with
    | zero => rw [Nat.zero_mul, Nat.zero_add, List.getElem?_append_left (by rw [rcW_len]; exact hr)]; rfl
    | succ i =>
      rw [List.getElem?_append_right (by rw [rcW_len]; omega), rcW_len, show (i + 1) * 14 + r - 14 = i * 14 + r by omega, ih i r hr]
      rfl
theorem rowW_append (ws vs : Ws) : rowW (ws ++ vs) = rowW ws ++ rowW vs := by simp [rowW]
/-- the other side's lists -/
def RAt (w : World) (b : Nat) (ws : Ws) : Prop :=
  ∃ la lc, w.heap[b]? = some (.cells #[.slice la ws.length lc] 71 (0, 0)) ∧ w.ownsRow 0 76 14 (.slice la ws.length lc) ws.length (rowW ws) ∧ WfW ws
theorem RAt.below {w w' : World} {b : Nat} {ws : Ws} (h : RAt w b ws) (l : Below w.heap.size w w') : RAt w' b ws := by
  obtain ⟨a, c, h1, h2, h3⟩ := h
  exact ⟨a, c, bblk l h1, ownsRow_only h2 (Only.empty l (Nat.le_refl _)) (fun _ _ h => h), h3⟩
theorem RAt.lt {w : World} {b : Nat} {ws : Ws} (h : RAt w b ws) : b < w.heap.size := by
  obtain ⟨a, c, h1, _⟩ := h
  exact blk_lt h1
theorem RAt.wf {w : World} {b : Nat} {ws : Ws} (h : RAt w b ws) : WfW ws := by
  obtain ⟨a, c, _, _, h⟩ := h
  exact h
/-- the cells of the i-th one -/
theorem row_at {w : World} {g lc n : Nat} {ws : Ws} (h : w.ownsRow 0 76 14 (.slice (some ⟨g, 0, none⟩) n lc) n (rowW ws)) {i : Nat} {x : Wt} (hx : ws[i]? = some x) :
    w.cell? ⟨g, i * 14, none⟩ = some (.int .i64 x.th) ∧ (∀ t, t < 12 → w.cell? ⟨g, i * 14 + 1 + t, none⟩ = some (.bool (x.of.testBit t))) ∧ w.cell? ⟨g, i * 14 + 13, none⟩ = some (.bool x.sl) := by
  have hc := h.cells (g := g) rfl
  have key : ∀ r v, r < 14 → (rcW x)[r]? = some v → w.cell? ⟨g, i * 14 + r, none⟩ = some v := by
    intro r v hr hv
    have := hc (i * 14 + r) v (by rw [rowW_get _ _ _ hr, hx]; exact hv)
    rwa [Addr.add_lit, Nat.zero_add] at this
  exact ⟨key 0 _ (by decide) rfl, fun t ht => by rw [Nat.add_assoc]; exact key (1 + t) _ (by omega) (rcW_of x t ht), key 13 _ (by decide) (rcW_sl x)⟩
theorem rnew_any (w : World) : Calls Try.prog 28 #[] w fun e w' => e = .returned (ptr w.heap.size) ∧ RAt w' w.heap.size [] ∧ Below w.heap.size w w' := by
  go_enter Try.func28, Try.ntmps28
  go_wp2
  go_ret
  exact ⟨rfl, ⟨none, 0, by simp [↓heap_alloc_eq, ↓heap_set_eq, ↓heap_drew_eq, ↓heap_drewN_eq, setObj, size_drewN], World.ownsRow_nil _ _ _ _, WfW.nil⟩, by repeat (first | (with_reducible exact Below.refl _ _) | (with_reducible apply Below.drew) | (with_reducible refine below_drewN ?_ _) | (with_reducible refine below_alloc' ?_ ?_ _; (focus ((try simp) <;> omega))) | (with_reducible refine below_set' ?_ ?_ _; (focus ((try simp) <;> omega))))⟩
theorem rmay_any (w : World) (b : Nat) (th : Int) : Calls Try.prog 48 #[ptr b, .int .i64 th] w fun e w' => e = .returned (.int .i64 (getEr th)) ∧ w = w' := by
  unfold getEr
  by_cases ht : okTh th
  · rw [if_pos ht]
    have d1 : decide (th < 0) = false := by simp; exact ht.1
    have d2 : decide (4 ≤ th) = false := by simp; exact ht.2
    go_enter Try.func48, Try.ntmps48
    go_wp2
    go_ret
    exact ⟨rfl, rfl⟩
  · rw [if_neg ht]
    by_cases h0 : th < 0
    · have d1 : decide (th < 0) = true := by simpa using h0
      clear h0
      go_enter Try.func48, Try.ntmps48
      go_wp2
      go_ret
      exact ⟨rfl, rfl⟩
    · have d1 : decide (th < 0) = false := by simpa using h0
      have d2 : decide (4 ≤ th) = true := by simp; unfold okTh at ht; omega
      clear h0
      go_enter Try.func48, Try.ntmps48
      go_wp2
      go_ret
      exact ⟨rfl, rfl⟩
def AtIPost (w : World) (ws : Ws) (th : Int) (e : Ending) (w' : World) : Prop :=
  w = w' ∧ ((findW ws th = none ∧ e = .returned (.int .i64 (-1))) ∨ ∃ (k : Nat) (x : Wt), ws[k]? = some x ∧ findW ws th = some x ∧ e = .returned (.int .i64 k))
theorem rat_any (w : World) (b : Nat) (ws : Ws) (h : RAt w b ws) (th : Int) : Calls Try.prog 44 #[ptr b, .int .i64 th] w (AtIPost w ws th) := by
  obtain ⟨la, lc, hb, ho, hwf⟩ := h
  have hlen := hwf.len
  obtain ⟨n, hn⟩ : ∃ n, ws.length = n := ⟨_, rfl⟩
  have HN := Lib.hid hn; have HWF := Lib.hid hwf
  rw [hn] at hb ho hlen
  have b0 := blk_cell hb 0
  simp only [List.getElem?_toArray, List.getElem?_cons_zero, List.getElem?_cons_succ] at b0
  have HO := Lib.hid ho
  unfold AtIPost
  clear hb ho hwf hn
  go_enter Try.func44, Try.ntmps44
  go_wp2_with fail
  go_loopw [5] (fun i wr => ∃ k : Nat, i = .int .i64 k ∧ k ≤ n ∧ findW (ws.take k) th = none ∧ wr = w) (fun i _ => n - (intOf i).toNat)
  case atStart => exact ⟨0, rfl, Nat.zero_le _, rfl, rfl⟩
  case round =>
    obtain ⟨k, rfl, hk, hno, rfl⟩ := hrel
    have HNO := Lib.hid hno
    clear hno
    by_cases hlt : k < n
    · obtain ⟨x, hx⟩ : ∃ x, ws[k]? = some x := ⟨ws[k]'(by rw [HN.out]; exact hlt), List.getElem?_eq_getElem _⟩
      rcases HO.out.2 with ⟨h0, h1⟩ | ⟨g, cap, cur, h0, _⟩
      · omega
      injection h0 with h0 hmid h2
      clear hmid
      subst h0 h2
      obtain ⟨c0, _, _⟩ := row_at HO.out hx
      have HX := Lib.hid hx
      obtain ⟨t, ht⟩ : ∃ t, x.th = t := ⟨_, rfl⟩
      rw [ht] at c0
      have HT := Lib.hid ht
      clear hx ht
      by_cases he : t = th
      · subst he
        have hq : (t == t) = true := by simp
        have HF := Lib.hid (show findW ws t = some x from HT.out ▸ findW_at HWF.out.nodup (List.mem_of_getElem? HX.out))
        go_wp2_with fail
        go_ret
        exact ⟨rfl, .inr ⟨k, x, HX.out, HF.out, rfl⟩⟩
      · have hq : (t == th) = false := by simpa using he
        have HN2 := Lib.hid (show findW (ws.take (k + 1)) th = none by
          rw [List.take_add_one, HX.out]
          show findW (ws.take k ++ [x]) th = none
          rw [findW_snoc, HNO.out, if_neg (by rw [HT.out]; exact he)]; rfl)
        clear he
        go_wp2_with fail
        exact ⟨⟨k + 1, by go_num, by omega, HN2.out, trivial⟩, by simp [intOf]; omega⟩
    · obtain rfl : k = n := by omega
      have hno := HNO.out
      rw [List.take_of_length_le (by rw [HN.out]; exact Nat.le_refl _)] at hno
      have HNF := Lib.hid hno
      clear hno
      go_wp2_with fail
      go_ret
      exact ⟨rfl, .inl ⟨HNF.out, rfl⟩⟩
theorem rasleep_any (w : World) (b : Nat) (ws : Ws) (h : RAt w b ws) (th : Int) : Calls Try.prog 34 #[ptr b, .int .i64 th] w fun e w' => e = .returned (.bool (gSl ws th)) ∧ w = w' := by
  have HA := Lib.hid (rat_any w b ws h th)
  obtain ⟨la, lc, hb, ho, hwf⟩ := h
  have b0 := blk_cell hb 0
  simp only [List.getElem?_toArray, List.getElem?_cons_zero, List.getElem?_cons_succ] at b0
  have HO := Lib.hid ho
  clear hb ho hwf
  go_enter Try.func34, Try.ntmps34
  go_wp2_with fail
  refine HA.out.mono ?_
  rintro e w0 ⟨rfl, ⟨hf, rfl⟩ | ⟨k, x, hx, hf, rfl⟩⟩
  · have HS := Lib.hid (show gSl ws th = false by unfold gSl; rw [hf]; rfl)
    clear hf
    go_wp2_with fail
    go_ret
    exact ⟨by rw [HS.out]; rfl, rfl⟩
  · have hkl : k < ws.length := (List.getElem?_eq_some_iff.1 hx).1
    rcases HO.out.2 with ⟨h0, h1⟩ | ⟨g, cap, cur, h0, _⟩
    · omega
    injection h0 with h0 hmid h2
    clear hmid
    subst h0 h2
    obtain ⟨_, _, c13⟩ := row_at HO.out hx
    have HS := Lib.hid (show gSl ws th = x.sl by unfold gSl; rw [hf]; rfl)
    have hkl' : (k : Int) < ws.length := by omega
    clear hf hx
    generalize x.sl = xs at *
    go_wp2_with fail
    go_ret
    exact ⟨by rw [HS.out]; rfl, rfl⟩
end Go.Proofs.Ytddcpehncbcliaa.Wai
