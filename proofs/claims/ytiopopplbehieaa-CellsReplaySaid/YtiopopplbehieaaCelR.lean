/- The other side's cells: New, Word, Words, Log, Steps. -/
import Derived.Test.YtiopopplbehieaaCelD
namespace Go.Proofs.Ytiopopplbehieaa.Cel
open Go.RowKit
set_option linter.unusedSimpArgs false
set_option linter.unusedVariables false
def rNewPost (w : World) (n : Int) (e : Ending) (w' : World) : Prop :=
  Below w.heap.size w w' ∧ ((n < 1 ∨ 32 < n) ∧ e = .returned (.pointer none) ∨
    (1 ≤ n ∧ n ≤ 32) ∧ e = .returned (ptr (w.heap.size + 1)) ∧ CellsAt 71 w' (w.heap.size + 1) (Grow (fun _ => False) w w') ⟨List.replicate n.toNat 0, []⟩)

theorem rnew_any (w : World) (n : Int) : Calls Try.prog 28 #[.int .i64 n] w (rNewPost w n) := by
  by_cases h : n < 1
  · go_enter Try.func28, Try.ntmps28
    go_wp2
    go_ret
    exact ⟨Below.refl _ _, .inl ⟨.inl h, rfl⟩⟩
  by_cases h' : 32 < n
  · have h0 : decide (n < 1) = false := by simpa using h
    go_enter Try.func28, Try.ntmps28
    go_wp2
    go_ret
    exact ⟨Below.refl _ _, .inl ⟨.inr h', rfl⟩⟩
  obtain ⟨m, rfl⟩ := Int.eq_ofNat_of_zero_le (by omega : 0 ≤ n)
  have h0 : decide ((m : Int) < 1) = false := by simpa using h
  have h0' : decide ((32 : Int) < (m : Int)) = false := by simpa using h'
  have hm1 : 1 ≤ m := by omega
  have hm : m ≤ 32 := by omega
  have hmk := run_make_row' (P := Try.prog) 46 23 (.int .u64 0) 8 Try.underlying46 infoW rfl .i64 .i64 m (by omega) (by omega)
  have HN := Lib.hid (new_raw 71 w m (by omega))
  clear h h'
  go_enter Try.func28, Try.ntmps28
  go_wp2
  go_ret
  refine ⟨by repeat (first | (with_reducible exact Below.refl _ _) | (with_reducible apply Below.drew) | (with_reducible refine below_drewN ?_ _) | (with_reducible refine below_alloc' ?_ ?_ _; (focus ((try simp) <;> omega))) | (with_reducible refine below_set' ?_ ?_ _; (focus ((try simp) <;> omega)))), .inr ⟨⟨by omega, by omega⟩, rfl, ?_⟩⟩
  simpa using HN.out

theorem rword_any {F : Nat → Prop} (w : World) (b : Nat) (s : CSt) (h : CellsAt 71 w b F s) (i : Int) : Calls Try.prog 30 #[ptr b, .int .i64 i] w (WordPost w s i) := by
  obtain ⟨wb, wcap, v, h, _⟩ := h
  have h0 := blk_cell h.obj 0
  simp only [List.getElem?_toArray, List.getElem?_cons_zero] at h0
  by_cases h1 : i < 0
  · have e : WordPost w s i (.returned (.tuple #[.int .u64 0, .int .i64 2])) w := ⟨by simp [CSt.wordV, CSt.wordE, CSt.inr, h1, show ¬ 0 ≤ i by omega], rfl⟩
    have E := Lib.hid e; clear e h
    go_enter Try.func30, Try.ntmps30
    go_wp2
    go_ret2
    exact E.out
  obtain ⟨m, rfl⟩ := Int.eq_ofNat_of_zero_le (by omega : 0 ≤ i)
  have hd : decide ((m : Int) < 0) = false := by simp
  by_cases h2 : m < s.ws.length
  · have hc := h.cell m h2
    have e : WordPost w s m (.returned (.tuple #[.int .u64 (s.ws.getD m 0), .int .i64 0])) w := ⟨by simp [CSt.wordV, CSt.wordE, CSt.inr, CSt.at, h2], rfl⟩
    have E := Lib.hid e; clear e h h1
    generalize s.ws.getD m 0 = x at *
    generalize s.ws.length = n at *
    go_enter Try.func30, Try.ntmps30
    go_wp2
    go_ret2
    exact E.out
  · have e : WordPost w s m (.returned (.tuple #[.int .u64 0, .int .i64 2])) w := ⟨by simp [CSt.wordV, CSt.wordE, CSt.inr, h2], rfl⟩
    have E := Lib.hid e; clear e h h1
    generalize s.ws.length = n at *
    go_enter Try.func30, Try.ntmps30
    go_wp2
    go_ret2
    exact E.out

theorem rword_nil (w : World) (i : Int) : Calls Try.prog 30 #[.pointer none, .int .i64 i] w fun e w' => e = .returned (.tuple #[.int .u64 0, .int .i64 1]) ∧ w = w' := by
  go_enter Try.func30, Try.ntmps30
  go_wp2
  go_ret2
  exact ⟨rfl, rfl⟩

theorem rsteps_any {F : Nat → Prop} (w : World) (b : Nat) (s : CSt) (hI : s.Inv) (h : CellsAt 71 w b F s) : Calls Try.prog 34 #[ptr b] w fun e w' => e = .returned (.int .i64 s.log.length) ∧ w = w' := by
  obtain ⟨wb, wcap, v, h, _⟩ := h
  have h0 := blk_cell h.obj 1
  simp only [List.getElem?_toArray, List.getElem?_cons_zero, List.getElem?_cons_succ] at h0
  obtain ⟨a, c, hv⟩ := ownsRow_slice h.log
  subst hv
  have hm := hI.log
  clear h hI
  generalize s.log.length = n at *
  go_enter Try.func34, Try.ntmps34
  go_wp2
  go_ret
  exact ⟨rfl, rfl⟩


theorem rwords_any {F : Nat → Prop} (w : World) (b : Nat) (s : CSt) (hI : s.Inv) (h : CellsAt 71 w b F s) : Calls Try.prog 31 #[ptr b] w (ValsPost 23 1 w s.ws.length (wordVals s.ws)) := by
  obtain ⟨i0, hi, hz0, hz1, hz2⟩ := info_parts infoW
  obtain ⟨wb, wcap, v, h, _⟩ := h
  have h0 := blk_cell h.obj 0
  simp only [List.getElem?_toArray, List.getElem?_cons_zero, List.getElem?_cons_succ] at h0
  have hs := h.ws.cells (g := wb) rfl
  have hl : (wordVals s.ws).length = s.ws.length * 1 := h.ws.1
  have hn := hI.small
  have hblt := h.lt.1
  have hone := wordVals_one s.ws
  have hE : (w.alloc (.cells #[] 23)).ownsRow w.heap.size 23 1 (.slice (some ⟨w.heap.size, 0, none⟩) 0 0) 0 [] := by
    have := World.ownsRow_lit (base := w.heap.size) (e := 23) (size := 1) w #[] 0 (Nat.le_refl _) (by decide) (by simp)
    simpa using this
  have HS := Lib.hid hs; have H1 := Lib.hid hone; have HE := Lib.hid hE; have HL := Lib.hid hl
  clear h hI hs hl hone hE
  generalize s.ws.length = n at *
  generalize wordVals s.ws = xs at *
  go_enter Try.func31, Try.ntmps31
  go_wp2_with (at_builtin; refine wpList_append_own _ rfl _ _ 46 rfl w.heap.size 23 i0 (.int .u64 0) 1 8 Try.underlying46 hi hz0 hz1 hz2 rfl (by decide) _ 0 [] rfl HE.out ⟨wb, 0, none⟩ n wcap xs rfl HL.out ?c1 H1.out ?c3 ?c4 ?c5 ?_)
  case c1 =>
    intro j u hu
    have := HS.out j u hu
    rw [Addr.add_lit] at this ⊢
    exact bkeep ((Below.refl _ _).alloc (Nat.le_refl _) _) this
  case c3 => unfold maxLen; omega
  case c4 => omega
  case c5 => simp
  intro v' w1 hown hgr _
  have hB : Below w.heap.size w w1 := ((Below.refl _ w).alloc (Nat.le_refl _) (.cells #[] 23)).grown hgr (by simp) (by simp [Value.ownBlock])
  have hW := Lib.hid hown; have HB := Lib.hid hB
  clear hown hgr hB HS H1 HE
  go_wp2
  go_ret
  exact ⟨_, rfl, by simpa using hW.out, HB.out⟩

theorem rlog_any {F : Nat → Prop} (w : World) (b : Nat) (s : CSt) (hI : s.Inv) (h : CellsAt 71 w b F s) : Calls Try.prog 33 #[ptr b] w (ValsPost 37 6 w s.log.length (logVals s.log)) := by
  obtain ⟨i0, hi, hz0, hz1, hz2⟩ := info_parts infoL
  obtain ⟨wb, wcap, v, h, _⟩ := h
  have h0 := blk_cell h.obj 1
  simp only [List.getElem?_toArray, List.getElem?_cons_zero, List.getElem?_cons_succ] at h0
  have hr := h.log
  have hn := hI.log
  have hblt := h.lt.1
  have hone := logVals_one s.log
  have hE : (w.alloc (.cells #[] 37)).ownsRow w.heap.size 37 6 (.slice (some ⟨w.heap.size, 0, none⟩) 0 0) 0 [] := by
    have := World.ownsRow_lit (base := w.heap.size) (e := 37) (size := 6) w #[] 0 (Nat.le_refl _) (by decide) (by simp)
    simpa using this
  clear h hI
  generalize s.log.length = n at *
  generalize logVals s.log = xs at *
  have HE := Lib.hid hE
  rcases hr.2 with ⟨rfl, rfl⟩ | ⟨g, cap, cur, rfl, _, hg, _⟩
  · have hl : xs = [] := List.length_eq_zero_iff.1 (by have := hr.1; omega)
    clear hr hE hone
    go_enter Try.func33, Try.ntmps33
    go_wp2
    go_ret
    exact ⟨_, rfl, by simpa [hl] using HE.out, by repeat (first | (with_reducible exact Below.refl _ _) | (with_reducible apply Below.drew) | (with_reducible refine below_drewN ?_ _) | (with_reducible refine below_alloc' ?_ ?_ _; (focus ((try simp) <;> omega))) | (with_reducible refine below_set' ?_ ?_ _; (focus ((try simp) <;> omega))))⟩
  · have hs := hr.cells (g := g) rfl
    have hl : xs.length = n * 6 := hr.1
    have hglt := blk_lt hg
    have HS := Lib.hid hs; have H1 := Lib.hid hone; have HL := Lib.hid hl
    clear hs hl hone hE hr hg
    go_enter Try.func33, Try.ntmps33
    go_wp2_with (at_builtin; refine wpList_append_own _ rfl _ _ 48 rfl w.heap.size 37 i0 (.agg #[.int .u8 0, .int .i64 0, .int .u64 0, .int .u64 0, .int .u64 0, .bool false]) 6 48 Try.underlying48 hi hz0 hz1 hz2 rfl (by decide) _ 0 [] rfl HE.out ⟨g, 0, none⟩ n cap xs rfl HL.out ?c1 H1.out ?c3 ?c4 ?c5 ?_)
    case c1 =>
      intro j u hu
      have := HS.out j u hu
      rw [Addr.add_lit] at this ⊢
      exact bkeep ((Below.refl _ _).alloc (Nat.le_refl _) _) this
    case c3 => unfold maxLen; omega
    case c4 => omega
    case c5 => simp
    intro v' w1 hown hgr _
    have hB : Below w.heap.size w w1 := ((Below.refl _ w).alloc (Nat.le_refl _) (.cells #[] 37)).grown hgr (by simp) (by simp [Value.ownBlock])
    have hW := Lib.hid hown; have HB := Lib.hid hB
    clear hown hgr hB HS H1 HE
    go_wp2
    go_ret
    exact ⟨_, rfl, by simpa using hW.out, HB.out⟩
end Go.Proofs.Ytiopopplbehieaa.Cel
