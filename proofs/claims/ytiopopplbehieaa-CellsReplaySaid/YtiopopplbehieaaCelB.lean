/- Cells in memory; what New, Word, Words, Log, Steps answer. -/
import Derived.Test.YtiopopplbehieaaCelA
import Derived.Deep.OwnRows
import Derived.Deep.AppendLies
namespace Go.Proofs.Ytiopopplbehieaa.Cel
open Go.RowKit
set_option linter.unusedSimpArgs false
set_option linter.unusedVariables false

abbrev ptr (b : Nat) : Value := .pointer (some ⟨b, 0, none⟩)
theorem infoW : (Try.prog.info? 23).map (fun i => (i.zero, i.size, i.bytes)) = some (some (.int .u64 0), 1, 8) := by kernel_rfl
theorem infoL : (Try.prog.info? 37).map (fun i => (i.zero, i.size, i.bytes)) = some (some (.agg #[.int .u8 0, .int .i64 0, .int .u64 0, .int .u64 0, .int .u64 0, .bool false]), 6, 48) := by kernel_rfl

/-- Cells (type T) in block b, words in block wb, the log a row of its own. -/
structure Raw (T : TypeId) (w : World) (b wb wcap : Nat) (v : Value) (s : CSt) : Prop where
  obj : w.heap[b]? = some (.cells #[.slice (some ⟨wb, 0, none⟩) s.ws.length wcap, v] T (0, 0))
  ws : w.ownsRow 0 23 1 (.slice (some ⟨wb, 0, none⟩) s.ws.length wcap) s.ws.length (wordVals s.ws)
  log : w.ownsRow 0 37 6 v s.log.length (logVals s.log)
  n1 : b ≠ wb
  n2 : v.ownBlock ≠ some b
  n3 : v.ownBlock ≠ some wb
/-- .. and F holds all of their blocks. -/
def CellsAt (T : TypeId) (w : World) (b : Nat) (F : Nat → Prop) (s : CSt) : Prop :=
  ∃ wb wcap v, Raw T w b wb wcap v s ∧ F b ∧ F wb ∧ (∀ k, v.ownBlock = some k → F k) ∧ Within F w

section
variable {T : TypeId} {w w' : World} {b wb wcap : Nat} {v : Value} {s : CSt} {F S : Nat → Prop}
theorem Raw.keep (h : Raw T w b wb wcap v s) (ho : Only S w w') (h1 : ¬ S b) (h2 : ¬ S wb) (h3 : ∀ k, v.ownBlock = some k → ¬ S k) : Raw T w' b wb wcap v s :=
  ⟨ho.blk h.obj h1, ownsRow_only h.ws ho (by intro k hk; simp [Value.ownBlock] at hk; subst hk; exact h2), ownsRow_only h.log ho h3, h.n1, h.n2, h.n3⟩
theorem CellsAt.keep (h : CellsAt T w b F s) (ho : Only S w w') (hd : Apart F S) : CellsAt T w' b F s := by
  obtain ⟨wb, wcap, v, h, f1, f2, f3, hw⟩ := h
  exact ⟨wb, wcap, v, h.keep ho (hd _ f1) (hd _ f2) (fun k hk => hd _ (f3 k hk)), f1, f2, f3, hw.only ho⟩
theorem CellsAt.below (h : CellsAt T w b F s) (ho : Below w.heap.size w w') : CellsAt T w' b F s :=
  h.keep (Only.empty ho (Nat.le_refl _)) fun _ _ h => h
theorem CellsAt.within (h : CellsAt T w b F s) : Within F w := by
  obtain ⟨_, _, _, _, _, _, _, hw⟩ := h
  exact hw
theorem CellsAt.drew (h : CellsAt T w b F s) : CellsAt T w.drew b F s := h.below ((Below.refl _ _).drew)
/-- the words' cells -/
theorem Raw.cell (h : Raw T w b wb wcap v s) (i : Nat) (hi : i < s.ws.length) : w.cell? ⟨wb, i, none⟩ = some (.int .u64 (s.ws.getD i 0)) := by
  have := h.ws.cells (g := wb) rfl i (.int .u64 (s.ws.getD i 0)) (by simp [wordVals, List.getD_eq_getElem?_getD, hi])
  rwa [Addr.add_lit, Nat.zero_add] at this
theorem Raw.lt (h : Raw T w b wb wcap v s) : b < w.heap.size ∧ wb < w.heap.size := ⟨blk_lt h.obj, ownsRow_lt h.ws rfl⟩
theorem Raw.free (h : Raw T w b wb wcap v s) (i : Nat) : w.frozen? ⟨wb, i, none⟩ = false := by
  rcases h.ws.2 with ⟨h0, _⟩ | ⟨g, cap, cur, hv, _, hg, _⟩
  · cases h0
  · injection hv with hv
    injection hv with hv
    injection hv with hv
    subst hv
    simp [World.frozen?, hg]
end

/-! ### New -/
def NewPost (w : World) (n : Int) (e : Ending) (w' : World) : Prop :=
  Below w.heap.size w w' ∧ ((n < 1 ∨ 32 < n) ∧ e = .returned (.pointer none) ∨
    (1 ≤ n ∧ n ≤ 32) ∧ e = .returned (ptr (w.heap.size + 1)) ∧ CellsAt 66 w' (w.heap.size + 1) (Grow (fun _ => False) w w') ⟨List.replicate n.toNat 0, []⟩)

theorem new_raw (T : TypeId) (w : World) (n : Nat) (hn : n ≤ 1000) :
    CellsAt T ((w.alloc (.cells (madeCells #[.int .u64 0] n) 23)).alloc (.cells #[.slice (some ⟨w.heap.size, 0, none⟩) n n, .slice none 0 0] T)) (w.heap.size + 1)
      (Grow (fun _ => False) w ((w.alloc (.cells (madeCells #[.int .u64 0] n) 23)).alloc (.cells #[.slice (some ⟨w.heap.size, 0, none⟩) n n, .slice none 0 0] T))) ⟨List.replicate n 0, []⟩ := by
  have hw : (w.alloc (.cells (madeCells #[.int .u64 0] n) 23)).ownsRow 0 23 1 (.slice (some ⟨w.heap.size, 0, none⟩) n n) n (wordVals (List.replicate n 0)) := by
    have h := World.ownsRow_lit (base := 0) (e := 23) (size := 1) w (madeCells #[.int .u64 0] n) n (Nat.zero_le _) (by simp only [maxLen]; omega) (by simp [size_madeCells])
    have hl : (madeCells #[Value.int .u64 0] n).toList = wordVals (List.replicate n 0) := by
      apply List.ext_getElem
      · simp [wordVals, madeCells]
      · intro i h1 h2
        simp [wordVals, madeCells, Nat.mod_one]
    rwa [hl] at h
  refine ⟨w.heap.size, n, .slice none 0 0, ⟨?_, ?_, ⟨by simp [logVals], .inl ⟨rfl, rfl⟩⟩, by omega, by simp [Value.ownBlock], by simp [Value.ownBlock]⟩, .inr (by (try simp) <;> omega), .inr (by (try simp) <;> omega), by simp [Value.ownBlock], ?_⟩
  · have h := blk_new (w.alloc (.cells (madeCells #[.int .u64 0] n) 23)) (.cells #[.slice (some ⟨w.heap.size, 0, none⟩) n n, .slice none 0 0] T)
    rw [World.size_alloc] at h
    simpa using h
  · simpa using hw.alloc _
  · exact Within.grow (fun k h => h.elim) (by simp; omega)

theorem new_any (w : World) (n : Int) : Calls Try.prog 21 #[.int .i64 n] w (NewPost w n) := by
  by_cases h : n < 1
  · go_enter Try.func21, Try.ntmps21
    go_wp2
    go_ret
    exact ⟨Below.refl _ _, .inl ⟨.inl h, rfl⟩⟩
  by_cases h' : 32 < n
  · have h0 : decide (n < 1) = false := by simpa using h
    go_enter Try.func21, Try.ntmps21
    go_wp2
    go_ret
    exact ⟨Below.refl _ _, .inl ⟨.inr h', rfl⟩⟩
  obtain ⟨m, rfl⟩ := Int.eq_ofNat_of_zero_le (by omega : 0 ≤ n)
  have h0 : decide ((m : Int) < 1) = false := by simpa using h
  have h0' : decide ((32 : Int) < (m : Int)) = false := by simpa using h'
  have hm1 : 1 ≤ m := by omega
  have hm : m ≤ 32 := by omega
  have hmk := run_make_row' (P := Try.prog) 46 23 (.int .u64 0) 8 Try.underlying46 infoW rfl .i64 .i64 m (by omega) (by omega)
  have HN := Lib.hid (new_raw 66 w m (by omega))
  clear h h'
  go_enter Try.func21, Try.ntmps21
  go_wp2
  go_ret
  refine ⟨by repeat (first | (with_reducible exact Below.refl _ _) | (with_reducible apply Below.drew) | (with_reducible refine below_drewN ?_ _) | (with_reducible refine below_alloc' ?_ ?_ _; (focus ((try simp) <;> omega))) | (with_reducible refine below_set' ?_ ?_ _; (focus ((try simp) <;> omega)))), .inr ⟨⟨by omega, by omega⟩, rfl, ?_⟩⟩
  simpa using HN.out

/-! ### Word -/
def CSt.wordE (s : CSt) (i : Int) : Int := if s.inr i then 0 else 2
def CSt.wordV (s : CSt) (i : Int) : Int := if s.inr i then s.at i else 0
def WordPost (w : World) (s : CSt) (i : Int) (e : Ending) (w' : World) : Prop := e = .returned (.tuple #[.int .u64 (s.wordV i), .int .i64 (s.wordE i)]) ∧ w = w'

theorem word_any {F : Nat → Prop} (w : World) (b : Nat) (s : CSt) (h : CellsAt 66 w b F s) (i : Int) : Calls Try.prog 12 #[ptr b, .int .i64 i] w (WordPost w s i) := by
  obtain ⟨wb, wcap, v, h, _⟩ := h
  have h0 := blk_cell h.obj 0
  simp only [List.getElem?_toArray, List.getElem?_cons_zero] at h0
  by_cases h1 : i < 0
  · have e : WordPost w s i (.returned (.tuple #[.int .u64 0, .int .i64 2])) w := ⟨by simp [CSt.wordV, CSt.wordE, CSt.inr, h1, show ¬ 0 ≤ i by omega], rfl⟩
    have E := Lib.hid e; clear e h
    go_enter Try.func12, Try.ntmps12
    go_wp2
    go_ret2
    exact E.out
  obtain ⟨m, rfl⟩ := Int.eq_ofNat_of_zero_le (by omega : 0 ≤ i)
  have hd : decide ((m : Int) < 0) = false := by simp
  by_cases h2 : m < s.ws.length
  · have hc := h.cell m h2
    have e : WordPost w s m (.returned (.tuple #[.int .u64 (s.ws.getD m 0), .int .i64 0])) w := ⟨by simp [CSt.wordV, CSt.wordE, CSt.inr, CSt.at, h2], rfl⟩
    have E := Lib.hid e; clear e h h1
    generalize s.ws.getD m 0 = x at *
    generalize s.ws.length = n at *
    go_enter Try.func12, Try.ntmps12
    go_wp2
    go_ret2
    exact E.out
  · have e : WordPost w s m (.returned (.tuple #[.int .u64 0, .int .i64 2])) w := ⟨by simp [CSt.wordV, CSt.wordE, CSt.inr, h2], rfl⟩
    have E := Lib.hid e; clear e h h1
    generalize s.ws.length = n at *
    go_enter Try.func12, Try.ntmps12
    go_wp2
    go_ret2
    exact E.out

theorem word_nil (w : World) (i : Int) : Calls Try.prog 12 #[.pointer none, .int .i64 i] w fun e w' => e = .returned (.tuple #[.int .u64 0, .int .i64 1]) ∧ w = w' := by
  go_enter Try.func12, Try.ntmps12
  go_wp2
  go_ret2
  exact ⟨rfl, rfl⟩

/-! ### Clone -/
def ClonePost (e : TypeId) (size : Nat) (w : World) (n : Nat) (xs : List Value) (en : Ending) (w' : World) : Prop :=
  ∃ v', en = .returned v' ∧ w'.ownsRow w.heap.size e size v' n xs ∧ Below w.heap.size w w'

theorem cloneW_any (w : World) (v : Value) (n : Nat) (xs : List Value) (h : w.ownsRow 0 23 1 v n xs) (hn : n ≤ 1000) (h1 : ∀ u ∈ xs, u.oneCell' = true) : Calls Try.prog 35 #[v] w (ClonePost 23 1 w n xs) := by
  obtain ⟨i0, hi, hz0, hz1, hz2⟩ := info_parts infoW
  have hnil : ∀ (a : Option Addr) (l c : Nat) (w : World), (binOp .eql 46 (.slice a l c) (.slice none 0 0)).run Try.prog w = .ok (.bool a.isNone) w := fun a l c w => Lib.run_eql_slice_nil (P := Try.prog) w 46 23 a l c 0 0 Try.underlying46
  rcases h.2 with ⟨rfl, rfl⟩ | ⟨g, cap, cur, rfl, _, hg, _⟩
  · have h0 : w.ownsRow w.heap.size 23 1 (.slice none 0 0) 0 xs := ⟨h.1, .inl ⟨rfl, rfl⟩⟩
    have H := Lib.hid h0; clear h0 h h1 hn
    go_enter Try.func35, Try.ntmps35
    go_wp2
    go_ret
    exact ⟨_, rfl, H.out, Below.refl _ _⟩
  · have hl : xs.length = n * 1 := h.1
    have hE : (w.alloc (.cells #[] 23)).ownsRow w.heap.size 23 1 (.slice (some ⟨w.heap.size, 0, none⟩) 0 0) 0 [] := by
      have := World.ownsRow_lit (base := w.heap.size) (e := 23) (size := 1) w #[] 0 (Nat.le_refl _) (by decide) (by simp)
      simpa using this
    have hs := h.cells (g := g) rfl
    have hglt := blk_lt hg
    have HS := Lib.hid hs; have H1 := Lib.hid h1; have HE := Lib.hid hE; have HL := Lib.hid hl
    clear hs h1 hE hl h hg
    go_enter Try.func35, Try.ntmps35
    go_wp2_with (at_builtin; refine wpList_append_own _ rfl _ _ 46 rfl w.heap.size 23 i0 (.int .u64 0) 1 8 Try.underlying46 hi hz0 hz1 hz2 rfl (by decide) _ 0 [] rfl HE.out ⟨g, 0, none⟩ n cap xs rfl HL.out ?c1 H1.out ?c3 ?c4 ?c5 ?_)
    case c1 =>
      intro j u hu
      have := HS.out j u hu
      rw [Addr.add_lit] at this ⊢
      exact bkeep ((Below.refl _ _).alloc (Nat.le_refl _) _) this
    case c3 => unfold maxLen; omega
    case c4 => omega
    case c5 => simp
    intro v' w1 hown hgr _
    have hB : Below w.heap.size w w1 := ((Below.refl _ w).alloc (Nat.le_refl _) (.cells #[] 23)).grown hgr (by simp) (by simp [Value.ownBlock])
    have hW := Lib.hid hown; have HB := Lib.hid hB
    clear hown hgr hB HS H1 HE
    go_wp2
    go_ret
    exact ⟨_, rfl, by simpa using hW.out, HB.out⟩
theorem cloneL_any (w : World) (v : Value) (n : Nat) (xs : List Value) (h : w.ownsRow 0 37 6 v n xs) (hn : n ≤ 1000) (h1 : ∀ u ∈ xs, u.oneCell' = true) : Calls Try.prog 36 #[v] w (ClonePost 37 6 w n xs) := by
  obtain ⟨i0, hi, hz0, hz1, hz2⟩ := info_parts infoL
  have hnil : ∀ (a : Option Addr) (l c : Nat) (w : World), (binOp .eql 48 (.slice a l c) (.slice none 0 0)).run Try.prog w = .ok (.bool a.isNone) w := fun a l c w => Lib.run_eql_slice_nil (P := Try.prog) w 48 37 a l c 0 0 Try.underlying48
  rcases h.2 with ⟨rfl, rfl⟩ | ⟨g, cap, cur, rfl, _, hg, _⟩
  · have h0 : w.ownsRow w.heap.size 37 6 (.slice none 0 0) 0 xs := ⟨h.1, .inl ⟨rfl, rfl⟩⟩
    have H := Lib.hid h0; clear h0 h h1 hn
    go_enter Try.func36, Try.ntmps36
    go_wp2
    go_ret
    exact ⟨_, rfl, H.out, Below.refl _ _⟩
  · have hl : xs.length = n * 6 := h.1
    have hE : (w.alloc (.cells #[] 37)).ownsRow w.heap.size 37 6 (.slice (some ⟨w.heap.size, 0, none⟩) 0 0) 0 [] := by
      have := World.ownsRow_lit (base := w.heap.size) (e := 37) (size := 6) w #[] 0 (Nat.le_refl _) (by decide) (by simp)
      simpa using this
    have hs := h.cells (g := g) rfl
    have hglt := blk_lt hg
    have HS := Lib.hid hs; have H1 := Lib.hid h1; have HE := Lib.hid hE; have HL := Lib.hid hl
    clear hs h1 hE hl h hg
    go_enter Try.func36, Try.ntmps36
    go_wp2_with (at_builtin; refine wpList_append_own _ rfl _ _ 48 rfl w.heap.size 37 i0 (.agg #[.int .u8 0, .int .i64 0, .int .u64 0, .int .u64 0, .int .u64 0, .bool false]) 6 48 Try.underlying48 hi hz0 hz1 hz2 rfl (by decide) _ 0 [] rfl HE.out ⟨g, 0, none⟩ n cap xs rfl HL.out ?c1 H1.out ?c3 ?c4 ?c5 ?_)
    case c1 =>
      intro j u hu
      have := HS.out j u hu
      rw [Addr.add_lit] at this ⊢
      exact bkeep ((Below.refl _ _).alloc (Nat.le_refl _) _) this
    case c3 => unfold maxLen; omega
    case c4 => omega
    case c5 => simp
    intro v' w1 hown hgr _
    have hB : Below w.heap.size w w1 := ((Below.refl _ w).alloc (Nat.le_refl _) (.cells #[] 37)).grown hgr (by simp) (by simp [Value.ownBlock])
    have hW := Lib.hid hown; have HB := Lib.hid hB
    clear hown hgr hB HS H1 HE
    go_wp2
    go_ret
    exact ⟨_, rfl, by simpa using hW.out, HB.out⟩

def ValsPost (e : TypeId) (size : Nat) (w : World) (n : Nat) (xs : List Value) (en : Ending) (w' : World) : Prop :=
  ∃ v', en = .returned v' ∧ w'.ownsRow w.heap.size e size v' n xs ∧ Below w.heap.size w w'
theorem wordVals_one (l : List Int) : ∀ u ∈ wordVals l, u.oneCell' = true := by
  intro u hu
  simp only [wordVals, List.mem_map] at hu
  obtain ⟨x, _, rfl⟩ := hu
  rfl
theorem logVals_one (l : List Dn) : ∀ u ∈ logVals l, u.oneCell' = true := by
  intro u hu
  simp only [logVals, List.mem_flatMap, Dn.vals] at hu
  obtain ⟨x, _, hu⟩ := hu
  simp only [List.mem_cons, List.not_mem_nil, or_false] at hu
  rcases hu with rfl | rfl | rfl | rfl | rfl | rfl <;> rfl

theorem words_any {F : Nat → Prop} (w : World) (b : Nat) (s : CSt) (hI : s.Inv) (h : CellsAt 66 w b F s) : Calls Try.prog 18 #[ptr b] w (ValsPost 23 1 w s.ws.length (wordVals s.ws)) := by
  obtain ⟨wb, wcap, v, h, _⟩ := h
  have h0 := blk_cell h.obj 0
  simp only [List.getElem?_toArray, List.getElem?_cons_zero] at h0
  have HC := Lib.hid (cloneW_any w _ _ _ h.ws hI.small (wordVals_one _))
  clear h hI
  generalize s.ws.length = n at *
  generalize wordVals s.ws = xs at *
  go_enter Try.func18, Try.ntmps18
  go_wp2_with fail
  refine HC.out.mono ?_
  rintro e w1 ⟨v', rfl, h1, h2⟩
  have H1 := Lib.hid h1; have H2 := Lib.hid h2; clear h1 h2 HC
  go_wp2_with fail
  go_ret
  exact ⟨_, rfl, H1.out, H2.out⟩

theorem log_any {F : Nat → Prop} (w : World) (b : Nat) (s : CSt) (hI : s.Inv) (h : CellsAt 66 w b F s) : Calls Try.prog 19 #[ptr b] w (ValsPost 37 6 w s.log.length (logVals s.log)) := by
  obtain ⟨wb, wcap, v, h, _⟩ := h
  have h0 := blk_cell h.obj 1
  simp only [List.getElem?_toArray, List.getElem?_cons_zero, List.getElem?_cons_succ] at h0
  have HC := Lib.hid (cloneL_any w _ _ _ h.log hI.log (logVals_one _))
  clear h hI
  generalize s.log.length = n at *
  generalize logVals s.log = xs at *
  go_enter Try.func19, Try.ntmps19
  go_wp2_with fail
  refine HC.out.mono ?_
  rintro e w1 ⟨v', rfl, h1, h2⟩
  have H1 := Lib.hid h1; have H2 := Lib.hid h2; clear h1 h2 HC
  go_wp2_with fail
  go_ret
  exact ⟨_, rfl, H1.out, H2.out⟩

theorem ownsRow_slice {w : World} {base : Nat} {e : TypeId} {size n : Nat} {v : Value} {xs : List Value} (h : w.ownsRow base e size v n xs) : ∃ a c, v = .slice a n c := by
  rcases h.2 with ⟨rfl, rfl⟩ | ⟨g, cap, cur, rfl, _⟩
  · exact ⟨_, _, rfl⟩
  · exact ⟨_, _, rfl⟩

theorem steps_any {F : Nat → Prop} (w : World) (b : Nat) (s : CSt) (hI : s.Inv) (h : CellsAt 66 w b F s) : Calls Try.prog 20 #[ptr b] w fun e w' => e = .returned (.int .i64 s.log.length) ∧ w = w' := by
  obtain ⟨wb, wcap, v, h, _⟩ := h
  have h0 := blk_cell h.obj 1
  simp only [List.getElem?_toArray, List.getElem?_cons_zero, List.getElem?_cons_succ] at h0
  obtain ⟨a, c, hv⟩ := ownsRow_slice h.log
  subst hv
  have hm := hI.log
  clear h hI
  generalize s.log.length = n at *
  go_enter Try.func20, Try.ntmps20
  go_wp2
  go_ret
  exact ⟨rfl, rfl⟩

theorem words_nil (w : World) : Calls Try.prog 18 #[.pointer none] w fun e w' => e = .returned (.slice none 0 0) ∧ w = w' := by
  go_enter Try.func18, Try.ntmps18
  go_wp2
  go_ret
  exact ⟨rfl, rfl⟩
theorem log_nil (w : World) : Calls Try.prog 19 #[.pointer none] w fun e w' => e = .returned (.slice none 0 0) ∧ w = w' := by
  go_enter Try.func19, Try.ntmps19
  go_wp2
  go_ret
  exact ⟨rfl, rfl⟩
theorem steps_nil (w : World) : Calls Try.prog 20 #[.pointer none] w fun e w' => e = .returned (.int .i64 0) ∧ w = w' := by
  go_enter Try.func20, Try.ntmps20
  go_wp2
  go_ret
  exact ⟨rfl, rfl⟩
theorem fork_nil (w : World) : Calls Try.prog 15 #[.pointer none] w fun e w' => e = .returned (.pointer none) ∧ w = w' := by
  go_enter Try.func15, Try.ntmps15
  go_wp2
  go_ret
  exact ⟨rfl, rfl⟩
end Go.Proofs.Ytiopopplbehieaa.Cel
