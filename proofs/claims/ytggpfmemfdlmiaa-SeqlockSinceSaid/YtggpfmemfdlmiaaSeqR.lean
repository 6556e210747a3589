/- The reference's lock, by what its methods answer and leave. -/
import Derived.Test.YtggpfmemfdlmiaaChecked
import Derived.Test.YtggpfmemfdlmiaaLib
import Derived.Test.YtggpfmemfdlmiaaSeqM
namespace Go.Proofs.Ytggpfmemfdlmiaa.Seq
open Go.RowKit
set_option linter.unusedSimpArgs false
set_option linter.unusedVariables false

abbrev rptr (b : Nat) : Value := .pointer (some ⟨b, 0, none⟩)
def RefAt (w : World) (b : Nat) (s : St) : Prop :=
  w.heap[b]? = some (.cells #[.int .u64 s.cnt, .bool s.own.isSome, .int .i64 s.ownV] 57 (0, 0))

theorem RefAt.lt {w : World} {b : Nat} {s : St} (h : RefAt w b s) : b < w.heap.size := blk_lt h
theorem RefAt.c0 {w : World} {b : Nat} {s : St} (h : RefAt w b s) : w.cell? ⟨b, 0, none⟩ = some (.int .u64 s.cnt) := blk_cell h 0
theorem RefAt.c1 {w : World} {b : Nat} {s : St} (h : RefAt w b s) : w.cell? ⟨b, 1, none⟩ = some (.bool s.own.isSome) := blk_cell h 1
theorem RefAt.c2 {w : World} {b : Nat} {s : St} (h : RefAt w b s) : w.cell? ⟨b, 2, none⟩ = some (.int .i64 s.ownV) := blk_cell h 2
theorem RefAt.fr {w : World} {b : Nat} {s : St} (h : RefAt w b s) (i : Nat) : w.frozen? ⟨b, i, none⟩ = false := blk_free h i
theorem RefAt.only {S : Nat → Prop} {w w' : World} {b : Nat} {s : St} (h : RefAt w b s) (ho : Only S w w') (hS : ¬ S b) : RefAt w' b s := ho.blk h hS

theorem rnew_any (w : World) : Calls Try.prog 22 #[] w fun e w' => e = .returned (rptr w.heap.size) ∧ w' = w.alloc (.cells #[.int .u64 0, .bool false, .int .i64 0] 57) := by
  go_enter Try.func22, Try.ntmps22
  go_wp2
  go_ret
  exact ⟨rfl, rfl⟩

def RSnapPost (w : World) (s : St) (e : Ending) (w' : World) : Prop := e = .returned (.tuple #[.int .u64 s.snapV, .int .i64 s.snapE]) ∧ w = w'
theorem rsnap_any (w : World) (b : Nat) (s : St) (h : RefAt w b s) : Calls Try.prog 33 #[rptr b] w (RSnapPost w s) := by
  have h0 := h.c0
  have h1 := h.c1
  clear h
  obtain ⟨own, cnt⟩ := s
  cases own with
  | none =>
    go_enter Try.func33, Try.ntmps33
    go_wp2
    go_ret2
    exact ⟨rfl, rfl⟩
  | some o =>
    go_enter Try.func33, Try.ntmps33
    go_wp2
    go_ret2
    exact ⟨rfl, rfl⟩

def RTryPost (w : World) (b : Nat) (s : St) (o t : Int) (e : Ending) (w2 : World) : Prop :=
  e = .returned (.int .i64 (s.tryE o t)) ∧ RefAt w2 b (s.trySt o t) ∧ Only (fun k => k = b) w w2
theorem rtry_any (w : World) (b : Nat) (s : St) (hs : s.Inv) (h : RefAt w b s) (o t : Int) : Calls Try.prog 34 #[rptr b, .int .i64 o, .int .u64 t] w (RTryPost w b s o t) := by
  have h0 := h.c0
  have h1 := h.c1
  have h2 := h.c2
  have hf := h.fr
  have H := Lib.hid h
  have hlo := hs.lo
  clear h hs
  have still : ∀ n, s.tryE o t = n → n ≠ 0 → RTryPost w b s o t (.returned (.int .i64 n)) w := by
    intro n hn h0
    have e : s.trySt o t = s := by unfold St.trySt; rw [if_neg (by omega)]
    exact ⟨by rw [hn], by rw [e]; exact H.out, Only.refl _ _⟩
  obtain ⟨own, cnt⟩ := s
  replace hlo : 0 ≤ cnt := hlo
  by_cases hr : o < 0
  · have HS := Lib.hid (still 2 (by unfold St.tryE; rw [if_pos (.inl hr)]) (by decide)); clear still
    go_enter Try.func34, Try.ntmps34
    go_wp2
    go_ret
    exact HS.out
  by_cases hr' : 4 ≤ o
  · have HS := Lib.hid (still 2 (by unfold St.tryE; rw [if_pos (.inr hr')]) (by decide)); clear still
    have hr0 : decide (o < 0) = false := by simpa using hr
    go_enter Try.func34, Try.ntmps34
    go_wp2
    go_ret
    exact HS.out
  have hr0 : decide (o < 0) = false := by simpa using hr
  have hr4 : decide (4 ≤ o) = false := by simpa using hr'
  have hnr : ¬ (o < 0 ∨ 4 ≤ o) := by omega
  cases own with
  | some o' =>
    have HS := Lib.hid (still 7 (by unfold St.tryE; rw [if_neg hnr]; rfl) (by decide)); clear still
    go_enter Try.func34, Try.ntmps34
    go_wp2
    go_ret
    exact HS.out
  | none =>
    by_cases hct : cnt = t
    · subst hct
      have hne : (cnt != cnt) = false := by simp
      by_cases hsp : 1099511627775 ≤ cnt
      · have HS := Lib.hid (still 4 (by simp [St.tryE]; omega) (by decide)); clear still
        have hsp' : decide (1099511627775 ≤ cnt) = true := by simpa using hsp
        clear hsp
        go_enter Try.func34, Try.ntmps34
        go_wp2
        go_ret
        exact HS.out
      · have hsp' : decide (1099511627775 ≤ cnt) = false := by simpa using hsp
        clear still
        go_enter Try.func34, Try.ntmps34
        go_wp2
        go_ret
        have e1 : St.tryE ⟨none, cnt⟩ o cnt = 0 := by simp [St.tryE]; simp at hsp'; omega
        have e2 : St.trySt ⟨none, cnt⟩ o cnt = ⟨some o, cnt + 1⟩ := by simp [St.trySt, e1]
        have hb : w.heap[b]? = some (.cells #[.int .u64 cnt, .bool false, .int .i64 0] 57 (0, 0)) := H.out
        refine ⟨by rw [e1]; rfl, ?_, ?_⟩
        · rw [e2]
          show _ = _
          simp [↓heap_alloc_eq, ↓heap_set_eq, ↓heap_drew_eq, ↓heap_drewN_eq, setObj, size_drewN, ↓hb, St.ownV]
        · repeat (first | exact Only.refl _ _ | apply Only.drew | apply Only.drewN | apply Only.alloc | refine Only.setCell ?_ (by (try simp) <;> omega) _)
    · have HS := Lib.hid (still 8 (by simp only [St.tryE]; rw [if_neg hnr]; simp [hct]) (by decide)); clear still
      have hne : (cnt != t) = true := by simpa using hct
      clear hct
      go_enter Try.func34, Try.ntmps34
      go_wp2
      go_ret
      exact HS.out

theorem rhas_any (w : World) (b : Nat) (s : St) (h : RefAt w b s) (o : Int) : Calls Try.prog 39 #[rptr b, .int .i64 o] w fun e w' => e = .returned (.int .i64 (s.freeE o)) ∧ w = w' := by
  have h1 := h.c1
  have h2 := h.c2
  clear h
  obtain ⟨own, cnt⟩ := s
  cases own with
  | none =>
    have e : St.freeE ⟨none, cnt⟩ o = 8 := rfl
    rw [e]
    clear e
    go_enter Try.func39, Try.ntmps39
    go_wp2
    go_ret
    exact ⟨rfl, rfl⟩
  | some o' =>
    replace h2 : w.cell? ⟨b, 2, none⟩ = some (.int .i64 o') := h2
    by_cases ho : o' = o
    · subst ho
      have e : St.freeE ⟨some o', cnt⟩ o' = 0 := by simp [St.freeE]
      have hne : (o' != o') = false := by simp
      rw [e]
      clear e
      go_enter Try.func39, Try.ntmps39
      go_wp2
      go_ret
      exact ⟨rfl, rfl⟩
    · have e : St.freeE ⟨some o', cnt⟩ o = 8 := by simp [St.freeE, ho]
      have hne : (o' != o) = true := by simpa using ho
      rw [e]
      clear e ho
      go_enter Try.func39, Try.ntmps39
      go_wp2
      go_ret
      exact ⟨rfl, rfl⟩

def RFreePost (w : World) (b : Nat) (n' : Int) (s' : St) (e : Ending) (w2 : World) : Prop := e = .returned (.int .i64 n') ∧ RefAt w2 b s' ∧ Only (fun k => k = b) w w2

theorem runlock_any (w : World) (b : Nat) (s : St) (hs : s.Inv) (h : RefAt w b s) (o : Int) : Calls Try.prog 35 #[rptr b, .int .i64 o] w (RFreePost w b (s.freeE o) (s.unlockSt o)) := by
  have HK := Lib.hid (rhas_any w b s h o)
  have h0 := h.c0
  have h1 := h.c1
  have h2 := h.c2
  have hf := h.fr
  have hlo := hs.lo
  have hhi := hs.hi
  have H := Lib.hid h
  clear h hs
  by_cases ho : s.own = some o
  · have e1 : s.freeE o = 0 := by simp [St.freeE, ho]
    have e2 : s.unlockSt o = ⟨none, s.cnt + 1⟩ := by simp [St.unlockSt, ho]
    rw [e1] at HK
    rw [e1, e2]
    clear e1 e2 ho
    go_enter Try.func35, Try.ntmps35
    go_wp2_with (first | (go_at_call 39; refine HK.out.mono ?_; rintro e w' ⟨rfl, rfl⟩))
    go_ret
    have hb : w.heap[b]? = some (.cells #[.int .u64 s.cnt, .bool s.own.isSome, .int .i64 s.ownV] 57 (0, 0)) := H.out
    refine ⟨rfl, ?_, ?_⟩
    · show _ = _
      simp [↓heap_alloc_eq, ↓heap_set_eq, ↓heap_drew_eq, ↓heap_drewN_eq, setObj, size_drewN, ↓hb, St.ownV]
    · repeat (first | exact Only.refl _ _ | apply Only.drew | apply Only.drewN | apply Only.alloc | refine Only.setCell ?_ (by (try simp) <;> omega) _)
  · have e1 : s.freeE o = 8 := by simp [St.freeE, ho]
    have e2 : s.unlockSt o = s := by simp [St.unlockSt, ho]
    rw [e1] at HK
    rw [e1, e2]
    clear e1 e2 ho
    go_enter Try.func35, Try.ntmps35
    go_wp2_with (first | (go_at_call 39; refine HK.out.mono ?_; rintro e w' ⟨rfl, rfl⟩))
    go_ret
    exact ⟨rfl, H.out, Only.refl _ _⟩

theorem rbreak_any (w : World) (b : Nat) (s : St) (hs : s.Inv) (h : RefAt w b s) (o : Int) : Calls Try.prog 36 #[rptr b, .int .i64 o] w (RFreePost w b (s.freeE o) (s.breakSt o)) := by
  have HK := Lib.hid (rhas_any w b s h o)
  have h0 := h.c0
  have h1 := h.c1
  have h2 := h.c2
  have hf := h.fr
  have hhi := hs.hi
  have H := Lib.hid h
  by_cases ho : s.own = some o
  · have hlo := hs.lo
    have hh := hs.held o ho
    have hlo1 : 1 ≤ s.cnt := by omega
    have e1 : s.freeE o = 0 := by simp [St.freeE, ho]
    have e2 : s.breakSt o = ⟨none, s.cnt - 1⟩ := by simp [St.breakSt, ho]
    rw [e1] at HK
    rw [e1, e2]
    clear e1 e2 ho hh h hs hlo
    go_enter Try.func36, Try.ntmps36
    go_wp2_with (first | (go_at_call 39; refine HK.out.mono ?_; rintro e w' ⟨rfl, rfl⟩))
    go_ret
    have hb : w.heap[b]? = some (.cells #[.int .u64 s.cnt, .bool s.own.isSome, .int .i64 s.ownV] 57 (0, 0)) := H.out
    refine ⟨rfl, ?_, ?_⟩
    · show _ = _
      simp [↓heap_alloc_eq, ↓heap_set_eq, ↓heap_drew_eq, ↓heap_drewN_eq, setObj, size_drewN, ↓hb, St.ownV]
    · repeat (first | exact Only.refl _ _ | apply Only.drew | apply Only.drewN | apply Only.alloc | refine Only.setCell ?_ (by (try simp) <;> omega) _)
  · have e1 : s.freeE o = 8 := by simp [St.freeE, ho]
    have e2 : s.breakSt o = s := by simp [St.breakSt, ho]
    rw [e1] at HK
    rw [e1, e2]
    clear e1 e2 ho h hs
    go_enter Try.func36, Try.ntmps36
    go_wp2_with (first | (go_at_call 39; refine HK.out.mono ?_; rintro e w' ⟨rfl, rfl⟩))
    go_ret
    exact ⟨rfl, H.out, Only.refl _ _⟩

theorem rcount_any (w : World) (b : Nat) (s : St) (h : RefAt w b s) : Calls Try.prog 31 #[rptr b] w fun e w' => e = .returned (.int .u64 s.cnt) ∧ w = w' := by
  have h0 := h.c0
  clear h
  go_enter Try.func31, Try.ntmps31
  go_wp2
  go_ret
  exact ⟨rfl, rfl⟩
theorem rsince_any (w : World) (b : Nat) (s : St) (h : RefAt w b s) (t : Int) : Calls Try.prog 32 #[rptr b, .int .u64 t] w fun e w' => e = .returned (.bool (s.cnt == t)) ∧ w = w' := by
  have h0 := h.c0
  clear h
  go_enter Try.func32, Try.ntmps32
  go_wp2
  go_ret
  exact ⟨rfl, rfl⟩
def ROwnPost (w : World) (s : St) (e : Ending) (w' : World) : Prop := e = .returned (.tuple #[.int .i64 s.ownV, .bool s.own.isSome]) ∧ w = w'
theorem rowner_any (w : World) (b : Nat) (s : St) (h : RefAt w b s) : Calls Try.prog 30 #[rptr b] w (ROwnPost w s) := by
  have h1 := h.c1
  have h2 := h.c2
  clear h
  obtain ⟨own, cnt⟩ := s
  cases own with
  | none =>
    go_enter Try.func30, Try.ntmps30
    go_wp2
    go_ret2
    exact ⟨rfl, rfl⟩
  | some o' =>
    go_enter Try.func30, Try.ntmps30
    go_wp2
    go_ret2
    exact ⟨rfl, rfl⟩
def RForkPost (w : World) (s : St) (e : Ending) (w' : World) : Prop := e = .returned (rptr w.heap.size) ∧ RefAt w' w.heap.size s ∧ Below w.heap.size w w'
theorem rfork_any (w : World) (b : Nat) (s : St) (h : RefAt w b s) : Calls Try.prog 19 #[rptr b] w (RForkPost w s) := by
  have hlt := h.lt
  have h0 := h.c0
  have h1 := h.c1
  have h2 := h.c2
  clear h
  go_enter Try.func19, Try.ntmps19
  go_wp2
  go_ret
  exact ⟨rfl, blk_new _ _, (Below.refl _ _).alloc (Nat.le_refl _) _⟩
end Go.Proofs.Ytggpfmemfdlmiaa.Seq
