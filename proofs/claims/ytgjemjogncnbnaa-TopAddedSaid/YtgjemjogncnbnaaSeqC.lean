/- The exported methods of package seqlock, each by what it answers and leaves. -/
import Derived.Test.YtgjemjogncnbnaaSeqB
import Derived.Test.YtgjemjogncnbnaaSeqM
namespace Go.Proofs.Ytgjemjogncnbnaa.Seq
open Go.RowKit
set_option linter.unusedSimpArgs false
set_option linter.unusedVariables false
set_option maxRecDepth 50000

/-- A lock lies in block b; who has it lies in a block of its own. -/
def LockAt (w : World) (b : Nat) (s : St) : Prop :=
  match s.own with
  | none => w.heap[b]? = some (.cells #[.pointer none, .int .u64 s.cnt] 87 (0, 0))
  | some o => ∃ x, x ≠ b ∧ w.heap[b]? = some (.cells #[.pointer (some ⟨x, 0, none⟩), .int .u64 s.cnt] 87 (0, 0)) ∧ w.heap[x]? = some (.cells #[.int .i64 o] 3 (0, 0))

abbrev ptr (b : Nat) : Value := .pointer (some ⟨b, 0, none⟩)

theorem LockAt.only {S : Nat → Prop} {w w' : World} {b : Nat} {s : St} (h : LockAt w b s) (ho : Only S w w') (hS : ∀ k, k < w.heap.size → ¬ S k) : LockAt w' b s := by
  unfold LockAt at *
  split
  · rename_i e
    rw [e] at h
    exact ho.blk h (hS _ (blk_lt h))
  · rename_i o e
    rw [e] at h
    obtain ⟨x, hx, h1, h2⟩ := h
    exact ⟨x, hx, ho.blk h1 (hS _ (blk_lt h1)), ho.blk h2 (hS _ (blk_lt h2))⟩

theorem LockAt.lt {w : World} {b : Nat} {s : St} (h : LockAt w b s) : b < w.heap.size := by
  unfold LockAt at h
  split at h
  · exact blk_lt h
  · obtain ⟨x, _, h1, _⟩ := h
    exact blk_lt h1

theorem new_any (w : World) : Calls Try.prog 15 #[] w fun e w' => e = .returned (ptr w.heap.size) ∧ w' = w.alloc (.cells #[.pointer none, .int .u64 0] 87) := by
  go_enter Try.func15, Try.ntmps15
  go_wp2
  go_ret
  exact ⟨rfl, rfl⟩

def SnapPost (w : World) (s : St) (e : Ending) (w' : World) : Prop := e = .returned (.tuple #[.int .u64 s.snapV, .int .i64 s.snapE]) ∧ Below w.heap.size w w'

def SnapR (w : World) (s : St) (n : Int) (w2 : World) : Prop :=
  n = s.snapE ∧ w2.heap[w.heap.size + 1]? = some (.cells #[.int .u64 s.snapV] 25 (0, 0)) ∧ Below w.heap.size w w2

/-- what the walk of Snapshot owes: its closure's contract in the world of the two boxes and the error's -/
theorem snap_of (w : World) (b : Nat) (s : St) (hb : b < w.heap.size)
    (h : Calls Try.prog 53 #[ptr w.heap.size, ptr (w.heap.size + 1)] (((w.alloc (.cells #[ptr b] 53)).alloc (.cells #[.int .u64 0] 25)).alloc (.cells #[.int .i64 0] 36)) (DoPost (w.heap.size + 2) (SnapR w s))) :
    Calls Try.prog 26 #[ptr b] w (SnapPost w s) := by
  have hmf : ∀ (fn : Fn) (first cap : Array Value) (w : World), (Instr.makeFunc fn first cap).run Try.prog w = .ok (.func fn first cap) w := fun _ _ _ _ => rfl
  have HK := Lib.hid h; clear h
  go_enter Try.func26, Try.ntmps26
  go_wp2_with fail
  refine (attempt_any 53 _ _ (SnapR w s) (fun _ _ => rfl) ?_).mono ?_
  · simpa using HK.out
  rintro e w2 ⟨n, rfl, rfl, h2, h3⟩
  have hc := blk_cell h2 0
  have hf := blk_free h2 0
  have hlt := blk_lt h2
  simp only [List.getElem?_toArray, List.getElem?_cons_zero] at hc
  clear h2 HK
  go_wp2_with fail
  exact bodyPost_ret (v := .tuple #[.int .u64 s.snapV, .int .i64 s.snapE]) (by simp [results, Try.results26, go_sem, hc]) rfl ⟨rfl, h3.setCell (by simp) _⟩

theorem snap_any (w : World) (b : Nat) (s : St) (h : LockAt w b s) : Calls Try.prog 26 #[ptr b] w (SnapPost w s) := by
  have hb := h.lt
  refine snap_of w b s hb ?_
  have hb1 : b < w.heap.size + 1 := by omega
  have hb2 : b < w.heap.size + 1 + 1 := by omega
  unfold LockAt at h
  obtain ⟨own, cnt⟩ := s
  cases own with
  | none =>
    have h0 := blk_cell h 0
    have h1 := blk_cell h 1
    simp only [List.getElem?_toArray, List.getElem?_cons_zero, List.getElem?_cons_succ] at h0 h1
    refine (snap1_free _ _ b cnt 0 _ ?_ ?_ ?_ ?_ ?_).mono ?_
    iterate 5 (· simp [go_sem, hb, hb1, hb2, h0, h1])
    rintro e w1 ⟨rfl, rfl⟩
    refine ⟨by simp [↓heap_alloc_eq, ↓heap_set_eq, ↓heap_drew_eq, ↓heap_drewN_eq, setObj, size_drewN], 0, .inl ⟨rfl, rfl⟩, fun w2 ho => ⟨rfl, ?_, ?_⟩⟩
    · exact ho.blk (by simp [↓heap_alloc_eq, ↓heap_set_eq, ↓heap_drew_eq, ↓heap_drewN_eq, setObj, size_drewN, St.snapV]) (by omega)
    · refine Below.trans ?_ (ho.below (by simp; omega) (by intro k hk; omega))
      repeat (first | (with_reducible exact Below.refl _ _) | (with_reducible apply Below.drew) | (with_reducible refine below_drewN ?_ _) | (with_reducible refine below_alloc' ?_ ?_ _; (focus ((try simp) <;> omega))) | (with_reducible refine below_set' ?_ ?_ _; (focus ((try simp) <;> omega))))
  | some o =>
    obtain ⟨x, hx, h, h'⟩ := h
    have h0 := blk_cell h 0
    simp only [List.getElem?_toArray, List.getElem?_cons_zero] at h0
    refine (snap1_busy _ _ b ⟨x, 0, none⟩ _ ?_ ?_).mono ?_
    iterate 2 (· simp [go_sem, hb, hb1, hb2, h0])
    rintro e w1 ⟨rfl, rfl⟩
    refine ⟨by simp [↓heap_alloc_eq, ↓heap_set_eq, ↓heap_drew_eq, ↓heap_drewN_eq, setObj, size_drewN], 7, .inr rfl, fun w2 ho => ⟨rfl, ?_, ?_⟩⟩
    · exact ho.blk (by simp [↓heap_alloc_eq, ↓heap_set_eq, ↓heap_drew_eq, ↓heap_drewN_eq, setObj, size_drewN, St.snapV]) (by omega)
    · refine Below.trans ?_ (ho.below (by simp; omega) (by intro k hk; omega))
      repeat (first | (with_reducible exact Below.refl _ _) | (with_reducible apply Below.drew) | (with_reducible refine below_drewN ?_ _) | (with_reducible refine below_alloc' ?_ ?_ _; (focus ((try simp) <;> omega))) | (with_reducible refine below_set' ?_ ?_ _; (focus ((try simp) <;> omega))))

/-! ### Try -/
def TryR (w : World) (b : Nat) (s : St) (o t : Int) (n : Int) (w2 : World) : Prop :=
  n = s.tryE o t ∧ LockAt w2 b (s.trySt o t) ∧ Only (fun k => k = b) w w2
def TryPost (w : World) (b : Nat) (s : St) (o t : Int) (e : Ending) (w2 : World) : Prop :=
  e = .returned (.int .i64 (s.tryE o t)) ∧ LockAt w2 b (s.trySt o t) ∧ Only (fun k => k = b) w w2

theorem try_of (w : World) (v : Value) (o t : Int) (R : Int → World → Prop)
    (h : Calls Try.prog 62 #[ptr w.heap.size, ptr (w.heap.size + 1), ptr (w.heap.size + 2)] ((((w.alloc (.cells #[v] 53)).alloc (.cells #[.int .i64 o] 3)).alloc (.cells #[.int .u64 t] 25)).alloc (.cells #[.int .i64 0] 36)) (DoPost (w.heap.size + 3) R))
    (hv : ∃ p, v = .pointer p) :
    Calls Try.prog 41 #[v, .int .i64 o, .int .u64 t] w (AttPost R) := by
  obtain ⟨p, rfl⟩ := hv
  have hmf : ∀ (fn : Fn) (first cap : Array Value) (w : World), (Instr.makeFunc fn first cap).run Try.prog w = .ok (.func fn first cap) w := fun _ _ _ _ => rfl
  have HK := Lib.hid h; clear h
  go_enter Try.func41, Try.ntmps41
  go_wp2_with fail
  refine (attempt_any 62 _ _ R (fun _ _ => rfl) ?_).mono ?_
  · simpa using HK.out
  rintro e w2 ⟨n, rfl, h2⟩
  have H2 := Lib.hid h2; clear h2 HK
  go_wp2_with fail
  go_ret
  exact ⟨n, rfl, H2.out⟩

theorem try_any (w : World) (b : Nat) (s : St) (hs : s.Inv) (h : LockAt w b s) (o t : Int) : Calls Try.prog 41 #[ptr b, .int .i64 o, .int .u64 t] w (TryPost w b s o t) := by
  have hb := h.lt
  refine (try_of w (ptr b) o t (TryR w b s o t) ?_ ⟨_, rfl⟩).mono fun e w2 ⟨n, he, h1, h2, h3⟩ => ⟨by rw [he, h1], h2, h3⟩
  have hL := h
  have hb1 : b < w.heap.size + 1 := by omega
  have hb2 : b < w.heap.size + 1 + 1 := by omega
  have hb3 : b < w.heap.size + 1 + 1 + 1 := by omega
  -- the ways on which nothing becomes of it
  have still : ∀ (n : Int) (w1 : World), (∃ k, w1 = ((((w.alloc (.cells #[ptr b] 53)).alloc (.cells #[.int .i64 o] 3)).alloc (.cells #[.int .u64 t] 25)).alloc (.cells #[.int .i64 0] 36)).drewN k) → s.tryE o t = n → n ≠ 0 → DoPost (w.heap.size + 3) (TryR w b s o t) (refused n) w1 := by
    rintro n w1 ⟨k, rfl⟩ hn h0
    refine ⟨by simp [↓heap_alloc_eq, ↓heap_set_eq, ↓heap_drew_eq, ↓heap_drewN_eq, setObj, size_drewN], n, .inr rfl, fun w2 ho => ?_⟩
    have hO : Only (fun k => k = w.heap.size + 3) w w2 := Only.trans (by repeat (first | (with_reducible exact Only.refl _ _) | (with_reducible apply Only.drew) | (with_reducible apply Only.drewN) | (with_reducible apply Only.alloc) | (with_reducible refine only_set' ?_ ?_ _; (focus ((try simp) <;> omega))))) ho
    have e : s.trySt o t = s := by unfold St.trySt; rw [if_neg (by omega)]
    refine ⟨hn.symm, ?_, hO.mono fun k hk hk' => by omega⟩
    rw [e]
    exact hL.only hO fun k hk hk' => by omega
  by_cases hr : o < 0 ∨ 4 ≤ o
  · refine (try1_range _ _ _ b o _ ?_ ?_ hr).mono ?_
    iterate 2 (· simp [go_sem])
    rintro e w1 ⟨rfl, rfl⟩
    exact still 2 _ ⟨0, rfl⟩ (by unfold St.tryE; rw [if_pos hr]) (by decide)
  unfold LockAt at h
  obtain ⟨own, cnt⟩ := s
  have ho0 : 0 ≤ o := by omega
  have ho4 : o < 4 := by omega
  cases own with
  | some o' =>
    obtain ⟨x, hx, h, h'⟩ := h
    have h0 := blk_cell h 0
    simp only [List.getElem?_toArray, List.getElem?_cons_zero] at h0
    refine (try1_busy _ _ _ b ⟨x, 0, none⟩ o _ ?_ ?_ ho0 ho4 ?_).mono ?_
    iterate 3 (· simp [go_sem, hb, hb1, hb2, hb3, h0])
    rintro e w1 ⟨rfl, rfl⟩
    exact still 7 _ ⟨0, rfl⟩ (by unfold St.tryE; rw [if_neg hr]; rfl) (by decide)
  | none =>
    have h : w.heap[b]? = some (.cells #[.pointer none, .int .u64 cnt] 87 (0, 0)) := h
    have h0 := blk_cell h 0
    have h1 := blk_cell h 1
    simp only [List.getElem?_toArray, List.getElem?_cons_zero, List.getElem?_cons_succ] at h0 h1
    by_cases hct : cnt = t
    · subst hct
      by_cases hsp : 1099511627775 ≤ cnt
      · refine (try1_space _ _ _ b o cnt _ ?_ ?_ ho0 ho4 ?_ ?_ ?_ (by simp; omega)).mono ?_
        iterate 5 (· simp [go_sem, hb, hb1, hb2, hb3, h0, h1])
        rintro e w1 ⟨rfl, rfl⟩
        exact still 4 _ ⟨1, rfl⟩ (by simp [St.tryE]; omega) (by decide)
      · refine (try1_ok _ _ _ b o cnt _ ?_ (by omega) ?_ ho0 ho4 ?_ ?_ ?_ hs.lo (by omega) ?_).mono ?_
        iterate 5 (· simp [go_sem, hb, hb1, hb2, hb3, h0, h1])
        · intro i
          simp [go_sem, hb, hb1, hb2, hb3, blk_free h i]
        rintro e w1 ⟨rfl, rfl⟩
        have e1 : St.tryE ⟨none, cnt⟩ o cnt = 0 := by simp [St.tryE]; omega
        have e2 : St.trySt ⟨none, cnt⟩ o cnt = ⟨some o, cnt + 1⟩ := by simp [St.trySt, e1]
        have n1 : ¬ w.heap.size + 3 = b := by omega
        have n2 : ¬ w.heap.size + 1 = b := by omega
        have n3 : ¬ b = w.heap.size + 3 := by omega
        refine ⟨?_, 0, .inl ⟨rfl, rfl⟩, fun w2 ho => ⟨e1.symm, ?_, ?_⟩⟩
        · have : ¬ b = w.heap.size + 3 := by omega
          simp [↓heap_alloc_eq, ↓heap_set_eq, ↓heap_drew_eq, ↓heap_drewN_eq, setObj, size_drewN, this]
        · rw [e2]
          refine ⟨w.heap.size + 1, by omega, ho.blk ?_ n3, ho.blk ?_ (by omega)⟩
          · have q0 : ¬ b = w.heap.size := by omega
            have q1 : ¬ b = w.heap.size + 1 := by omega
            have q2 : ¬ b = w.heap.size + 1 + 1 := by omega
            have q3 : ¬ b = w.heap.size + 1 + 1 + 1 := by omega
            simp [↓heap_alloc_eq, ↓heap_set_eq, ↓heap_drew_eq, ↓heap_drewN_eq, setObj, size_drewN, q0, q1, q2, q3, ↓h]
          · have q1 : ¬ b = w.heap.size + 1 := by omega
            simp [↓heap_alloc_eq, ↓heap_set_eq, ↓heap_drew_eq, ↓heap_drewN_eq, setObj, size_drewN, q1]
        · refine Only.after ?_ ho (fun i hi h' => by omega)
          repeat (first | (with_reducible exact Only.refl _ _) | (with_reducible apply Only.drew) | (with_reducible apply Only.drewN) | (with_reducible apply Only.alloc) | (with_reducible refine only_set' ?_ ?_ _; (focus ((try simp) <;> omega))))
    · refine (try1_state _ _ _ b o cnt t _ ?_ ?_ ho0 ho4 ?_ ?_ ?_ (by simpa using hct)).mono ?_
      iterate 5 (· simp [go_sem, hb, hb1, hb2, hb3, h0, h1])
      rintro e w1 ⟨rfl, rfl⟩
      exact still 8 _ ⟨1, rfl⟩ (by simp only [St.tryE]; rw [if_neg hr]; simp [hct]) (by decide)

/-! ### free -/
def FreeR (w : World) (b : Nat) (n' : Int) (s' : St) (n : Int) (w2 : World) : Prop := n = n' ∧ LockAt w2 b s' ∧ Only (fun k => k = b) w w2
def FreePost (w : World) (b : Nat) (n' : Int) (s' : St) (e : Ending) (w2 : World) : Prop := e = .returned (.int .i64 n') ∧ LockAt w2 b s' ∧ Only (fun k => k = b) w w2

theorem free_of (K : Nat) (w : World) (v : Value) (o : Int) (R : Int → World → Prop)
    (h : Calls Try.prog 69 #[ptr w.heap.size, ptr (w.heap.size + 1), ptr (w.heap.size + 2)] ((((w.alloc (.cells #[v] 53)).alloc (.cells #[.int .i64 o] 3)).alloc (.cells #[.func (.func K) #[] #[]] 124)).alloc (.cells #[.int .i64 0] 36)) (DoPost (w.heap.size + 3) R))
    (hv : ∃ p, v = .pointer p) :
    Calls Try.prog 60 #[v, .int .i64 o, .func (.func K) #[] #[]] w (AttPost R) := by
  obtain ⟨p, rfl⟩ := hv
  have hmf : ∀ (fn : Fn) (first cap : Array Value) (w : World), (Instr.makeFunc fn first cap).run Try.prog w = .ok (.func fn first cap) w := fun _ _ _ _ => rfl
  have HK := Lib.hid h; clear h
  go_enter Try.func60, Try.ntmps60
  go_wp2_with fail
  refine (attempt_any 69 _ _ R (fun _ _ => rfl) ?_).mono ?_
  · simpa using HK.out
  rintro e w2 ⟨n, rfl, h2⟩
  have H2 := Lib.hid h2; clear h2 HK
  go_wp2_with fail
  go_ret
  exact ⟨n, rfl, H2.out⟩

theorem free_any (K : Nat) (w : World) (b : Nat) (s : St) (hs : s.Inv) (h : LockAt w b s) (o c' : Int)
    (hcf : ∀ args W, (callFunc K args).run Try.prog W = .ok (.enter K args) W)
    (hK : s.own = some o → ∀ W, Calls Try.prog K #[.int .u64 s.cnt] W fun e w' => e = .returned (.int .u64 c') ∧ W = w') :
    Calls Try.prog 60 #[ptr b, .int .i64 o, .func (.func K) #[] #[]] w (FreePost w b (s.freeE o) (if s.own = some o then ⟨none, c'⟩ else s)) := by
  have hb := h.lt
  refine (free_of K w (ptr b) o (FreeR w b (s.freeE o) (if s.own = some o then ⟨none, c'⟩ else s)) ?_ ⟨_, rfl⟩).mono fun e w2 ⟨n, he, h1, h2, h3⟩ => ⟨by rw [he, h1], h2, h3⟩
  have hL := h
  have hb1 : b < w.heap.size + 1 := by omega
  have hb2 : b < w.heap.size + 1 + 1 := by omega
  have hb3 : b < w.heap.size + 1 + 1 + 1 := by omega
  have still : ∀ (w1 : World), (∃ k, w1 = ((((w.alloc (.cells #[ptr b] 53)).alloc (.cells #[.int .i64 o] 3)).alloc (.cells #[.func (.func K) #[] #[]] 124)).alloc (.cells #[.int .i64 0] 36)).drewN k) → s.own ≠ some o → DoPost (w.heap.size + 3) (FreeR w b (s.freeE o) (if s.own = some o then ⟨none, c'⟩ else s)) (refused 8) w1 := by
    rintro w1 ⟨k, rfl⟩ hn
    refine ⟨by simp [↓heap_alloc_eq, ↓heap_set_eq, ↓heap_drew_eq, ↓heap_drewN_eq, setObj, size_drewN], 8, .inr rfl, fun w2 ho => ?_⟩
    have hO : Only (fun k => k = w.heap.size + 3) w w2 := Only.trans (by repeat (first | (with_reducible exact Only.refl _ _) | (with_reducible apply Only.drew) | (with_reducible apply Only.drewN) | (with_reducible apply Only.alloc) | (with_reducible refine only_set' ?_ ?_ _; (focus ((try simp) <;> omega))))) ho
    rw [if_neg hn]
    exact ⟨by simp [St.freeE, hn], hL.only hO fun k hk hk' => by omega, hO.mono fun k hk hk' => by omega⟩
  unfold LockAt at h
  obtain ⟨own, cnt⟩ := s
  cases own with
  | none =>
    have h : w.heap[b]? = some (.cells #[.pointer none, .int .u64 cnt] 87 (0, 0)) := h
    have h0 := blk_cell h 0
    simp only [List.getElem?_toArray, List.getElem?_cons_zero] at h0
    refine (free1_free _ _ _ b _ ?_ ?_).mono ?_
    iterate 2 (· simp [go_sem, hb, hb1, hb2, hb3, h0])
    rintro e w1 ⟨rfl, rfl⟩
    exact still _ ⟨1, rfl⟩ (by simp)
  | some o' =>
    obtain ⟨x, hx, h, h'⟩ := h
    have h0 := blk_cell h 0
    have h1 := blk_cell h 1
    have hx0 := blk_cell h' 0
    have hxb := blk_lt h'
    simp only [List.getElem?_toArray, List.getElem?_cons_zero, List.getElem?_cons_succ] at h0 h1 hx0
    have hx1 : x < w.heap.size + 1 := by omega
    have hx2 : x < w.heap.size + 1 + 1 := by omega
    have hx3 : x < w.heap.size + 1 + 1 + 1 := by omega
    by_cases ho : o' = o
    · subst ho
      refine (free1_ok K _ _ _ b x o' cnt c' _ ?_ (by omega) (by omega) ?_ ?_ ?_ ?_ ?_ ?_ hcf (hK rfl)).mono ?_
      iterate 6 (· simp [go_sem, hb, hb1, hb2, hb3, h0, h1, hxb, hx1, hx2, hx3, hx0])
      · intro i
        simp [go_sem, hb, hb1, hb2, hb3, blk_free h i]
      rintro e w1 ⟨rfl, k, rfl⟩
      have n3 : ¬ b = w.heap.size + 3 := by omega
      refine ⟨by simp [↓heap_alloc_eq, ↓heap_set_eq, ↓heap_drew_eq, ↓heap_drewN_eq, setObj, size_drewN, n3], 0, .inl ⟨rfl, rfl⟩, fun w2 hO => ⟨by simp [St.freeE], ?_, ?_⟩⟩
      · rw [if_pos rfl]
        refine hO.blk ?_ n3
        have q0 : ¬ b = w.heap.size := by omega
        have q1 : ¬ b = w.heap.size + 1 := by omega
        have q2 : ¬ b = w.heap.size + 1 + 1 := by omega
        have q3 : ¬ b = w.heap.size + 1 + 1 + 1 := by omega
        simp [↓heap_alloc_eq, ↓heap_set_eq, ↓heap_drew_eq, ↓heap_drewN_eq, setObj, size_drewN, q0, q1, q2, q3, ↓h]
      · refine Only.after ?_ hO (fun i hi h' => by omega)
        repeat (first | (with_reducible exact Only.refl _ _) | (with_reducible apply Only.drew) | (with_reducible apply Only.drewN) | (with_reducible apply Only.alloc) | (with_reducible refine only_set' ?_ ?_ _; (focus ((try simp) <;> omega))))
    · refine (free1_other _ _ _ b x o' o _ ?_ ?_ ?_ ?_ (by simpa using ho)).mono ?_
      iterate 4 (· simp [go_sem, hb, hb1, hb2, hb3, h0, hxb, hx1, hx2, hx3, hx0])
      rintro e w1 ⟨rfl, rfl⟩
      exact still _ ⟨1, rfl⟩ (by simpa using ho)

theorem unlock_any (w : World) (b : Nat) (s : St) (hs : s.Inv) (h : LockAt w b s) (o : Int) : Calls Try.prog 43 #[ptr b, .int .i64 o] w (FreePost w b (s.freeE o) (s.unlockSt o)) := by
  have hmf : ∀ (fn : Fn) (first cap : Array Value) (w : World), (Instr.makeFunc fn first cap).run Try.prog w = .ok (.func fn first cap) w := fun _ _ _ _ => rfl
  have HK := Lib.hid (free_any 63 w b s hs h o (s.cnt + 1) (fun _ _ => rfl) fun ho W => by have := hs.held o ho; have := hs.lo; exact unlock1_any _ _ (by omega) (by omega))
  go_enter Try.func43, Try.ntmps43
  go_wp2_with fail
  refine HK.out.mono ?_
  rintro e w' ⟨rfl, h1, h2⟩
  have H1 := Lib.hid h1; have H2 := Lib.hid h2; clear h1 h2 HK
  go_wp2_with fail
  go_ret
  exact ⟨rfl, H1.out, H2.out⟩

theorem break_any (w : World) (b : Nat) (s : St) (hs : s.Inv) (h : LockAt w b s) (o : Int) : Calls Try.prog 38 #[ptr b, .int .i64 o] w (FreePost w b (s.freeE o) (s.breakSt o)) := by
  have hmf : ∀ (fn : Fn) (first cap : Array Value) (w : World), (Instr.makeFunc fn first cap).run Try.prog w = .ok (.func fn first cap) w := fun _ _ _ _ => rfl
  have HK := Lib.hid (free_any 61 w b s hs h o (s.cnt - 1) (fun _ _ => rfl) fun ho W => by have := hs.held o ho; have := hs.lo; exact break1_any _ _ (by omega) (by omega))
  go_enter Try.func38, Try.ntmps38
  go_wp2_with fail
  refine HK.out.mono ?_
  rintro e w' ⟨rfl, h1, h2⟩
  have H1 := Lib.hid h1; have H2 := Lib.hid h2; clear h1 h2 HK
  go_wp2_with fail
  go_ret
  exact ⟨rfl, H1.out, H2.out⟩

/-! ### what only reads -/
theorem LockAt.cnt {w : World} {b : Nat} {s : St} (h : LockAt w b s) : w.cell? ⟨b, 1, none⟩ = some (.int .u64 s.cnt) := by
  unfold LockAt at h
  split at h
  · exact blk_cell h 1
  · obtain ⟨x, _, h, _⟩ := h
    exact blk_cell h 1

theorem count_any (w : World) (b : Nat) (s : St) (h : LockAt w b s) : Calls Try.prog 33 #[ptr b] w fun e w' => e = .returned (.int .u64 s.cnt) ∧ w = w' := by
  have h1 := h.cnt
  go_enter Try.func33, Try.ntmps33
  go_wp2
  go_ret
  exact ⟨rfl, rfl⟩

theorem since_any (w : World) (b : Nat) (s : St) (h : LockAt w b s) (t : Int) : Calls Try.prog 37 #[ptr b, .int .u64 t] w fun e w' => e = .returned (.bool (s.cnt == t)) ∧ w = w' := by
  have h1 := h.cnt
  go_enter Try.func37, Try.ntmps37
  go_wp2
  go_ret
  exact ⟨rfl, rfl⟩

def OwnPost (w : World) (s : St) (e : Ending) (w' : World) : Prop := e = .returned (.tuple #[.int .i64 s.ownV, .bool s.own.isSome]) ∧ w = w'
theorem owner_any (w : World) (b : Nat) (s : St) (h : LockAt w b s) : Calls Try.prog 34 #[ptr b] w (OwnPost w s) := by
  unfold LockAt at h
  obtain ⟨own, cnt⟩ := s
  cases own with
  | none =>
    have h : w.heap[b]? = some (.cells #[.pointer none, .int .u64 cnt] 87 (0, 0)) := h
    have h0 := blk_cell h 0
    simp only [List.getElem?_toArray, List.getElem?_cons_zero] at h0
    clear h
    go_enter Try.func34, Try.ntmps34
    go_wp2
    go_ret2
    exact ⟨rfl, rfl⟩
  | some o =>
    obtain ⟨x, hx, h, h'⟩ := h
    have h0 := blk_cell h 0
    have hx0 := blk_cell h' 0
    simp only [List.getElem?_toArray, List.getElem?_cons_zero] at h0 hx0
    clear h h'
    go_enter Try.func34, Try.ntmps34
    go_wp2
    go_ret2
    exact ⟨rfl, rfl⟩

def ForkPost (w : World) (b : Nat) (s : St) (e : Ending) (w' : World) : Prop := e = .returned (ptr w.heap.size) ∧ LockAt w' w.heap.size s ∧ Below w.heap.size w w'
/-! ### a nil lock -/
theorem snap_nil (w : World) : Calls Try.prog 26 #[.pointer none] w fun e w' => e = .returned (.tuple #[.int .u64 0, .int .i64 1]) ∧ Below w.heap.size w w' := by
  have hmf : ∀ (fn : Fn) (first cap : Array Value) (w : World), (Instr.makeFunc fn first cap).run Try.prog w = .ok (.func fn first cap) w := fun _ _ _ _ => rfl
  go_enter Try.func26, Try.ntmps26
  go_wp2_with fail
  refine (attempt_any 53 _ _ (fun n w2 => n = 1 ∧ w2.heap[w.heap.size + 1]? = some (.cells #[.int .u64 0] 25 (0, 0)) ∧ Below w.heap.size w w2) (fun _ _ => rfl) ?_).mono ?_
  · refine (snap1_nil _ _ _ ?_).mono ?_
    · simp [go_sem]
    rintro e w1 ⟨rfl, rfl⟩
    refine ⟨by simp [↓heap_alloc_eq, ↓heap_set_eq, ↓heap_drew_eq, ↓heap_drewN_eq, setObj, size_drewN], 1, .inr rfl, fun w2 ho => ⟨rfl, ho.blk (by simp [↓heap_alloc_eq, ↓heap_set_eq, ↓heap_drew_eq, ↓heap_drewN_eq, setObj, size_drewN]) (by simp), ?_⟩⟩
    refine Below.trans ?_ (ho.below (by simp; omega) (by intro k hk; simp; omega))
    repeat (first | (with_reducible exact Below.refl _ _) | (with_reducible apply Below.drew) | (with_reducible refine below_drewN ?_ _) | (with_reducible refine below_alloc' ?_ ?_ _; (focus ((try simp) <;> omega))) | (with_reducible refine below_set' ?_ ?_ _; (focus ((try simp) <;> omega))))
  rintro e w2 ⟨n, rfl, rfl, h2, h3⟩
  have hc := blk_cell h2 0
  have hf := blk_free h2 0
  have hlt := blk_lt h2
  simp only [List.getElem?_toArray, List.getElem?_cons_zero] at hc
  clear h2
  go_wp2_with fail
  exact bodyPost_ret (v := .tuple #[.int .u64 0, .int .i64 1]) (by simp [results, Try.results26, go_sem, hc]) rfl ⟨rfl, h3.setCell (by simp) _⟩

def NilR (w : World) (n : Int) (w2 : World) : Prop := n = 1 ∧ Below w.heap.size w w2
theorem try_nil (w : World) (o t : Int) : Calls Try.prog 41 #[.pointer none, .int .i64 o, .int .u64 t] w fun e w' => e = .returned (.int .i64 1) ∧ Below w.heap.size w w' := by
  refine (try_of w (.pointer none) o t (NilR w) ?_ ⟨_, rfl⟩).mono fun e w2 ⟨n, he, h1, h2⟩ => ⟨by rw [he, h1], h2⟩
  refine (try1_nil _ _ _ _ ?_).mono ?_
  · simp [go_sem]
  rintro e w1 ⟨rfl, rfl⟩
  refine ⟨by simp [↓heap_alloc_eq, ↓heap_set_eq, ↓heap_drew_eq, ↓heap_drewN_eq, setObj, size_drewN], 1, .inr rfl, fun w2 ho => ⟨rfl, Below.trans ?_ (ho.below (by simp; omega) (by intro k hk; omega))⟩⟩
  repeat (first | (with_reducible exact Below.refl _ _) | (with_reducible apply Below.drew) | (with_reducible refine below_drewN ?_ _) | (with_reducible refine below_alloc' ?_ ?_ _; (focus ((try simp) <;> omega))) | (with_reducible refine below_set' ?_ ?_ _; (focus ((try simp) <;> omega))))

theorem free_nil (K : Nat) (w : World) (o : Int) : Calls Try.prog 60 #[.pointer none, .int .i64 o, .func (.func K) #[] #[]] w fun e w' => e = .returned (.int .i64 1) ∧ Below w.heap.size w w' := by
  refine (free_of K w (.pointer none) o (NilR w) ?_ ⟨_, rfl⟩).mono fun e w2 ⟨n, he, h1, h2⟩ => ⟨by rw [he, h1], h2⟩
  refine (free1_nil _ _ _ _ ?_).mono ?_
  · simp [go_sem]
  rintro e w1 ⟨rfl, rfl⟩
  refine ⟨by simp [↓heap_alloc_eq, ↓heap_set_eq, ↓heap_drew_eq, ↓heap_drewN_eq, setObj, size_drewN], 1, .inr rfl, fun w2 ho => ⟨rfl, Below.trans ?_ (ho.below (by simp; omega) (by intro k hk; omega))⟩⟩
  repeat (first | (with_reducible exact Below.refl _ _) | (with_reducible apply Below.drew) | (with_reducible refine below_drewN ?_ _) | (with_reducible refine below_alloc' ?_ ?_ _; (focus ((try simp) <;> omega))) | (with_reducible refine below_set' ?_ ?_ _; (focus ((try simp) <;> omega))))

theorem unlock_nil (w : World) (o : Int) : Calls Try.prog 43 #[.pointer none, .int .i64 o] w fun e w' => e = .returned (.int .i64 1) ∧ Below w.heap.size w w' := by
  have hmf : ∀ (fn : Fn) (first cap : Array Value) (w : World), (Instr.makeFunc fn first cap).run Try.prog w = .ok (.func fn first cap) w := fun _ _ _ _ => rfl
  go_enter Try.func43, Try.ntmps43
  go_wp2_with fail
  refine (free_nil 63 w o).mono ?_
  rintro e w' ⟨rfl, h2⟩
  have H2 := Lib.hid h2; clear h2
  go_wp2_with fail
  go_ret
  exact ⟨rfl, H2.out⟩

theorem break_nil (w : World) (o : Int) : Calls Try.prog 38 #[.pointer none, .int .i64 o] w fun e w' => e = .returned (.int .i64 1) ∧ Below w.heap.size w w' := by
  have hmf : ∀ (fn : Fn) (first cap : Array Value) (w : World), (Instr.makeFunc fn first cap).run Try.prog w = .ok (.func fn first cap) w := fun _ _ _ _ => rfl
  go_enter Try.func38, Try.ntmps38
  go_wp2_with fail
  refine (free_nil 61 w o).mono ?_
  rintro e w' ⟨rfl, h2⟩
  have H2 := Lib.hid h2; clear h2
  go_wp2_with fail
  go_ret
  exact ⟨rfl, H2.out⟩

theorem count_nil (w : World) : Calls Try.prog 33 #[.pointer none] w fun e w' => e = .returned (.int .u64 0) ∧ w = w' := by
  go_enter Try.func33, Try.ntmps33
  go_wp2
  go_ret
  exact ⟨rfl, rfl⟩
theorem since_nil (w : World) (t : Int) : Calls Try.prog 37 #[.pointer none, .int .u64 t] w fun e w' => e = .returned (.bool false) ∧ w = w' := by
  go_enter Try.func37, Try.ntmps37
  go_wp2
  go_ret
  exact ⟨rfl, rfl⟩
theorem owner_nil (w : World) : Calls Try.prog 34 #[.pointer none] w fun e w' => e = .returned (.tuple #[.int .i64 0, .bool false]) ∧ w = w' := by
  go_enter Try.func34, Try.ntmps34
  go_wp2
  go_ret2
  exact ⟨rfl, rfl⟩
end Go.Proofs.Ytgjemjogncnbnaa.Seq
