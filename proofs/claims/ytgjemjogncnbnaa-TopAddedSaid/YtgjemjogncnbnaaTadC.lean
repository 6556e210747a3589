/- The engine: of, may, Clock, Attempt, tell. -/
import Derived.Test.YtgjemjogncnbnaaTadB
namespace Go.Proofs.Ytgjemjogncnbnaa.Tad
open Go.RowKit
set_option linter.unusedSimpArgs false
set_option linter.unusedVariables false
set_option maxRecDepth 50000

section
variable {lo : Nat} {w w' : World} {eb : Nat} {B B' : Bk} {E E' : Eng}
/-- the engine's own block and its rows are turned, nothing else -/
theorem EngAt.rows {S : Nat → Prop} (h : EngAt lo w eb B E) (o : Only S w w') (hS : ∀ k, S k → k < w.heap.size → k = eb ∨ ∃ cs t, w.heap[k]? = some (.cells cs t (0, 0)) ∧ t ∈ [26, 80, 25, 35, 38, 32])
    (hB : B'.lb = B.lb ∧ B'.mb = B.mb ∧ B'.hg = B.hg ∧ B'.pt = B.pt) (hE : E'.lk = E.lk ∧ E'.th = E.th ∧ E'.c = E.c)
    (ho : w'.heap[eb]? = some (.cells #[ptr B'.lb, .slice (some ⟨B'.hg, 0, none⟩) 2 B'.hc, .map (some B'.mb), B'.ev, B'.ky, B'.wy] 61 (0, 0)))
    (hh : w'.ownsRow 0 26 1 (.slice (some ⟨B'.hg, 0, none⟩) 2 B'.hc) 2 [.int .u64 E'.h, .int .u64 9221120237041090560])
    (he : ∃ xs, w'.ownsRow 0 80 4 B'.ev E'.m xs) (hk : ∃ xs, w'.ownsRow 0 25 1 B'.ky E'.n xs) (hw : ∃ xs, w'.ownsRow 0 35 1 B'.wy E'.y xs)
    (hl : (∀ k, B'.ev.ownBlock = some k → lo ≤ k) ∧ (∀ k, B'.ky.ownBlock = some k → lo ≤ k) ∧ (∀ k, B'.wy.ownBlock = some k → lo ≤ k)) : EngAt lo w' eb B' E' := by
  have hK : KindS w S := fun k hk hlt => by
    rcases hS k hk hlt with rfl | ⟨cs, t, hc, ht⟩
    · exact ⟨_, h.obj, by show _ ∈ _; decide⟩
    · refine ⟨_, hc, ?_⟩
      show t ∈ _
      simp only [List.mem_cons, List.not_mem_nil, or_false] at ht ⊢
      rcases ht with rfl | rfl | rfl | rfl | rfl | rfl <;> simp
  have nS : ∀ {k : Nat} {cs : Array Value} {t : TypeId} {fr : Nat × Nat}, w.heap[k]? = some (.cells cs t fr) → t ∉ [61, 26, 80, 25, 35, 38, 32] → ¬ S k := fun hc ht hs => by
    rcases hS _ hs (blk_lt hc) with rfl | ⟨cs, t', hc', ht'⟩
    · rw [h.obj] at hc
      injection hc with hc
      injection hc with _ hc _
      subst hc
      exact ht (by decide)
    · rw [hc] at hc'
      injection hc' with hc'
      injection hc' with _ hc' _
      subst hc'
      exact ht (List.mem_cons_of_mem _ ht')
  have nM : ∀ {P : Program} {k : TypeId} {b n : Nat} {f : Int → Option Value}, MapIs P k w b n f → ¬ S b := fun hm hs => by
    rcases hS _ hs hm.lt with rfl | ⟨cs, t, hc, _⟩
    · exact hm.not_cells h.obj
    · exact hm.not_cells hc
  obtain ⟨b1, b2, b3, b4⟩ := hB
  obtain ⟨e1, e2, e3⟩ := hE
  obtain ⟨lcs, hlc⟩ := lock_obj h.lock
  exact {
    obj := ho
    lock := by rw [b1, e1]; exact lock_frame h.lock o hK (nS hlc (by decide))
    linv := by rw [e1]; exact h.linv
    heap := hh
    mp := by
      rw [b2, e2, b4, e3]
      exact h.mp.only o (nM h.mp)
    evs := he
    kys := hk
    wys := hw
    ths := fun t x e => by
      rw [e2] at e
      rw [b4]
      have hA := h.ths t x e
      obtain ⟨ov, hs1, _, hmm, _⟩ := hA.set
      obtain ⟨xs, hxe, a, hl1, _⟩ := hA.log
      exact hA.frame o hK (nS hA.obj (by decide)) (nS hl1 (by decide)) (nS hs1 (by decide)) (nM hmm)
    sep := fun t t' x x' e e' => by rw [e2] at e e'; rw [b4]; exact h.sep t t' x x' e e'
    sepm := fun t x e => by rw [e2] at e; rw [b4, b2]; exact h.sepm t x e
    lo1 := by rw [b1, b2, b3]; exact h.lo1
    lo2 := hl
    lo3 := fun t x e => by rw [e2] at e; rw [b4]; exact h.lo3 t x e }
end
theorem reply_end {lo : Nat} {w0 w w' : World} {eb : Nat} {B : Bk} {E : Eng} (h : EngAt lo w eb B E) (o0 : Only (Mut lo w0) w0 w) {rb : Nat} {cs : Array Value} (hrb : w.heap[rb]? = some (.cells cs 38 (0, 0))) (hn : w0.heap.size ≤ rb) (o : Only (fun k => k = rb) w w') : EngAt lo w' eb B E ∧ Only (Mut lo w0) w0 w' := by
  have row : ∀ {e : TypeId} {size n : Nat} {v : Value} {xs : List Value}, w.ownsRow 0 e size v n xs → 38 ≠ e → w'.ownsRow 0 e size v n xs := fun hr hne => ownsRow_only hr o fun k hk e => by
    subst e
    exact row_ne hr hrb hne hk
  refine ⟨h.rows o (fun k e _ => ?_) ⟨rfl, rfl, rfl, rfl⟩ ⟨rfl, rfl, rfl⟩ (o.blk h.obj (blk_ne h.obj hrb (by decide))) (row h.heap (by decide)) (h.evs.imp fun _ hr => row hr (by decide)) (h.kys.imp fun _ hr => row hr (by decide)) (h.wys.imp fun _ hr => row hr (by decide)) h.lo2, o0.after o fun k hk e => by omega⟩
  subst e
  exact .inr ⟨_, _, hrb, by decide⟩
def reply (done : Bool) (val : Int) (busy : Bool) (owner : Int) (ended : Bool) (reason errno : Int) : Value := .agg #[.bool done, .int .u64 val, .bool busy, .int .i64 owner, .bool ended, .int .u8 reason, .int .i64 errno]
/-- the world once a reply is written -/
def repW (w : World) (b : Nat) (done : Bool) (val : Int) (busy : Bool) (owner : Int) (ended : Bool) (reason errno : Int) : World :=
  ((((((w.setCell ⟨b, 0, none⟩ (.bool done)).setCell ⟨b, 1, none⟩ (.int .u64 val)).setCell ⟨b, 2, none⟩ (.bool busy)).setCell ⟨b, 3, none⟩ (.int .i64 owner)).setCell ⟨b, 4, none⟩ (.bool ended)).setCell ⟨b, 5, none⟩ (.int .u8 reason)).setCell ⟨b, 6, none⟩ (.int .i64 errno)
theorem repW_only (w : World) (b : Nat) (done : Bool) (val : Int) (busy : Bool) (owner : Int) (ended : Bool) (reason errno : Int) : Only (fun k => k = b) w (repW w b done val busy owner ended reason errno) :=
  (((((((Only.refl (fun k => k = b) w).setCell (p := ⟨b, 0, none⟩) (.inr rfl) _).setCell (p := ⟨b, 1, none⟩) (.inr rfl) _).setCell (p := ⟨b, 2, none⟩) (.inr rfl) _).setCell (p := ⟨b, 3, none⟩) (.inr rfl) _).setCell (p := ⟨b, 4, none⟩) (.inr rfl) _).setCell (p := ⟨b, 5, none⟩) (.inr rfl) _).setCell (p := ⟨b, 6, none⟩) (.inr rfl) _
theorem repW_obj {w : World} {b : Nat} {v0 v1 v2 v3 v4 v5 v6 : Value} (hb : w.heap[b]? = some (.cells #[v0, v1, v2, v3, v4, v5, v6] 38 (0, 0))) (done : Bool) (val : Int) (busy : Bool) (owner : Int) (ended : Bool) (reason errno : Int) :
    (repW w b done val busy owner ended reason errno).heap[b]? = some (.cells #[.bool done, .int .u64 val, .bool busy, .int .i64 owner, .bool ended, .int .u8 reason, .int .i64 errno] 38 (0, 0)) := by
  unfold repW
  simp [↓heap_alloc_eq, ↓heap_set_eq, ↓heap_drew_eq, ↓heap_drewN_eq, setObj, size_drewN, hb]
/-- a block of another type stands -/
theorem mut_keep {lo : Nat} {w w' : World} (o : Only (Mut lo w) w w') {k : Nat} {cs : Array Value} {t : TypeId} {fr : Nat × Nat} (hk : w.heap[k]? = some (.cells cs t fr)) (ht : t ∉ [61, 68, 26, 80, 25, 35, 105, 87, 117]) : w'.heap[k]? = some (.cells cs t fr) :=
  o.blk hk fun hM => by
    obtain ⟨_, ob, hob, hK⟩ := hM
    rw [hk] at hob
    injection hob with hob
    subst hob
    exact ht hK
theorem may_any (w : World) (eb : Nat) (t : Int) (h0 : 0 ≤ t) (h3 : t < 3) : Calls Try.prog 18 #[ptr eb, .int .i64 t] w fun e w' => e = .returned (.int .i64 0) ∧ w = w' := by
  have h1 : ¬ t < 0 := by omega
  have h2 : ¬ (4 : Int) ≤ t := by omega
  go_enter Try.func18, Try.ntmps18
  go_wp2_with fail
  go_ret
  exact ⟨rfl, rfl⟩
theorem zeroP (w : World) : (zeroValue 62).run Try.prog w = .ok (.pointer none) w := by kernel_rfl
theorem th_in {t : Int} (h0 : 0 ≤ t) (h3 : t < 3) : inInt t := ⟨by omega, by omega⟩
theorem EngAt.look {lo : Nat} {w : World} {eb : Nat} {B : Bk} {E : Eng} (h : EngAt lo w eb B E) (t : Int) (h0 : 0 ≤ t) (h3 : t < 3) (W : World) (l : Below w.heap.size w W) :
    (Instr.lookup 56 (.map (some B.mb)) (.int .i64 t) false).run Try.prog W = .ok (((E.th t).map fun _ => ptr (B.pt t).p).getD (.pointer none)) W :=
  MapIs.look Try.underlying3 Try.underlying56 (h.mp.below l) (zeroP W) (th_in h0 h3)
theorem ofT_any {lo : Nat} {w : World} {eb : Nat} {B : Bk} {E : Eng} (h : EngAt lo w eb B E) (t : Int) (h0 : 0 ≤ t) (h3 : t < 3) :
    Calls Try.prog 17 #[ptr eb, .int .i64 t] w fun e w' => e = .returned (((E.th t).map fun _ => ptr (B.pt t).p).getD (.pointer none)) ∧ w = w' := by
  have hlk := h.look t h0 h3 w (Below.refl _ _)
  have x2 := blk_cell h.obj 2
  simp only [List.getElem?_toArray, List.getElem?_cons_zero, List.getElem?_cons_succ] at x2
  obtain ⟨v, hv⟩ : ∃ v, ((E.th t).map fun _ => ptr (B.pt t).p).getD (.pointer none) = v := ⟨_, rfl⟩
  rw [hv] at hlk ⊢
  clear h hv
  go_enter Try.func17, Try.ntmps17
  go_wp2_with fail
  go_ret
  exact ⟨rfl, rfl⟩
theorem clock_any {lo : Nat} {w : World} {eb : Nat} {B : Bk} {E : Eng} (h : EngAt lo w eb B E) : Calls Try.prog 13 #[ptr eb] w fun e w' => e = .returned (.int .u64 E.lk.cnt) ∧ w = w' := by
  have HC := Lib.hid (Seq.count_any w B.lb E.lk h.lock)
  have x0 := blk_cell h.obj 0
  simp only [List.getElem?_toArray, List.getElem?_cons_zero, List.getElem?_cons_succ] at x0
  clear h
  go_enter Try.func13, Try.ntmps13
  go_wp2_with fail
  refine HC.out.mono ?_
  rintro e w1 ⟨rfl, rfl⟩
  go_wp2_with fail
  go_ret
  exact ⟨rfl, rfl⟩
theorem attempt_some {lo : Nat} {w : World} {eb : Nat} {B : Bk} {E : Eng} (h : EngAt lo w eb B E) (t : Int) (h0 : 0 ≤ t) (h3 : t < 3) {x : T} (hx : E.th t = some x) :
    Calls Try.prog 7 #[ptr eb, .int .i64 t] w fun e w' => e = .returned (.tuple #[.int .i64 x.num, .bool true]) ∧ w = w' := by
  have HO := Lib.hid (ofT_any h t h0 h3)
  rw [hx] at HO
  have x2 := blk_cell (h.ths t x hx).obj 2
  unfold attCells at x2
  simp only [List.getElem?_toArray, List.getElem?_cons_zero, List.getElem?_cons_succ] at x2
  clear h hx
  go_enter Try.func7, Try.ntmps7
  go_wp2_with fail
  refine HO.out.mono ?_
  rintro e w1 ⟨rfl, rfl⟩
  simp only [Option.map_some, Option.getD_some]
  go_wp2_with fail
  refine bodyPost_ret (v := .tuple #[.int .i64 x.num, .bool true]) ?_ rfl ?_; (focus (simp [results, Try.results7, go_sem, Nat.zero_le]; done))
  exact ⟨rfl, rfl⟩
theorem attempt_none {lo : Nat} {w : World} {eb : Nat} {B : Bk} {E : Eng} (h : EngAt lo w eb B E) (t : Int) (h0 : 0 ≤ t) (h3 : t < 3) (hx : E.th t = none) :
    Calls Try.prog 7 #[ptr eb, .int .i64 t] w fun e w' => e = .returned (.tuple #[.int .i64 0, .bool false]) ∧ w = w' := by
  have HO := Lib.hid (ofT_any h t h0 h3)
  rw [hx] at HO
  clear h hx
  go_enter Try.func7, Try.ntmps7
  go_wp2_with fail
  refine HO.out.mono ?_
  rintro e w1 ⟨rfl, rfl⟩
  simp only [Option.map_none, Option.getD_none]
  go_wp2_with fail
  refine bodyPost_ret (v := .tuple #[.int .i64 0, .bool false]) ?_ rfl ?_; (focus (simp [results, Try.results7, go_sem, Nat.zero_le]; done))
  exact ⟨rfl, rfl⟩
theorem asked_none {lo : Nat} {w : World} {eb : Nat} {B : Bk} {E : Eng} (h : EngAt lo w eb B E) (t : Int) (h0 : 0 ≤ t) (h3 : t < 3) (hx : E.th t = none) :
    Calls Try.prog 5 #[ptr eb, .int .i64 t] w fun e w' => e = .returned (.tuple #[.agg #[.int .u8 0, .int .i64 0, .int .u64 0], .bool false]) ∧ Below w.heap.size w w' := by
  have l1 : Below w.heap.size w (w.alloc (.cells #[.int .u8 0, .int .i64 0, .int .u64 0] 32)) := by repeat (first | (with_reducible exact Below.refl _ _) | (with_reducible apply Below.drew) | (with_reducible refine below_drewN ?_ _) | (with_reducible refine below_alloc' ?_ ?_ _; (focus ((try simp) <;> omega))) | (with_reducible refine below_set' ?_ ?_ _; (focus ((try simp) <;> omega))))
  have HO := Lib.hid (ofT_any (h.below l1) t h0 h3)
  rw [hx] at HO
  clear h hx
  go_enter Try.func5, Try.ntmps5
  go_wp2_with fail
  refine HO.out.mono ?_
  rintro e w1 ⟨rfl, rfl⟩
  simp only [Option.map_none, Option.getD_none]
  go_wp2_with fail
  refine bodyPost_ret (v := .tuple #[.agg #[.int .u8 0, .int .i64 0, .int .u64 0], .bool false]) ?_ rfl ?_; (focus (simp [results, Try.results5, go_sem, Nat.zero_le]; done))
  exact ⟨rfl, by repeat (first | (with_reducible exact Below.refl _ _) | (with_reducible apply Below.drew) | (with_reducible refine below_drewN ?_ _) | (with_reducible refine below_alloc' ?_ ?_ _; (focus ((try simp) <;> omega))) | (with_reducible refine below_set' ?_ ?_ _; (focus ((try simp) <;> omega))))⟩
set_option maxHeartbeats 3200000 in
theorem asked_some {lo : Nat} {w : World} {eb : Nat} {B : Bk} {E : Eng} (h : EngAt lo w eb B E) (t : Int) (h0 : 0 ≤ t) (h3 : t < 3) {x : T} (hx : E.th t = some x) :
    Calls Try.prog 5 #[ptr eb, .int .i64 t] w fun e w' => e = .returned (.tuple #[.agg #[.int .u8 x.kd, .int .i64 0, .int .u64 x.av], .bool (x.kd != 0)]) ∧ Below w.heap.size w w' := by
  have l1 : Below w.heap.size w (w.alloc (.cells #[.int .u8 0, .int .i64 0, .int .u64 0] 32)) := by repeat (first | (with_reducible exact Below.refl _ _) | (with_reducible apply Below.drew) | (with_reducible refine below_drewN ?_ _) | (with_reducible refine below_alloc' ?_ ?_ _; (focus ((try simp) <;> omega))) | (with_reducible refine below_set' ?_ ?_ _; (focus ((try simp) <;> omega))))
  have HO := Lib.hid (ofT_any (h.below l1) t h0 h3)
  rw [hx] at HO
  have hA := ((h.below l1).ths t x hx).obj
  have x4 := blk_cell hA 4; have x5 := blk_cell hA 5; have x6 := blk_cell hA 6
  unfold attCells at x4 x5 x6
  simp only [List.getElem?_toArray, List.getElem?_cons_zero, List.getElem?_cons_succ] at x4 x5 x6
  clear h hx hA
  go_enter Try.func5, Try.ntmps5
  go_wp2_with fail
  refine HO.out.mono ?_
  rintro e w1 ⟨rfl, rfl⟩
  simp only [Option.map_some, Option.getD_some]
  go_wp2_with fail
  have hb0 : (w.alloc (.cells #[.int .u8 0, .int .i64 0, .int .u64 0] 32)).heap[w.heap.size]? = some (.cells #[.int .u8 0, .int .i64 0, .int .u64 0] 32 (0, 0)) := by simp [↓heap_alloc_eq, ↓heap_set_eq, ↓heap_drew_eq, ↓heap_drewN_eq, setObj, size_drewN]
  obtain ⟨W1, hW1⟩ : ∃ W1, w.alloc (.cells #[.int .u8 0, .int .i64 0, .int .u64 0] 32) = W1 := ⟨_, rfl⟩
  rw [hW1] at hb0 l1 x4 x5 x6 ⊢
  have hpn : (B.pt t).p ≠ w.heap.size := by
    intro e
    rw [e] at x4
    have y4 := blk_cell hb0 4
    rw [y4] at x4
    simp at x4
  have Q0 : W1.drew.cell? ⟨(B.pt t).p, 4, none⟩ = some (.int .u8 x.kd) ∧ W1.drew.cell? ⟨(B.pt t).p, 5, none⟩ = some (.int .i64 0) ∧ W1.drew.cell? ⟨(B.pt t).p, 6, none⟩ = some (.int .u64 x.av) := ⟨x4, x5, x6⟩
  have fz : ∀ i, W1.drew.frozen? ⟨w.heap.size, i, none⟩ = false := fun i => blk_free (w := W1.drew) hb0 i
  have fz0 := fz 0; have fz1 := fz 1; have fz2 := fz 2
  have hb1 : W1.drew.heap[w.heap.size]? = some (.cells #[.int .u8 0, .int .i64 0, .int .u64 0] 32 (0, 0)) := hb0
  have L1 := Lib.hid (show Below w.heap.size w W1.drew from l1.drew)
  clear hW1 x4 x5 x6 l1 HO fz hb0
  generalize (B.pt t).p = pb at *
  refine wp_region_held_drew (S := fun w' => w'.cell? ⟨pb, 4, none⟩ = some (.int .u8 x.kd) ∧ w'.cell? ⟨pb, 5, none⟩ = some (.int .i64 0) ∧ w'.cell? ⟨pb, 6, none⟩ = some (.int .u64 x.av)) (by kernel_rfl) Q0 (fun hS9 => ?_)
  generalize W1.drew = WD at *
  refine wpAnyH_take2 (i := 0) (v := ?_) rfl (by kernel_rfl) (by kernel_rfl) (by kernel_rfl) (fun _ _ _ h => h) (Or.inl ⟨by rfl, ?_⟩) (by assumption) ?_; rotate_left; (focus (intro w hSw; (skip); (first | (go_simp; done) | (go_simp; with_reducible rfl)))); (try simp only [Act.put, List.setIfInBounds_toArray, List.set_cons_zero, List.set_cons_succ])
  refine wpAnyH_take2 (i := 1) (v := ?_) rfl (by kernel_rfl) (by kernel_rfl) (by kernel_rfl) (fun _ _ _ h => h) (Or.inl ⟨by rfl, ?_⟩) (by assumption) ?_; rotate_left; (focus (intro w hSw; (skip); (first | (go_simp; done) | (go_simp; with_reducible rfl)))); (try simp only [Act.put, List.setIfInBounds_toArray, List.set_cons_zero, List.set_cons_succ])
  refine wpAnyH_take2 (i := 2) (v := ?_) rfl (by kernel_rfl) (by kernel_rfl) (by kernel_rfl) (fun _ _ _ h => h) (Or.inl ⟨by rfl, ?_⟩) (by assumption) ?_; rotate_left; (focus (intro w hSw; (skip); (first | (go_simp; done) | (go_simp; with_reducible rfl)))); (try simp only [Act.put, List.setIfInBounds_toArray, List.set_cons_zero, List.set_cons_succ])
  refine wpAnyH_take2 (i := 3) (v := ?_) rfl (by kernel_rfl) (by kernel_rfl) (by kernel_rfl) (fun _ _ _ h => h) (Or.inl ⟨by rfl, ?_⟩) (by assumption) ?_; rotate_left; (focus (intro w hSw; (obtain ⟨q0, q1, q2⟩ := hSw); (first | (go_simp; done) | (go_simp; with_reducible rfl)))); (try simp only [Act.put, List.setIfInBounds_toArray, List.set_cons_zero, List.set_cons_succ])
  refine wpAnyH_take2 (i := 4) (v := ?_) rfl (by kernel_rfl) (by kernel_rfl) (by kernel_rfl) (fun _ _ _ h => h) (Or.inl ⟨by rfl, ?_⟩) (by assumption) ?_; rotate_left; (focus (intro w hSw; (skip); (first | (go_simp; done) | (go_simp; with_reducible rfl)))); (try simp only [Act.put, List.setIfInBounds_toArray, List.set_cons_zero, List.set_cons_succ])
  refine wpAnyH_take2 (i := 5) (v := ?_) rfl (by kernel_rfl) (by kernel_rfl) (by kernel_rfl) (fun _ _ _ h => h) (Or.inl ⟨by rfl, ?_⟩) (by assumption) ?_; rotate_left; (focus (intro w hSw; (skip); (first | (go_simp; done) | (go_simp; with_reducible rfl)))); (try simp only [Act.put, List.setIfInBounds_toArray, List.set_cons_zero, List.set_cons_succ])
  refine wpAnyH_take2 (i := 6) (v := ?_) rfl (by kernel_rfl) (by kernel_rfl) (by kernel_rfl) (fun _ _ _ h => h) (Or.inl ⟨by rfl, ?_⟩) (by assumption) ?_; rotate_left; (focus (intro w hSw; (skip); (first | (go_simp; done) | (go_simp; with_reducible rfl)))); (try simp only [Act.put, List.setIfInBounds_toArray, List.set_cons_zero, List.set_cons_succ])
  refine wpAnyH_take2 (i := 7) (v := ?_) rfl (by kernel_rfl) (by kernel_rfl) (by kernel_rfl) (fun _ _ _ h => h) (Or.inl ⟨by rfl, ?_⟩) (by assumption) ?_; rotate_left; (focus (intro w hSw; (skip); (first | (go_simp; done) | (go_simp; with_reducible rfl)))); (try simp only [Act.put, List.setIfInBounds_toArray, List.set_cons_zero, List.set_cons_succ])
  refine wpAnyH_take2 (i := 8) (v := ?_) rfl (by kernel_rfl) (by kernel_rfl) (by kernel_rfl) (fun _ _ _ h => h) (Or.inl ⟨by rfl, ?_⟩) (by assumption) ?_; rotate_left; (focus (intro w hSw; (obtain ⟨q0, q1, q2⟩ := hSw); (first | (go_simp; done) | (go_simp; with_reducible rfl)))); (try simp only [Act.put, List.setIfInBounds_toArray, List.set_cons_zero, List.set_cons_succ])
  refine wpAnyH_take2 (i := 9) (v := ?_) rfl (by kernel_rfl) (by kernel_rfl) (by kernel_rfl) (fun _ _ _ h => h) (Or.inl ⟨by rfl, ?_⟩) (by assumption) ?_; rotate_left; (focus (intro w hSw; (skip); (first | (go_simp; done) | (go_simp; with_reducible rfl)))); (try simp only [Act.put, List.setIfInBounds_toArray, List.set_cons_zero, List.set_cons_succ])
  have y0 := blk_cell hb1 0; have y1 := blk_cell hb1 1; have y2 := blk_cell hb1 2
  simp only [List.getElem?_toArray, List.getElem?_cons_zero, List.getElem?_cons_succ] at y0 y1 y2
  refine wpAnyH_ready (rs := [10]) (by kernel_rfl) (by simp) ?_; refine AllReadyH_cons2 rfl (fun K hK => ?_) AllReadyH.nil
  go_simp
  have hO : Only (fun k => k = w.heap.size) WD (((WD.setCell ⟨w.heap.size, 0, none⟩ (.int .u8 x.kd)).setCell ⟨w.heap.size, 1, none⟩ (.int .i64 0)).setCell ⟨w.heap.size, 2, none⟩ (.int .u64 x.av)) :=
    (((Only.refl (fun k => k = w.heap.size) _).setCell (p := ⟨w.heap.size, 0, none⟩) (.inr rfl) _).setCell (p := ⟨w.heap.size, 1, none⟩) (.inr rfl) _).setCell (p := ⟨w.heap.size, 2, none⟩) (.inr rfl) _
  have QF := And.intro (hO.cell Q0.1 hpn) (And.intro (hO.cell Q0.2.1 hpn) (hO.cell Q0.2.2 hpn))
  have HB := Lib.hid (show Below w.heap.size w (((WD.setCell ⟨w.heap.size, 0, none⟩ (.int .u8 x.kd)).setCell ⟨w.heap.size, 1, none⟩ (.int .i64 0)).setCell ⟨w.heap.size, 2, none⟩ (.int .u64 x.av)) from ((L1.out.setCell (Nat.le_refl _) _).setCell (Nat.le_refl _) _).setCell (Nat.le_refl _) _)
  have hb2 : (((WD.setCell ⟨w.heap.size, 0, none⟩ (.int .u8 x.kd)).setCell ⟨w.heap.size, 1, none⟩ (.int .i64 0)).setCell ⟨w.heap.size, 2, none⟩ (.int .u64 x.av)).heap[w.heap.size]? = some (.cells #[.int .u8 x.kd, .int .i64 0, .int .u64 x.av] 32 (0, 0)) := by simp [↓heap_alloc_eq, ↓heap_set_eq, ↓heap_drew_eq, ↓heap_drewN_eq, setObj, size_drewN, hb1]
  obtain ⟨W2, hW2⟩ : ∃ W2, ((WD.setCell ⟨w.heap.size, 0, none⟩ (.int .u8 x.kd)).setCell ⟨w.heap.size, 1, none⟩ (.int .i64 0)).setCell ⟨w.heap.size, 2, none⟩ (.int .u64 x.av) = W2 := ⟨_, rfl⟩
  rw [hW2] at QF HB hb2 ⊢
  clear hW2 hO y0 y1 y2 fz0 fz1 fz2 hb1 Q0 L1
  refine hK.out _ _ QF (fun hS9 => ?_); clear hK K; (try simp only [Act.put, List.setIfInBounds_toArray, List.set_cons_zero, List.set_cons_succ])
  refine wpAnyH_take2 (i := 11) (v := ?_) rfl (by kernel_rfl) (by kernel_rfl) (by kernel_rfl) (fun _ _ _ h => h) (Or.inl ⟨by rfl, ?_⟩) (by assumption) ?_; rotate_left; (focus (intro w hSw; (skip); (first | (go_simp; done) | (go_simp; with_reducible rfl)))); (try simp only [Act.put, List.setIfInBounds_toArray, List.set_cons_zero, List.set_cons_succ])
  refine wpAnyH_done (by kernel_rfl) ?_ _
  have z0 := blk_cell hb2 0; have z1 := blk_cell hb2 1; have z2 := blk_cell hb2 2
  simp only [List.getElem?_toArray, List.getElem?_cons_zero, List.getElem?_cons_succ] at z0 z1 z2
  go_wp2_with fail
  refine bodyPost_ret (v := .tuple #[.agg #[.int .u8 x.kd, .int .i64 0, .int .u64 x.av], .bool (x.kd != 0)]) ?_ rfl ?_
  · simp [results, Try.results5, go_sem, z0, z1, z2]
  exact ⟨rfl, HB.out⟩
end Go.Proofs.Ytgjemjogncnbnaa.Tad
