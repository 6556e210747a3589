/- A table of four stripes in memory; what its methods leave. -/
import Derived.Test.YtboofagdcohgnaaLkwE
import Derived.Test.YtboofagdcohgnaaRws
import Derived.LaidEqlPtr
import Derived.Handy
namespace Go.Proofs.Ytboofagdcohgnaa.Tgu
open Go.RowKit Go.Proofs.Ytboofagdcohgnaa.Lkw
set_option linter.unusedSimpArgs false
set_option linter.unusedVariables false
set_option maxRecDepth 50000

abbrev ptr (b : Nat) : Value := .pointer (some ⟨b, 0, none⟩)
abbrev Ws := Nat → Int
def upd (ws : Ws) (s : Nat) (v : Int) : Ws := fun i => if i = s then v else ws i
abbrev rowU (ws : Ws) : Array Value := #[.int .u64 (ws 0), .int .u64 (ws 1), .int .u64 (ws 2), .int .u64 (ws 3)]
theorem rowU_set (ws : Ws) {s : Nat} (hs : s < 4) (v : Int) : (rowU ws).setIfInBounds s (.int .u64 v) = rowU (upd ws s v) := by
  have : s = 0 ∨ s = 1 ∨ s = 2 ∨ s = 3 := by omega
  rcases this with rfl | rfl | rfl | rfl <;> rfl
theorem rowU_get (ws : Ws) {s : Nat} (hs : s < 4) : (rowU ws)[s]? = some (.int .u64 (ws s)) := by
  have : s = 0 ∨ s = 1 ∨ s = 2 ∨ s = 3 := by omega
  rcases this with rfl | rfl | rfl | rfl <;> rfl
structure TAt (w : World) (b g : Nat) (now : Int) (ws : Ws) : Prop where
  obj : w.heap[b]? = some (.cells #[.int .u64 now, .slice (some ⟨g, 0, none⟩) 4 4] 43 (0, 0))
  row : w.heap[g]? = some (.cells (rowU ws) 27 (0, 0))
theorem TAt.below {w w' : World} {b g : Nat} {now : Int} {ws : Ws} (h : TAt w b g now ws) (l : Below w.heap.size w w') : TAt w' b g now ws := ⟨bblk l h.obj, bblk l h.row⟩
theorem TAt.ne {w : World} {b g : Nat} {now : Int} {ws : Ws} (h : TAt w b g now ws) : b ≠ g := by
  rintro rfl
  have := h.obj
  rw [h.row] at this
  injection this with this
  injection this with _ this _
  revert this
  decide
theorem TAt.cell {w : World} {b g : Nat} {now : Int} {ws : Ws} (h : TAt w b g now ws) {s : Nat} (hs : s < 4) : w.cell? ⟨g, s, none⟩ = some (.int .u64 (ws s)) := by
  rw [blk_cell h.row]; exact rowU_get ws hs
theorem TAt.set {w : World} {b g : Nat} {now : Int} {ws : Ws} (h : TAt w b g now ws) {s : Nat} (hs : s < 4) (v : Int) : TAt (w.setCell ⟨g, s, none⟩ (.int .u64 v)) b g now (upd ws s v) ∧ Only (fun k => k = g) w (w.setCell ⟨g, s, none⟩ (.int .u64 v)) := by
  have o : Only (fun k => k = g) w (w.setCell ⟨g, s, none⟩ (.int .u64 v)) := (Only.refl (fun k => k = g) w).setCell (p := ⟨g, s, none⟩) (.inr rfl) _
  refine ⟨⟨o.blk h.obj h.ne, ?_⟩, o⟩
  have := blk_set h.row s (.int .u64 v)
  rwa [rowU_set ws hs] at this
theorem tmay_any {w : World} {b g : Nat} {now : Int} {ws : Ws} (h : TAt w b g now ws) {s : Nat} (hs : s < 4) : Calls Try.prog 20 #[ptr b, .int .i64 s] w fun e w' => e = .returned (.int .i64 0) ∧ w = w' := by
  have hb := h.obj; have hg := h.row; have b0 := blk_cell hb 0; have b1 := blk_cell hb 1; simp only [List.getElem?_toArray, List.getElem?_cons_zero, List.getElem?_cons_succ] at b0 b1
  have d1 : decide ((s : Int) < 0) = false := by simp
  have d2 : decide ((4 : Int) ≤ s) = false := by simp; omega
  clear h hb hg
  go_enter Try.func20, Try.ntmps20
  go_wp2_with fail
  go_ret
  exact ⟨rfl, rfl⟩
theorem clock_any {w : World} {b g : Nat} {now : Int} {ws : Ws} (h : TAt w b g now ws) : Calls Try.prog 6 #[ptr b] w fun e w' => e = .returned (.int .u64 now) ∧ w = w' := by
  have hb := h.obj; have hg := h.row; have b0 := blk_cell hb 0; have b1 := blk_cell hb 1; simp only [List.getElem?_toArray, List.getElem?_cons_zero, List.getElem?_cons_succ] at b0 b1
  clear h hb hg
  go_enter Try.func6, Try.ntmps6
  go_wp2_with fail
  go_ret
  exact ⟨rfl, rfl⟩
theorem tof_any {w : World} {b g : Nat} {now : Int} {ws : Ws} (h : TAt w b g now ws) (t : Int) (ht : 0 ≤ t ∧ t < 12) : Calls Try.prog 9 #[ptr b, .int .i64 t] w fun e w' => (∃ s : Nat, s < 4 ∧ e = .returned (.int .i64 s)) ∧ w = w' := by
  have hb := h.obj; have hg := h.row; have b0 := blk_cell hb 0; have b1 := blk_cell hb 1; simp only [List.getElem?_toArray, List.getElem?_cons_zero, List.getElem?_cons_succ] at b0 b1
  have d1 : decide (t < 0) = false := by simp; omega
  have d2 : decide (12 ≤ t) = false := by simp; omega
  have w1 : IntKind.i64.wrap (t * 5) = t * 5 := by rw [IntKind.wrap_i64]; omega
  have w2 : IntKind.i64.wrap (t * 5 + 3) = t * 5 + 3 := by rw [IntKind.wrap_i64]; omega
  obtain ⟨r, hr, hr4⟩ : ∃ r : Nat, (t * 5 + 3).tmod 4 = r ∧ r < 4 := ⟨((t * 5 + 3) % 4).toNat, by rw [Int.tmod_eq_emod_of_nonneg (by omega)]; omega, by omega⟩
  have HT := Lib.hid ht; have HR := Lib.hid hr
  clear h hb hg ht
  go_enter Try.func9, Try.ntmps9
  go_wp2_with fail
  go_ret
  exact ⟨⟨r, hr4, rfl⟩, rfl⟩
theorem word_any' {w : World} {b g : Nat} {now : Int} {ws : Ws} (h : TAt w b g now ws) {s : Nat} (hs : s < 4) (x : Int) (hx : ws s = x) : Calls Try.prog 10 #[ptr b, .int .i64 s] w fun e w' => e = .returned (.tuple #[.int .u64 x, .int .i64 0]) ∧ w = w' := by
  have HM := Lib.hid (tmay_any h hs)
  have hb := h.obj; have hg := h.row; have b0 := blk_cell hb 0; have b1 := blk_cell hb 1; simp only [List.getElem?_toArray, List.getElem?_cons_zero, List.getElem?_cons_succ] at b0 b1
  have c := h.cell hs
  rw [hx] at c
  have hs4 : (s : Int) < 4 := by omega
  clear h hb hg hx
  go_enter Try.func10, Try.ntmps10
  go_wp2_with fail
  refine HM.out.mono ?_
  rintro e w0 ⟨rfl, rfl⟩
  go_wp2_with fail
  refine bodyPost_ret (results_tmp2 rfl _ _ _) rfl ?_
  exact ⟨rfl, rfl⟩
theorem turn_any {w : World} {b g : Nat} {now : Int} {ws : Ws} (h : TAt w b g now ws) {s : Nat} (hs : s < 4) (f : FuncId) (cap : Array Value) (x y : Int) (hx : ws s = x) (hcf : ∀ args W, (callFunc f args).run Try.prog W = .ok (.enter f args) W)
    (hC : Calls Try.prog f (#[.int .u64 x] ++ cap) w fun e w' => e = .returned (.tuple #[.int .u64 y, .int .i64 0]) ∧ Below w.heap.size w w') :
    Calls Try.prog 16 #[ptr b, .int .i64 s, .func (.func f) #[] cap] w fun e w' => e = .returned (.int .i64 0) ∧ TAt w' b g now (upd ws s y) ∧ Only (fun k => k = g) w w' := by
  have HM := Lib.hid (tmay_any h hs)
  have hb := h.obj; have hg := h.row; have b0 := blk_cell hb 0; have b1 := blk_cell hb 1; simp only [List.getElem?_toArray, List.getElem?_cons_zero, List.getElem?_cons_succ] at b0 b1
  have c := h.cell hs
  rw [hx] at c
  have hs4 : (s : Int) < 4 := by omega
  have H := Lib.hid h; have HC := Lib.hid hC
  clear h hb hg hx hC
  go_enter Try.func16, Try.ntmps16
  go_wp2_with fail
  refine HM.out.mono ?_
  rintro e w0 ⟨rfl, rfl⟩
  go_wp2_with fail
  refine HC.out.mono ?_
  rintro e w1 ⟨rfl, l1⟩
  have h1 := H.out.below l1
  have r0 := bkeep l1 b0; have r1 := bkeep l1 b1; have rc := bkeep l1 c
  have fc := blk_free h1.row s
  have HF := Lib.hid (h1.set hs y)
  have L1 := Lib.hid l1
  clear h1 l1
  go_wp2_with fail
  go_ret
  exact ⟨rfl, HF.out.1, (Only.of_below L1.out (fun k hk h => absurd hk (Nat.not_lt.2 h))).trans HF.out.2⟩
theorem new_any (w : World) : Calls Try.prog 4 #[.int .i64 4] w fun e w' => ∃ b g, e = .returned (ptr b) ∧ TAt w' b g 0 (fun _ => 0) ∧ w.heap.size ≤ b ∧ w.heap.size ≤ g ∧ Below w.heap.size w w' := by
  have hmk : ∀ W : World, (Instr.makeSlice 39 (.int .i64 4) (.int .i64 4)).run Try.prog W = .ok (.slice (some ⟨W.heap.size, 0, none⟩) 4 4) (W.alloc (.cells #[.int .u64 0, .int .u64 0, .int .u64 0, .int .u64 0] 27)) := fun W => by kernel_rfl
  go_enter Try.func4, Try.ntmps4
  go_wp2_with fail
  go_ret
  exact ⟨w.heap.size + 1, w.heap.size, rfl, ⟨by simp [↓heap_alloc_eq, ↓heap_set_eq, ↓heap_drew_eq, ↓heap_drewN_eq, setObj, size_drewN], by simp [↓heap_alloc_eq, ↓heap_set_eq, ↓heap_drew_eq, ↓heap_drewN_eq, setObj, size_drewN]⟩, by omega, Nat.le_refl _, by repeat (first | (with_reducible exact Below.refl _ _) | (with_reducible apply Below.drew) | (with_reducible refine below_drewN ?_ _) | (with_reducible refine below_alloc' ?_ ?_ _; (focus ((try simp) <;> omega))) | (with_reducible refine below_set' ?_ ?_ _; (focus ((try simp) <;> omega))))⟩
theorem lock1_any (W : World) (bo : Nat) (hc : W.cell? ⟨bo, 0, none⟩ = some (.int .i64 0)) : Calls Try.prog 17 #[.int .u64 0, ptr bo] W fun e w' => e = .returned (.tuple #[.int .u64 1, .int .i64 0]) ∧ Below W.heap.size W w' := by
  have hL := lock_any W 0 0 (by decide)
  rw [show lockV 0 0 = (1, 0) by decide] at hL
  have HL := Lib.hid hL
  clear hL
  go_enter Try.func17, Try.ntmps17
  go_wp2_with fail
  refine HL.out.mono ?_
  rintro e w1 ⟨rfl, l1⟩
  have L1 := Lib.hid l1
  clear l1
  go_wp2_with fail
  refine bodyPost_ret (results_tmp2 rfl _ _ _) rfl ?_
  exact ⟨rfl, L1.out⟩
theorem tlock_any {w : World} {b g : Nat} {now : Int} {ws : Ws} (h : TAt w b g now ws) {s : Nat} (hs : s < 4) (hx : ws s = 0) : Calls Try.prog 7 #[ptr b, .int .i64 0, .int .i64 s] w fun e w' => e = .returned (.int .i64 0) ∧ TAt w' b g now (upd ws s 1) ∧ Only (fun k => k = g) w w' := by
  have lX : Below w.heap.size w (w.alloc (.cells #[.int .i64 0] 3)) := by repeat (first | (with_reducible exact Below.refl _ _) | (with_reducible apply Below.drew) | (with_reducible refine below_drewN ?_ _) | (with_reducible refine below_alloc' ?_ ?_ _; (focus ((try simp) <;> omega))) | (with_reducible refine below_set' ?_ ?_ _; (focus ((try simp) <;> omega))))
  have hbo : (w.alloc (.cells #[.int .i64 0] 3)).cell? ⟨w.heap.size, 0, none⟩ = some (.int .i64 0) := by simp
  have HT := Lib.hid (turn_any (h.below lX) hs 17 #[ptr w.heap.size] 0 1 hx (fun args W => by kernel_rfl) (lock1_any _ _ hbo))
  have LX := Lib.hid lX
  have hgl := blk_lt h.row
  have hmf : ∀ (fn : Fn) (first cap : Array Value) (w : World), (Instr.makeFunc fn first cap).run Try.prog w = .ok (.func fn first cap) w := fun _ _ _ _ => rfl
  clear h lX hbo hx
  go_enter Try.func7, Try.ntmps7
  go_wp2_with fail
  refine HT.out.mono ?_
  rintro e w1 ⟨rfl, h1, o1⟩
  have H1 := Lib.hid h1; have O1 := Lib.hid o1
  clear h1 o1
  go_wp2_with fail
  go_ret
  exact ⟨rfl, H1.out, (Only.of_below LX.out (fun k hk h => absurd hk (Nat.not_lt.2 h))).trans O1.out⟩
theorem unlock1_any (W : World) (bv bt bo b g : Nat) (ws : Ws) (h : TAt W b g 1 ws) (hv : W.cell? ⟨bv, 0, none⟩ = some (.int .u64 1)) (ht : W.cell? ⟨bt, 0, none⟩ = some (ptr b)) (ho : W.cell? ⟨bo, 0, none⟩ = some (.int .i64 0)) :
    Calls Try.prog 22 #[.int .u64 1, ptr bv, ptr bt, ptr bo] W fun e w' => e = .returned (.tuple #[.int .u64 32, .int .i64 0]) ∧ Below W.heap.size W w' := by
  have hL := unlock_any W.drew 1 0 1 (by decide) (by decide)
  rw [show unlockV 1 0 1 = (32, 0) by decide] at hL
  have HL := Lib.hid hL
  have hb := h.obj; have hg := h.row; have b0 := blk_cell hb 0; have b1 := blk_cell hb 1; simp only [List.getElem?_toArray, List.getElem?_cons_zero, List.getElem?_cons_succ] at b0 b1
  have Q0 : W.drew.cell? ⟨bv, 0, none⟩ = some (.int .u64 1) ∧ W.drew.cell? ⟨bt, 0, none⟩ = some (ptr b) ∧ W.drew.cell? ⟨b, 0, none⟩ = some (.int .u64 1) := ⟨hv, ht, b0⟩
  clear hL h hb hg
  go_enter Try.func22, Try.ntmps22
  go_wp2_with fail
  go_region_held3 (fun w' => w'.cell? ⟨bv, 0, none⟩ = some (.int .u64 1) ∧ w'.cell? ⟨bt, 0, none⟩ = some (ptr b) ∧ w'.cell? ⟨b, 0, none⟩ = some (.int .u64 1)) (with_reducible exact Q0) (fail)
  go_wp2_with fail
  refine HL.out.mono ?_
  rintro e w1 ⟨rfl, l1⟩
  have L1 := Lib.hid (show Below W.heap.size W w1 from btrans ((Below.refl W.heap.size W).drew) (Nat.le_refl _) l1)
  clear l1
  go_wp2_with fail
  refine bodyPost_ret (results_tmp2 rfl _ _ _) rfl ?_
  exact ⟨rfl, L1.out⟩
theorem tunlock_any {w : World} {b g : Nat} {ws : Ws} (h : TAt w b g 1 ws) {s : Nat} (hs : s < 4) (hx : ws s = 1) : Calls Try.prog 12 #[ptr b, .int .i64 0, .int .i64 s, .int .u64 1] w fun e w' => e = .returned (.int .i64 0) ∧ TAt w' b g 1 (upd ws s 32) ∧ Only (fun k => k = g) w w' := by
  have lX : Below w.heap.size w (((w.alloc (.cells #[ptr b] 23)).alloc (.cells #[.int .i64 0] 3)).alloc (.cells #[.int .u64 1] 27)) := by repeat (first | (with_reducible exact Below.refl _ _) | (with_reducible apply Below.drew) | (with_reducible refine below_drewN ?_ _) | (with_reducible refine below_alloc' ?_ ?_ _; (focus ((try simp) <;> omega))) | (with_reducible refine below_set' ?_ ?_ _; (focus ((try simp) <;> omega))))
  obtain ⟨W, hW⟩ : ∃ W, (((w.alloc (.cells #[ptr b] 23)).alloc (.cells #[.int .i64 0] 3)).alloc (.cells #[.int .u64 1] 27)) = W := ⟨_, rfl⟩
  have q0 : W.cell? ⟨w.heap.size, 0, none⟩ = some (ptr b) := by
    have hb0 : W.heap[w.heap.size]? = some (.cells #[ptr b] 23 (0, 0)) := by rw [← hW]; simp [↓heap_alloc_eq, ↓heap_set_eq, ↓heap_drew_eq, ↓heap_drewN_eq, setObj, size_drewN]; try omega
    rw [blk_cell hb0]; rfl
  have q1 : W.cell? ⟨w.heap.size + 1, 0, none⟩ = some (.int .i64 0) := by rw [← hW]; first | (simp; done) | (simp [World.cell?, ↓heap_alloc_eq]; done)
  have q2 : W.cell? ⟨w.heap.size + 2, 0, none⟩ = some (.int .u64 1) := by rw [← hW]; first | (simp; done) | (simp [World.cell?, ↓heap_alloc_eq]; done)
  rw [hW] at lX
  have HT := Lib.hid (turn_any (h.below lX) hs 22 #[ptr (w.heap.size + 2), ptr w.heap.size, ptr (w.heap.size + 1)] 1 32 hx (fun args W => by kernel_rfl) (unlock1_any _ _ _ _ b g ws (h.below lX) q2 q0 q1))
  have LX := Lib.hid lX; have HWD := Lib.hid hW
  have hmf : ∀ (fn : Fn) (first cap : Array Value) (w : World), (Instr.makeFunc fn first cap).run Try.prog w = .ok (.func fn first cap) w := fun _ _ _ _ => rfl
  clear h lX q0 q1 q2 hx hW
  go_enter Try.func12, Try.ntmps12
  go_wp2_with fail
  rw [HWD.out]
  refine HT.out.mono ?_
  rintro e w1 ⟨rfl, h1, o1⟩
  have H1 := Lib.hid h1; have O1 := Lib.hid o1
  clear h1 o1
  go_wp2_with fail
  go_ret
  exact ⟨rfl, H1.out, (Only.of_below LX.out (fun k hk h => absurd hk (Nat.not_lt.2 h))).trans O1.out⟩
theorem tick_any {w : World} {b g : Nat} {ws : Ws} (h : TAt w b g 0 ws) : Calls Try.prog 19 #[ptr b] w fun e w' => e = .returned (.tuple #[.int .u64 1, .int .i64 0]) ∧ TAt w' b g 1 ws ∧ Only (fun k => k = b) w w' := by
  have hN := next_any w 0 (by decide)
  rw [show nextV 0 = (1, 0) by decide] at hN
  have HN := Lib.hid hN
  have hb := h.obj; have hg := h.row; have b0 := blk_cell hb 0; have b1 := blk_cell hb 1; simp only [List.getElem?_toArray, List.getElem?_cons_zero, List.getElem?_cons_succ] at b0 b1
  have f0 := blk_free hb 0
  have o : Only (fun k => k = b) w (w.setCell ⟨b, 0, none⟩ (.int .u64 1)) := (Only.refl (fun k => k = b) w).setCell (p := ⟨b, 0, none⟩) (.inr rfl) _
  have HF := Lib.hid (show TAt (w.setCell ⟨b, 0, none⟩ (.int .u64 1)) b g 1 ws ∧ Only (fun k => k = b) w (w.setCell ⟨b, 0, none⟩ (.int .u64 1)) from ⟨⟨blk_set hb 0 _, o.blk hg (fun e => h.ne e.symm)⟩, o⟩)
  clear h hb hg hN o
  go_enter Try.func19, Try.ntmps19
  go_wp2_with fail
  refine HN.out.mono ?_
  rintro e w1 ⟨rfl, rfl⟩
  go_wp2_with fail
  refine bodyPost_ret (results_tmp2 rfl _ _ _) rfl ?_
  exact ⟨rfl, HF.out.1, HF.out.2⟩
theorem tTick_any {w : World} {b g : Nat} {ws : Ws} (h : TAt w b g 0 ws) : Calls Try.prog 8 #[ptr b] w fun e w' => e = .returned (.tuple #[.int .u64 1, .int .i64 0]) ∧ TAt w' b g 1 ws ∧ Only (fun k => k = b) w w' := by
  have HT := Lib.hid (tick_any h)
  clear h
  go_enter Try.func8, Try.ntmps8
  go_wp2_with fail
  refine HT.out.mono ?_
  rintro e w1 ⟨rfl, h1, o1⟩
  have H1 := Lib.hid h1; have O1 := Lib.hid o1
  clear h1 o1
  go_wp2_with fail
  refine bodyPost_ret (results_tmp2 rfl _ _ _) rfl ?_
  exact ⟨rfl, H1.out, O1.out⟩
end Go.Proofs.Ytboofagdcohgnaa.Tgu
