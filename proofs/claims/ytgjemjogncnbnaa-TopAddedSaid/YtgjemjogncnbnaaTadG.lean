/- The engine: wanted, Ask. -/
import Derived.Test.YtgjemjogncnbnaaTadF
namespace Go.Proofs.Ytgjemjogncnbnaa.Tad
open Go.RowKit
set_option linter.unusedSimpArgs false
set_option linter.unusedVariables false
set_option maxRecDepth 50000

set_option maxHeartbeats 6400000 in
theorem wanted_any {lo : Nat} {w : World} {eb : Nat} {B : Bk} {E : Eng} (h : EngAt lo w eb B E) {t : Int} {x : T} (hx : E.th t = some x) (hf : x.fs.length = 1) (kd av : Int) (hk : kd = 1 ∨ kd = 2 ∨ kd = 6) (hv : 0 ≤ av ∧ av < 18446744073709551616) (hr : Wri.rightVal av = true) :
    Calls Try.prog 32 #[ptr eb, ptr (B.pt t).p, .agg #[.int .u8 kd, .int .i64 0, .int .u64 av]] w fun e w' => e = .returned (.int .i64 0) ∧ Below w.heap.size w w' := by
  have l1 : Below w.heap.size w (w.alloc (.cells #[.int .u8 kd, .int .i64 0, .int .u64 av] 32)) := by repeat (first | (with_reducible exact Below.refl _ _) | (with_reducible apply Below.drew) | (with_reducible refine below_drewN ?_ _) | (with_reducible refine below_alloc' ?_ ?_ _; (focus ((try simp) <;> omega))) | (with_reducible refine below_set' ?_ ?_ _; (focus ((try simp) <;> omega))))
  have hb0 : (w.alloc (.cells #[.int .u8 kd, .int .i64 0, .int .u64 av] 32)).heap[w.heap.size]? = some (.cells #[.int .u8 kd, .int .i64 0, .int .u64 av] 32 (0, 0)) := by simp [↓heap_alloc_eq, ↓heap_set_eq, ↓heap_drew_eq, ↓heap_drewN_eq, setObj, size_drewN]
  have h1 := h.below l1
  have x1 := ((h.ths t x hx).cells 1 _ rfl).1
  have e1 := blk_cell h.obj 1
  simp only [List.getElem?_toArray, List.getElem?_cons_zero, List.getElem?_cons_succ] at e1
  have hpl := blk_lt (h.ths t x hx).obj
  have hel := blk_lt h.obj
  have hpn : ¬ (B.pt t).p = w.heap.size := by omega
  have hen : ¬ eb = w.heap.size := by omega
  obtain ⟨xs, hxe, hl⟩ := (h1.ths t x hx).log
  have HD := Lib.hid (Wri.depth_any _ _ xs hl)
  have hxl : xs.length = 1 := by rw [← hf, ← hxe, List.length_map]
  rw [hxl] at HD
  have HV := Lib.hid (fun W => Wri.vRight_any W av hv)
  rw [hr] at HV
  have L1 := Lib.hid l1; have HB0 := Lib.hid hb0
  clear h h1 hx hxe hl hxl hf l1 hb0
  generalize (B.pt t).p = pb at *
  generalize (B.pt t).q = qb at *
  go_enter Try.func32, Try.ntmps32
  rcases hk with rfl | rfl | rfl
  · go_wp2_with fail
    refine HD.out.mono ?_
    rintro e w1 ⟨rfl, rfl⟩
    go_wp2_with fail
    go_quiet (fail)
    go_wp2_with fail
    go_ret
    exact ⟨rfl, below_drewN L1.out _⟩
  · go_wp2_with fail
    refine HD.out.mono ?_
    rintro e w1 ⟨rfl, rfl⟩
    go_wp2_with fail
    go_quiet (fail)
    go_wp2_with fail
    refine (HV.out _).mono ?_
    rintro e w1 ⟨rfl, rfl⟩
    go_wp2_with fail
    go_ret
    exact ⟨rfl, below_drewN L1.out _⟩
  · go_wp2_with fail
    refine HD.out.mono ?_
    rintro e w1 ⟨rfl, rfl⟩
    go_wp2_with fail
    go_quiet (fail)
    go_wp2_with fail
    go_ret
    exact ⟨rfl, below_drewN L1.out _⟩
set_option maxHeartbeats 6400000 in
theorem ask_any {lo : Nat} {w : World} {eb : Nat} {B : Bk} {E : Eng} (h : EngAt lo w eb B E) (t : Int) (h0 : 0 ≤ t) (h3 : t < 3) {x : T} (hx : E.th t = some x) (hx0 : x.kd = 0) (hf : x.fs.length = 1) (kd av : Int) (hk : kd = 1 ∨ kd = 2 ∨ kd = 6) (hv : 0 ≤ av ∧ av < 18446744073709551616) (hr : Wri.rightVal av = true) :
    Calls Try.prog 10 #[ptr eb, .int .i64 t, .agg #[.int .u8 kd, .int .i64 0, .int .u64 av]] w fun e w' => e = .returned (.int .i64 0) ∧ EngAt lo w' eb B { E with th := updT E.th t (some { x with kd := kd, av := av, at_ := 0, next := 0 }) } ∧ Only (Mut lo w) w w' := by
  have l1 : Below w.heap.size w (w.alloc (.cells #[.int .u8 kd, .int .i64 0, .int .u64 av] 32)) := by repeat (first | (with_reducible exact Below.refl _ _) | (with_reducible apply Below.drew) | (with_reducible refine below_drewN ?_ _) | (with_reducible refine below_alloc' ?_ ?_ _; (focus ((try simp) <;> omega))) | (with_reducible refine below_set' ?_ ?_ _; (focus ((try simp) <;> omega))))
  have hb0 : (w.alloc (.cells #[.int .u8 kd, .int .i64 0, .int .u64 av] 32)).heap[w.heap.size]? = some (.cells #[.int .u8 kd, .int .i64 0, .int .u64 av] 32 (0, 0)) := by simp [↓heap_alloc_eq, ↓heap_set_eq, ↓heap_drew_eq, ↓heap_drewN_eq, setObj, size_drewN]
  have h1 := h.below l1
  have HM := Lib.hid (may_any (w.alloc (.cells #[.int .u8 kd, .int .i64 0, .int .u64 av] 32)) eb t h0 h3)
  have HW := Lib.hid (wanted_any h1 hx hf kd av hk hv hr)
  have hlk := h.look t h0 h3 (w.alloc (.cells #[.int .u8 kd, .int .i64 0, .int .u64 av] 32)) l1
  rw [hx] at hlk
  simp only [Option.map_some, Option.getD_some] at hlk
  have e2 := blk_cell h.obj 2
  simp only [List.getElem?_toArray, List.getElem?_cons_zero, List.getElem?_cons_succ] at e2
  have x4 := ((h.ths t x hx).cells 4 _ rfl).1
  rw [hx0] at x4
  have hpl := blk_lt (h.ths t x hx).obj
  have hel := blk_lt h.obj
  have hpn : ¬ (B.pt t).p = w.heap.size := by omega
  have hen : ¬ eb = w.heap.size := by omega
  have H := Lib.hid h; have H1 := Lib.hid h1; have HX := Lib.hid hx; have L1 := Lib.hid l1; have HB0 := Lib.hid hb0
  clear h h1 hx l1 hb0 hk hr hx0
  go_enter Try.func10, Try.ntmps10
  go_wp2_with fail
  refine HM.out.mono ?_
  rintro e w1 ⟨rfl, rfl⟩
  go_wp2_with fail
  refine HW.out.mono ?_
  rintro e w2 ⟨rfl, l2⟩
  have h2 := H1.out.below l2
  have hb2 := bblk l2 HB0.out
  have y0 := blk_cell hb2 0; have y1 := blk_cell hb2 1; have y2 := blk_cell hb2 2
  simp only [List.getElem?_toArray, List.getElem?_cons_zero, List.getElem?_cons_succ] at y0 y1 y2
  have hc := (h2.ths t x HX.out).cells
  obtain ⟨x4', f4⟩ := hc 4 _ rfl; obtain ⟨x5, f5⟩ := hc 5 _ rfl; obtain ⟨x6, f6⟩ := hc 6 _ rfl; obtain ⟨x7, f7⟩ := hc 7 _ rfl; obtain ⟨x9, f9⟩ := hc 9 _ rfl
  have hob := (h2.ths t x HX.out).obj
  have HOB := Lib.hid hob; have H2 := Lib.hid h2; have L2 := Lib.hid (btrans L1.out (Nat.le_refl _) l2)
  clear h2 hb2 hc hob hlk e2 x4 hpl hel l2 HW HM
  go_wp2_with fail
  go_ret
  have hob := HOB.out
  unfold attCells at hob
  have hT := att_turn H2.out HX.out (w' := ((((w2.setCell ⟨(B.pt t).p, 4, none⟩ (.int .u8 kd)).setCell ⟨(B.pt t).p, 5, none⟩ (.int .i64 0)).setCell ⟨(B.pt t).p, 6, none⟩ (.int .u64 av)).setCell ⟨(B.pt t).p, 7, none⟩ (.int .i64 0)).setCell ⟨(B.pt t).p, 9, none⟩ (.int .i64 0)) (y := { x with kd := kd, av := av, at_ := 0, next := 0 })
    (by repeat (first | (with_reducible exact Only.refl _ _) | (with_reducible apply Only.drew) | (with_reducible apply Only.drewN) | (with_reducible apply Only.alloc) | (with_reducible refine only_set' ?_ ?_ _; (focus ((try simp) <;> omega))))) (by unfold attCells; simp [↓heap_alloc_eq, ↓heap_set_eq, ↓heap_drew_eq, ↓heap_drewN_eq, setObj, size_drewN, hob]) rfl rfl (Below.refl _ _)
  exact ⟨rfl, hT.1, mut_trans (mut_below L2.out) hT.2⟩
end Go.Proofs.Ytgjemjogncnbnaa.Tad
