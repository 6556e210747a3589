/- The statement: a nil log answers so. -/
import Derived.Test.YtmhlemgchlencaaWriN
import Derived.Test.YtmhlemgchlencaaRow
namespace Go.Proofs.Ytmhlemgchlencaa.Wri
open Go.RowKit
set_option linter.unusedSimpArgs false
set_option linter.unusedVariables false

theorem cells_deed : Try.prog.cellsOf 49 = 3 := by kernel_rfl
theorem deed_of {H : Type} {enc : TypeId × Value → H} {w : World} {cs : List Value} (h : Fits enc Try.prog w 49 cs) : ∃ (kd th v : Int), cs = [.int .i64 kd, .int .i64 th, .int .u64 v] ∧ 0 ≤ v ∧ v < 18446744073709551616 := by
  obtain ⟨hl, hf⟩ := h.struct Try.underlying49
  rw [cells_deed] at hl
  match cs, hl with
  | [c0, c1, c2], _ =>
    obtain ⟨k, h0, w0⟩ := (hf 0 _ rfl).int (k := .i64) (by kernel_rfl)
    obtain ⟨c, h1, w1⟩ := (hf 1 _ rfl).int (k := .i64) (by kernel_rfl)
    obtain ⟨a, h2, w2⟩ := (hf 2 _ rfl).int (k := .u64) (by kernel_rfl)
    have e0 := take_one h0; have e1 := take_one h1; have e2 := take_one h2
    simp at e0 e1 e2
    have hb := bounds_u64 w2
    exact ⟨k, c, a, by rw [e0, e1, e2], hb.1, by have := hb.2; omega⟩

set_option maxHeartbeats 1600000 in
theorem none_law {H : Type} (enc : TypeId × Value → H) (w : World) (c : Array Value) (h : Fits enc Try.prog w 49 c.toList) (a : Option Addr) (len cap : Nat) (_ : Fits enc Try.prog w 51 [.slice a len cap]) :
    Calls Try.prog 8 #[.agg c, .slice a len cap] w fun e w' => e = .returned (.bool true) ∧ Below w.heap.size w w' := by
  obtain ⟨kd, th, v, he, hv⟩ := deed_of h
  obtain rfl : c = #[.int .i64 kd, .int .i64 th, .int .u64 v] := by rw [← Array.toList_inj, he]
  have lW : Below w.heap.size w (w.alloc (.cells #[.int .i64 kd, .int .i64 th, .int .u64 v] 49)) := by repeat (first | (with_reducible exact Below.refl _ _) | (with_reducible apply Below.drew) | (with_reducible refine below_drewN ?_ _) | (with_reducible refine below_alloc' ?_ ?_ _; (focus ((try simp) <;> omega))) | (with_reducible refine below_set' ?_ ?_ _; (focus ((try simp) <;> omega))))
  have hx := blk_new w (.cells #[.int .i64 kd, .int .i64 th, .int .u64 v] 49)
  have KO := Lib.hid (show ∀ w', Below (w.alloc (.cells #[.int .i64 kd, .int .i64 th, .int .u64 v] 49)).heap.size (w.alloc (.cells #[.int .i64 kd, .int .i64 th, .int .u64 v] 49)) w' → (w'.cell? ⟨w.heap.size, 1, none⟩ = some (.int .i64 th) ∧ w'.cell? ⟨w.heap.size, 2, none⟩ = some (.int .u64 v)) from fun w' l => by
    have x1 := blk_cell (bblk l hx) 1; have x2 := blk_cell (bblk l hx) 2
    exact ⟨x1, x2⟩)
  have L0 := Lib.hid lW
  obtain ⟨c1, c2⟩ := KO.out _ (Below.refl _ _)
  clear h he hx lW
  go_enter Try.func8, Try.ntmps8
  go_wp2_with fail
  generalize w.alloc (.cells #[.int .i64 kd, .int .i64 th, .int .u64 v] 49) = W at *
  go_wp2_with fail
  refine (lget_nil W th).mono ?_
  rintro e w1 ⟨rfl, l1⟩
  have K1 := Lib.hid l1; clear l1 c1 c2
  obtain ⟨c1, c2⟩ := KO.out w1 K1.out
  go_wp2_with fail
  refine (live_any w1).mono ?_
  rintro e w2 ⟨rfl, l2⟩
  have K2 := Lib.hid (btrans K1.out (Nat.le_refl _) l2); clear l2 K1 c1 c2
  obtain ⟨c1, c2⟩ := KO.out w2 K2.out
  go_wp2_with fail; refine (put_nil _ th v).mono ?_; rintro e w0 ⟨rfl, rfl⟩
  go_wp2_with fail; refine (lpush_nil _).mono ?_; rintro e w0 ⟨rfl, rfl⟩
  go_wp2_with fail; refine (drop_nil _).mono ?_; rintro e w0 ⟨rfl, rfl⟩
  go_wp2_with fail; refine (merge_nil _).mono ?_; rintro e w0 ⟨rfl, rfl⟩
  go_wp2_with fail
  refine (all_nil _).mono ?_
  rintro e w3 ⟨rfl, l3⟩
  have K3 := Lib.hid (btrans K2.out (Nat.le_refl _) l3); clear l3 K2 c1 c2
  go_wp2_with fail; refine (depth_nil _).mono ?_; rintro e w0 ⟨rfl, rfl⟩
  go_wp2_with fail; refine (len_nil _).mono ?_; rintro e w0 ⟨rfl, rfl⟩
  go_wp2_with fail; refine (over_nil _ a len cap).mono ?_; rintro e w0 ⟨rfl, rfl⟩
  go_wp2_with fail; refine (fork_nil _).mono ?_; rintro e w0 ⟨rfl, rfl⟩
  go_wp2_with fail
  go_ret
  exact ⟨by simp, L0.out.trans (K3.out.mono L0.out.size)⟩
end Go.Proofs.Ytmhlemgchlencaa.Wri
