/- 'attempt' of package seqlock: what is given up inside is its answer. -/
import Derived.Test.YtgjemjogncnbnaaSeqA
namespace Go.Proofs.Ytgjemjogncnbnaa.Seq
open Go.RowKit
set_option linter.unusedSimpArgs false
set_option linter.unusedVariables false
set_option maxRecDepth 50000

theorem catch_refused (p : Nat) (x n : Int) (w : World) (hp : w.cell? ⟨p, 0, none⟩ = some (.int .i64 x)) (fp : w.frozen? ⟨p, 0, none⟩ = false) :
    CallsD Try.prog 68 #[.pointer (some ⟨p, 0, none⟩)] (.panicking [{ v := .iface 133 (.agg #[.int .i64 n]), recovered := false }]) w fun e u' w' =>
      e = .returned (.tuple #[]) ∧ u' = .panicking [{ v := .iface 133 (.agg #[.int .i64 n]), recovered := true }] ∧ w' = (w.alloc (.cells #[.int .i64 n] 133)).setCell ⟨p, 0, none⟩ (.int .i64 n) := by
  refine callsD_of_wpS Try.func68 rfl fun c₀ cs hu => ?_
  simp only [Try.ntmps68, List.size_toArray, List.length_cons, List.length_nil, Nat.reduceAdd, Nat.reduceSub, Array.replicate_succ,
    Array.replicate_zero, List.push_toArray, List.append_toArray, List.nil_append, List.cons_append]
  apply wpS_seq
  apply wpS_region
  simp [wpOpsS, go_sem, recoverD, hu, Exit.thenS]
  refine wpS_of_wp ?_
  have hplt := World.block_lt_of_cell? w _ hp
  have hta : ∀ w, (Instr.typeAssert (.iface 133 (.agg #[.int .i64 n])) 20 133 true).run Try.prog w = .ok (.tuple #[.agg #[.int .i64 n], .bool true]) w := fun _ => by kernel_rfl
  go_wp2
  exact ⟨rfl, _, rfl, _, results_none rfl _ _ _, rfl, rfl, rfl⟩

theorem catch_idle (p : Nat) (w : World) :
    CallsD Try.prog 68 #[.pointer (some ⟨p, 0, none⟩)] .returning w fun e u' w' => e = .returned (.tuple #[]) ∧ u' = .returning ∧ w' = w := by
  refine callsD_of_wpS Try.func68 rfl fun c₀ cs hu => ?_
  simp only [Try.ntmps68, List.size_toArray, List.length_cons, List.length_nil, Nat.reduceAdd, Nat.reduceSub, Array.replicate_succ,
    Array.replicate_zero, List.push_toArray, List.append_toArray, List.nil_append, List.cons_append]
  apply wpS_seq
  apply wpS_region
  simp [wpOpsS, go_sem, recoverD, hu, Exit.thenS]
  refine wpS_of_wp ?_
  go_wp2
  exact ⟨rfl, .returning, (by cases c₀; simp_all), _, results_none rfl _ _ _, rfl, rfl, rfl⟩

def AttPost (R : Int → World → Prop) (e : Ending) (w2 : World) : Prop := ∃ n, e = .returned (.int .i64 n) ∧ R n w2
def DoPost (s : Nat) (R : Int → World → Prop) (e : Ending) (w1 : World) : Prop :=
  w1.heap[s]? = some (.cells #[.int .i64 0] 36 (0, 0)) ∧ ∃ n, (e = retu ∧ n = 0 ∨ e = refused n) ∧ ∀ w2, Only (· = s) w1 w2 → R n w2

theorem attempt_any (K : Nat) (cap : Array Value) (w : World) (R : Int → World → Prop)
    (hcf : ∀ args W, (callFunc K args).run Try.prog W = .ok (.enter K args) W)
    (h : Calls Try.prog K cap (w.alloc (.cells #[.int .i64 0] 36)) (DoPost w.heap.size R)) :
    Calls Try.prog 52 #[.func (.func K) #[] cap] w (AttPost R) := by
  have hmf : ∀ (fn : Fn) (first cap : Array Value) (w : World), (Instr.makeFunc fn first cap).run Try.prog w = .ok (.func fn first cap) w := fun _ _ _ _ => rfl
  have HK := Lib.hid h; clear h
  go_enter_defers Try.func52, Try.ntmps52
  go_wp2_with fail
  refine HK.out.mono ?_
  rintro e w1 ⟨hb, n, (⟨rfl, rfl⟩ | rfl), hR⟩
  · have hc := blk_cell hb 0
    have hf := blk_free hb 0
    simp only [List.getElem?_toArray, List.getElem?_cons_zero] at hc
    clear hb
    go_wp2_with fail
    refine leaves_cons (f := 68) (args := #[.pointer (some ⟨w.heap.size, 0, none⟩)]) (by simp) (by simp [go_sem]) ?_
    refine (catch_idle w.heap.size _).mono ?_
    rintro e u' w'' ⟨rfl, rfl, rfl⟩
    simp [Leaves, settle, results, Try.results52, go_sem, hc]
    exact ⟨0, rfl, hR _ ((Only.refl (fun k => k = w.heap.size) w1).setCell (.inr rfl) _)⟩
  · have hc := blk_cell hb 0
    have hf := blk_free hb 0
    have hlt := blk_lt hb
    simp only [List.getElem?_toArray, List.getElem?_cons_zero] at hc
    clear hb
    go_wp2_with fail
    refine leaves_cons (f := 68) (args := #[.pointer (some ⟨w.heap.size, 0, none⟩)]) (by simp) (by simp [go_sem]) ?_
    refine (catch_refused w.heap.size 0 n _ hc hf).mono ?_
    rintro e u' w'' ⟨rfl, rfl, rfl⟩
    have hc2 : ((w1.alloc (.cells #[.int .i64 n] 133)).setCell ⟨w.heap.size, 0, none⟩ (.int .i64 n)).cell? ⟨w.heap.size, 0, none⟩ = some (.int .i64 n) :=
      World.cell?_setCell_same _ _ _ ((World.cell?_alloc_lt w1 _ ⟨w.heap.size, 0, none⟩ hlt).trans hc)
    simp only [Leaves, settle, results, Try.results52]
    refine ⟨.int .i64 n, ?_, n, rfl, hR _ (((Only.refl (fun k => k = w.heap.size) w1).alloc _).setCell (.inr rfl) _)⟩
    simp [results, Try.results52, go_sem, hc, hlt]
end Go.Proofs.Ytgjemjogncnbnaa.Seq
