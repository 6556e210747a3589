/- The real side: Right, which gives up by a panic and recovers. -/
import Derived.Test.YtfpiecnbnoinnaaHisO
import Derived.WalkKit
import Derived.Defers
import Derived.Recover
namespace Go.Proofs.Ytfpiecnbnoinnaa.His
open Go.RowKit Go.Proofs.Ytfpiecnbnoinnaa.Wri
set_option linter.unusedSimpArgs false
set_option linter.unusedVariables false
set_option maxRecDepth 50000

theorem rd_idle (p : Addr) (w : World) :
    CallsD Try.prog 34 #[.pointer (some p)] .returning w fun e u' w' => e = .returned (.tuple #[]) ∧ u' = .returning ∧ w' = w := by
  refine callsD_of_wpS Try.func34 rfl fun c₀ cs hu => ?_
  apply wpS_seq
  apply wpS_region
  simp [wpOpsS, go_sem, recoverD, hu, Try.ntmps34, Exit.thenS]
  refine wpS_of_wp ?_
  go_wp2
  cases c₀
  simp_all [bodyPostS, results, Try.results34]
theorem as_wrong (v : Value) (w : World) : (Instr.typeAssert (.iface 64 v) 20 64 true).run Try.prog w = .ok (.tuple #[v, .bool true]) w := by kernel_rfl
set_option maxHeartbeats 1600000 in
theorem rd_panic (p : Nat) (w : World) (b : Bool) (hb : w.heap[p]? = some (.cells #[.bool b] 4 (0, 0))) :
    CallsD Try.prog 34 #[ptr p] (.panicking wrongP) w fun e u' w' =>
      e = .returned (.tuple #[]) ∧ u' = .panicking [{ v := .iface 64 (.agg #[]), recovered := true }] ∧ w'.heap[p]? = some (.cells #[.bool false] 4 (0, 0)) ∧ Only (fun k => k = p) w w' := by
  have hta := as_wrong
  have lW : Below w.heap.size w (w.alloc (.cells #[] 64)) := by repeat (first | (with_reducible exact Below.refl _ _) | (with_reducible apply Below.drew) | (with_reducible refine below_drewN ?_ _) | (with_reducible refine below_alloc' ?_ ?_ _; (focus ((try simp) <;> omega))) | (with_reducible refine below_set' ?_ ?_ _; (focus ((try simp) <;> omega))))
  have hbW := bblk lW hb
  have hz := blk_free hbW 0
  have hc := blk_cell hbW 0
  simp only [List.getElem?_toArray, List.getElem?_cons_zero] at hc
  have hE : (w.alloc (.cells #[] 64)).setCell ⟨p, 0, none⟩ (.bool false) = (w.alloc (.cells #[] 64)).setCell ⟨p, 0, none⟩ (.bool false) := rfl
  have hfin : ((w.alloc (.cells #[] 64)).setCell ⟨p, 0, none⟩ (.bool false)).heap[p]? = some (.cells #[.bool false] 4 (0, 0)) ∧ Only (fun k => k = p) w ((w.alloc (.cells #[] 64)).setCell ⟨p, 0, none⟩ (.bool false)) :=
    ⟨blk_set hbW 0 (.bool false), ((Only.refl (fun k => k = p) w).alloc _).setCell (p := ⟨p, 0, none⟩) (.inr rfl) _⟩
  have HF := Lib.hid hfin
  clear hfin hE
  refine callsD_of_wpS Try.func34 rfl fun c₀ cs hu => ?_
  apply wpS_seq
  apply wpS_region
  simp [wpOpsS, go_sem, recoverD, hu, Try.ntmps34, Exit.thenS]
  simp only [Array.replicate, List.replicate, List.setIfInBounds_toArray, List.set_cons_succ, List.set_cons_zero, List.append_toArray, List.cons_append, List.nil_append]
  refine wpS_of_wp ?_
  go_wp2
  refine ⟨rfl, _, rfl, _, results_none rfl _ _ _, rfl, rfl, ?_⟩
  exact HF.out
def EvsOk (l : List Ev) : Prop := ∀ x ∈ l, inInt x.a ∧ 0 ≤ x.v ∧ x.v < 18446744073709551616
theorem updA_st {l : List Ev} {k : Nat} {x : Ev} {a : Att} (hx : l[k]? = some x) (hg : Good (l.take k)) (hs : stepA (stA (l.take k) x.a) x = some a) : updA (stA (l.take k)) x.a a = stA (l.take (k + 1)) ∧ Good (l.take (k + 1)) := by
  have h1 : (stepA (stA (l.take k) x.a) x).isSome = true := by rw [hs]; rfl
  rw [take_at hx]
  refine ⟨?_, good_snoc hg h1⟩
  funext n
  rw [stA_step hg h1]
  unfold updA
  rw [hs]
theorem good_no {l : List Ev} {k : Nat} {x : Ev} (hx : l[k]? = some x) (hs : stepA (stA (l.take k) x.a) x = none) : goodL l = false := by
  cases h : goodL l with
  | false => rfl
  | true =>
    have := (goodL_iff l).1 h k x hx
    rw [hs] at this
    cases this
set_option maxHeartbeats 3200000 in
theorem right_any (w : World) (p : Option Addr) (n c : Nat) (l : List Ev) (h : EvsIn w p n l) (hok : EvsOk l) (hn : n ≤ 400) :
    Calls Try.prog 10 #[.slice p n c] w fun e w' => e = .returned (.bool (goodL l)) ∧ Below w.heap.size w w' := by
  have H := Lib.hid h; have HL := Lib.hid h.1; have HOK := Lib.hid hok
  have hmf : ∀ (fn : Fn) (first cap : Array Value) (w : World), (Instr.makeFunc fn first cap).run Try.prog w = .ok (.func fn first cap) w := fun _ _ _ _ => rfl
  have d4 : decide ((400 : Int) < n) = false := by simp; omega
  obtain ⟨r, hr⟩ : ∃ r, goodL l = r := ⟨_, rfl⟩
  have HR := Lib.hid hr
  rw [hr]
  have hmm := @run_makeMap Try.prog
  have HB0 := Lib.hid (show ((w.alloc (.cells #[.bool false] 4)).alloc (.map #[] 0)).heap[w.heap.size]? = some (.cells #[.bool false] 4 (0, 0)) ∧ Below w.heap.size w ((w.alloc (.cells #[.bool false] 4)).alloc (.map #[] 0)) ∧ Ents (w.heap.size + 1) ((w.alloc (.cells #[.bool false] 4)).alloc (.map #[] 0)) (w.heap.size + 1) 0 (stA []) from by
    refine ⟨by simp [↓heap_alloc_eq, ↓heap_set_eq, ↓heap_drew_eq, ↓heap_drewN_eq, setObj, size_drewN], by repeat (first | (with_reducible exact Below.refl _ _) | (with_reducible apply Below.drew) | (with_reducible refine below_drewN ?_ _) | (with_reducible refine below_alloc' ?_ ?_ _; (focus ((try simp) <;> omega))) | (with_reducible refine below_set' ?_ ?_ _; (focus ((try simp) <;> omega)))), fun _ => none, ?_, fun t => rfl, fun t e a h => (by cases h), fun t s e f h => (by cases h), Nat.le_refl _⟩
    have := MapIs.made Try.prog 3 (w.alloc (.cells #[.bool false] 4))
    rw [show (w.alloc (.cells #[.bool false] 4)).heap.size = w.heap.size + 1 by simp] at this
    exact this)
  clear h hok hr
  go_enter_defers Try.func10, Try.ntmps10
  go_wp2_with fail
  go_loopw [13] (fun i wr => ∃ k : Nat, i = .int .i64 k ∧ k ≤ n ∧ wr.heap[w.heap.size]? = some (.cells #[.bool false] 4 (0, 0)) ∧ Below w.heap.size w wr ∧ Ents (w.heap.size + 1) wr (w.heap.size + 1) k (stA (l.take k)) ∧ Good (l.take k)) (fun i _ => n - (intOf i).toNat)
  case atStart => exact ⟨0, rfl, Nat.zero_le _, HB0.out.1, HB0.out.2.1, HB0.out.2.2, fun i x h => by simp at h⟩
  case round =>
    obtain ⟨k, rfl, hk, hb, hB, hE, hG⟩ := hrel
    have HBK := Lib.hid hb; have HB := Lib.hid hB; have HE := Lib.hid hE; have HG := Lib.hid hG
    have hsz := blk_lt hb
    clear hB hE hG hb
    by_cases hlt : k < n
    · obtain ⟨g, off, rfl, hc⟩ := H.out.2.resolve_left (by omega)
      obtain ⟨x, hx, c0, c1, c2, c3⟩ := hc k hlt
      replace c0 := bkeep HB.out c0; replace c1 := bkeep HB.out c1; replace c2 := bkeep HB.out c2; replace c3 := bkeep HB.out c3
      have hw1 : IntKind.i64.wrap ((k : Int) + 1) = (k : Int) + 1 := by rw [IntKind.wrap_i64]; omega
      have hxo := HOK.out x (List.mem_of_getElem? hx)
      obtain ⟨xk, xa, xt, xv⟩ := x
      simp only at c0 c1 c2 c3 hxo
      have HX := Lib.hid hx; have HXO := Lib.hid hxo
      clear hc hx hxo
      have lX : Below wr.heap.size wr (wr.alloc (.cells #[.int .u8 xk, .int .i64 xa, .int .i64 xt, .int .u64 xv] 52)) := by repeat (first | (with_reducible exact Below.refl _ _) | (with_reducible apply Below.drew) | (with_reducible refine below_drewN ?_ _) | (with_reducible refine below_alloc' ?_ ?_ _; (focus ((try simp) <;> omega))) | (with_reducible refine below_set' ?_ ?_ _; (focus ((try simp) <;> omega))))
      have hTK := take_any (w.heap.size + 1) (w.heap.size + 1) k (stA (l.take k)) ⟨xk, xa, xt, xv⟩ _ (HE.out.below lX) (by have := lX.size; omega) (by omega) HXO.out.1 HXO.out.2
      have HLX := Lib.hid (btrans HB.out (Nat.le_refl _) lX)
      have HBX := Lib.hid (bblk lX HBK.out)
      have HTK := Lib.hid hTK
      clear hTK lX
      cases hs : stepA (stA (l.take k) xa) ⟨xk, xa, xt, xv⟩ with
      | some a =>
        obtain ⟨u1, u2⟩ := updA_st HX.out HG.out hs
        have HTK2 := Lib.hid (HTK.out.mono (R' := fun e w' => e = .returned (.tuple #[]) ∧ Below (w.heap.size + 1) (wr.alloc (.cells #[.int .u8 xk, .int .i64 xa, .int .i64 xt, .int .u64 xv] 52)) w' ∧ Ents (w.heap.size + 1) w' (w.heap.size + 1) (k + 1) (stA (l.take (k + 1)))) (fun e w' hp => by
          obtain ⟨h1, h2⟩ := hp
          rw [show stA (l.take k) (Ev.a ⟨xk, xa, xt, xv⟩) = stA (l.take k) xa from rfl, hs] at h2
          rw [← u1]
          exact ⟨h2.1, h1, h2.2⟩))
        have HG2 := Lib.hid u2
        clear u1 u2 hs HTK
        go_wp2_with fail
        refine HTK2.out.mono ?_
        rintro e w5 ⟨rfl, l5, e5⟩
        have HB5 := Lib.hid (HLX.out.trans (l5.mono (Nat.le_succ _)))
        have HK5 := Lib.hid ((l5.block w.heap.size (Nat.lt_succ_self _)).trans HBX.out)
        have HE5 := Lib.hid e5
        clear l5 e5
        go_wp2_with fail
        exact ⟨⟨k + 1, by go_num, by omega, HK5.out, HB5.out, HE5.out, HG2.out⟩, by simp [intOf]; omega⟩
      | none =>
        have HT := Lib.hid (show r = false by rw [← HR.out]; exact good_no HX.out hs)
        have HTK2 := Lib.hid (HTK.out.mono (R' := fun e w' => e = .panicked wrongP ∧ Below (w.heap.size + 1) (wr.alloc (.cells #[.int .u8 xk, .int .i64 xa, .int .i64 xt, .int .u64 xv] 52)) w') (fun e w' hp => by
          obtain ⟨h1, h2⟩ := hp
          rw [show stA (l.take k) (Ev.a ⟨xk, xa, xt, xv⟩) = stA (l.take k) xa from rfl, hs] at h2
          exact ⟨h2, h1⟩))
        clear hs HTK
        go_wp2_with fail
        refine HTK2.out.mono ?_
        rintro e w5 ⟨rfl, l5⟩
        have HB5 := Lib.hid (HLX.out.trans (l5.mono (Nat.le_succ _)))
        have HK5 := Lib.hid ((l5.block w.heap.size (Nat.lt_succ_self _)).trans HBX.out)
        clear l5
        go_wp2_with fail
        refine leaves_cons (f := 34) (args := #[.pointer (some ⟨w.heap.size, 0, none⟩)]) (by simp) (by simp [go_sem]) ?_
        refine (rd_panic _ _ false HK5.out).mono ?_
        rintro e u' w6 ⟨rfl, rfl, h6, o6⟩
        have c6 := blk_cell h6 0
        simp only [List.getElem?_toArray, List.getElem?_cons_zero] at c6
        have HF := Lib.hid (show Below w.heap.size w w6 from HB5.out.trans (o6.lo (fun k e => by omega) HB5.out.size))
        clear o6 h6
        simp [Leaves, settle, results, Try.results10, go_sem, c6]
        exact ⟨HT.out, HF.out⟩
    · obtain rfl : k = n := by omega
      have hg := HG.out
      rw [List.take_of_length_le (by rw [HL.out]; exact Nat.le_refl _)] at hg
      have HT := Lib.hid (show r = true by rw [← HR.out]; exact (goodL_iff l).2 hg)
      have c5 := blk_cell HBK.out 0; have f5 := blk_free HBK.out 0
      simp only [List.getElem?_toArray, List.getElem?_cons_zero] at c5
      clear hg
      go_wp2_with fail
      refine leaves_cons (f := 34) (args := #[.pointer (some ⟨w.heap.size, 0, none⟩)]) (by simp) (by simp [go_sem]) ?_
      refine (rd_idle _ _).mono ?_
      rintro e u' w6 ⟨rfl, rfl, rfl⟩
      have h6 := blk_set HBK.out 0 (.bool true)
      have c6 := blk_cell h6 0
      have c7 : (wr.setCell ⟨w.heap.size, 0, none⟩ (.bool true)).cell? ⟨w.heap.size, 0, none⟩ = some (.bool true) := c6
      have HF := Lib.hid (show Below w.heap.size w (wr.setCell ⟨w.heap.size, 0, none⟩ (.bool true)) from HB.out.trans (((Only.refl (fun k => k = w.heap.size) wr).setCell (p := ⟨w.heap.size, 0, none⟩) (.inr rfl) _).lo (fun k e => by omega) HB.out.size))
      clear c6 h6
      simp [Leaves, settle, results, Try.results10, go_sem, c7]
      exact ⟨HT.out, HF.out⟩
end Go.Proofs.Ytfpiecnbnoinnaa.His
