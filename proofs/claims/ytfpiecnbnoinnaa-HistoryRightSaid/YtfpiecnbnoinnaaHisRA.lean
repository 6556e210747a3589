/- The document's side: an event on an attempt's own log, the log behind the first events. -/
import Derived.Test.YtfpiecnbnoinnaaHisL
import Derived.Test.YtfpiecnbnoinnaaHisB
namespace Go.Proofs.Ytfpiecnbnoinnaa.His
open Go.RowKit Go.Proofs.Ytfpiecnbnoinnaa.Wri
set_option linter.unusedSimpArgs false
set_option linter.unusedVariables false
set_option maxRecDepth 50000

def RActPost (w : World) (q : Nat) (fs : List Frm) (x : Ev) (e : Ending) (w' : World) : Prop :=
  e = .returned (.int .i64 (actN fs x)) ∧ RAt w' q (actS fs x) ∧ Only (fun k => k = q) w w'
theorem RActPost.of {w W w1 : World} {q : Nat} {fs0 : List Frm} {x : Ev} {n : Int} {fs : List Frm} (hq : q < w.heap.size) (lW : Below w.heap.size w W) (hn : actN fs0 x = n) (hf : actS fs0 x = fs) (o : Only (fun k => k = q) W w1) (m : RAt w1 q fs) : RActPost w q fs0 x (.returned (.int .i64 n)) w1 := by
  subst hn hf
  refine ⟨rfl, m, (Only.of_below lW (fun k hk e => ?_)).trans o⟩
  omega
set_option maxHeartbeats 1600000 in
theorem ract_any (w : World) (q : Nat) (fs : List Frm) (x : Ev) (h : RAt w q fs) (hi : WellS fs) (hv : 0 ≤ x.v ∧ x.v < 18446744073709551616) :
    Calls Try.prog 63 #[ptr q, evV x] w (RActPost w q fs x) := by
  have hqlt := RLogAt.lt h
  obtain ⟨xk, xa, xt, xv⟩ := x
  simp only at hv
  obtain ⟨W, hWdef⟩ : ∃ W, w.alloc (.cells #[.int .u8 xk, .int .i64 xa, .int .i64 xt, .int .u64 xv] 52) = W := ⟨_, rfl⟩
  have lW : Below w.heap.size w W := by rw [← hWdef]; repeat (first | (with_reducible exact Below.refl _ _) | (with_reducible apply Below.drew) | (with_reducible refine below_drewN ?_ _) | (with_reducible refine below_alloc' ?_ ?_ _; (focus ((try simp) <;> omega))) | (with_reducible refine below_set' ?_ ?_ _; (focus ((try simp) <;> omega))))
  have HW := Lib.hid (h.below lW); have LW := Lib.hid lW; have HV := Lib.hid hv; have HWD := Lib.hid hWdef; have HI := Lib.hid hi
  clear h lW hv hWdef hi
  by_cases h3 : xk = 3
  · subst h3
    go_enter Try.func63, Try.ntmps63; go_wp2_with fail; rw [HWD.out]; (try go_wp2_with fail); refine (rput_p HW.out HI.out xt xv HV.out).mono ?_; rintro e w4 ⟨rfl, o4, m4⟩; have HF := Lib.hid (RActPost.of (x := ⟨3, xa, xt, xv⟩) hqlt LW.out rfl rfl o4 m4); clear o4 m4; go_wp2_with fail; go_ret; exact HF.out
  have q3 : (xk == 3) = false := by simpa using h3
  by_cases h4 : xk = 4
  · subst h4
    go_enter Try.func63, Try.ntmps63; go_wp2_with fail; rw [HWD.out]; (try go_wp2_with fail); refine (rpush_p HW.out).mono ?_; rintro e w4 ⟨rfl, o4, m4⟩; have HF := Lib.hid (RActPost.of (x := ⟨4, xa, xt, xv⟩) hqlt LW.out rfl rfl o4 m4); clear o4 m4; go_wp2_with fail; go_ret; exact HF.out
  have q4 : (xk == 4) = false := by simpa using h4
  by_cases h5 : xk = 5
  · subst h5
    go_enter Try.func63, Try.ntmps63; go_wp2_with fail; rw [HWD.out]; (try go_wp2_with fail); refine (rdrop_p HW.out).mono ?_; rintro e w4 ⟨rfl, o4, m4⟩; have HF := Lib.hid (RActPost.of (x := ⟨5, xa, xt, xv⟩) hqlt LW.out rfl rfl o4 m4); clear o4 m4; go_wp2_with fail; go_ret; exact HF.out
  have q5 : (xk == 5) = false := by simpa using h5
  by_cases h6 : xk = 6
  · subst h6
    go_enter Try.func63, Try.ntmps63; go_wp2_with fail; rw [HWD.out]; (try go_wp2_with fail); refine (rmerge_p HW.out HI.out).mono ?_; rintro e w4 ⟨rfl, o4, m4⟩; have HF := Lib.hid (RActPost.of (x := ⟨6, xa, xt, xv⟩) hqlt LW.out rfl rfl o4 m4); clear o4 m4; go_wp2_with fail; go_ret; exact HF.out
  have q6 : (xk == 6) = false := by simpa using h6
  have HF := Lib.hid (RActPost.of (fs0 := fs) (x := ⟨xk, xa, xt, xv⟩) (n := 0) (fs := fs) hqlt LW.out (by simp [actN, h3, h4, h5, h6]) (by simp [actS, h3, h4, h5, h6]) (Only.refl _ _) HW.out)
  clear h3 h4 h5 h6
  go_enter Try.func63, Try.ntmps63
  go_wp2_with fail
  go_ret
  rw [HWD.out]
  exact HF.out
theorem ract_n (w : World) (q : Nat) (fs : List Frm) (x : Ev) (n : Int) (h : RAt w q fs) (hi : WellS fs) (hv : 0 ≤ x.v ∧ x.v < 18446744073709551616) (hn : actN fs x = n) :
    Calls Try.prog 63 #[ptr q, evV x] w fun e w' => e = .returned (.int .i64 n) ∧ RAt w' q (actS fs x) ∧ Only (fun k => k = q) w w' := by
  subst hn
  exact ract_any w q fs x h hi hv
theorem ownL_take {l : List Ev} {k : Nat} {x : Ev} (hx : l[k]? = some x) (n : Int) : ownL (l.take (k + 1)) n = if x.a = n then actS (ownL (l.take k) n) x else ownL (l.take k) n := by
  rw [take_at hx, ownL_snoc]
set_option maxHeartbeats 1600000 in
theorem rown_any (w : World) (p : Option Addr) (n c : Nat) (l : List Ev) (h : EvsIn w p n l) (hok : ∀ x ∈ l, 0 ≤ x.v ∧ x.v < 18446744073709551616) (hn : n ≤ 1000000) (m : Nat) (hm : m ≤ n) (t : Int) :
    Calls Try.prog 61 #[.slice p n c, .int .i64 m, .int .i64 t] w fun e w' => ∃ q, e = .returned (ptr q) ∧ RAt w' q (ownL (l.take m) t) ∧ w.heap.size ≤ q ∧ Below w.heap.size w w' := by
  have H := Lib.hid h; have HOK := Lib.hid hok
  clear h hok
  go_enter Try.func61, Try.ntmps61
  go_wp2_with fail
  refine (rnew_any _).mono ?_
  rintro e w1 ⟨q, rfl, hq, hr, l1⟩
  have HR1 := Lib.hid (show RAt w1 q [[]] from hr); have L1 := Lib.hid l1
  clear hr l1
  go_wp2_with fail
  go_loopw [8] (fun i wr => ∃ k : Nat, i = .int .i64 k ∧ k ≤ m ∧ RAt wr q (ownL (l.take k) t) ∧ Below w.heap.size w wr) (fun i _ => m - (intOf i).toNat)
  case atStart => exact ⟨0, rfl, Nat.zero_le _, HR1.out, L1.out⟩
  case round =>
    obtain ⟨k, rfl, hk, hR, hB⟩ := hrel
    have HR := Lib.hid hR; have HB := Lib.hid hB
    clear hR hB
    by_cases hlt : k < m
    · obtain ⟨g, off, rfl, hc⟩ := H.out.2.resolve_left (by omega)
      obtain ⟨x, hx, c0, c1, c2, c3⟩ := hc k (by omega)
      replace c0 := bkeep HB.out c0; replace c1 := bkeep HB.out c1; replace c2 := bkeep HB.out c2; replace c3 := bkeep HB.out c3
      have hw1 : IntKind.i64.wrap ((k : Int) + 1) = (k : Int) + 1 := by rw [IntKind.wrap_i64]; omega
      have HO := Lib.hid (ownL_take hx t)
      have hkn : (k : Int) < n := by omega
      have hkn2 : k < n := by omega
      have HV := Lib.hid (HOK.out x (List.mem_of_getElem? hx))
      obtain ⟨xk, xa, xt, xv⟩ := x
      simp only at c0 c1 c2 c3
      clear hc hx
      cases e1 : (xa == t)
      · have HO2 := Lib.hid (show ownL (l.take (k + 1)) t = ownL (l.take k) t by rw [HO.out]; exact if_neg (by simpa using e1))
        go_wp2_with fail
        exact ⟨⟨k + 1, by go_num, by omega, by rw [HO2.out]; exact HR.out, HB.out⟩, by simp [intOf]; omega⟩
      · have HO2 := Lib.hid (show ownL (l.take (k + 1)) t = actS (ownL (l.take k) t) ⟨xk, xa, xt, xv⟩ by rw [HO.out]; exact if_pos (by simpa using e1))
        have HA := Lib.hid (ract_any wr q _ ⟨xk, xa, xt, xv⟩ HR.out (ownL_well _ _) HV.out)
        go_wp2_with fail
        refine HA.out.mono ?_
        rintro e w5 ⟨rfl, m5, o5⟩
        have HM5 := Lib.hid m5
        have HB5 := Lib.hid (HB.out.trans (o5.lo (fun k e => by omega) HB.out.size))
        clear m5 o5
        go_wp2_with fail
        exact ⟨⟨k + 1, by go_num, by omega, by rw [HO2.out]; exact HM5.out, HB5.out⟩, by simp [intOf]; omega⟩
    · obtain rfl : k = m := by omega
      go_wp2_with fail
      go_ret
      exact ⟨q, rfl, HR.out, hq, HB.out⟩
end Go.Proofs.Ytfpiecnbnoinnaa.His
