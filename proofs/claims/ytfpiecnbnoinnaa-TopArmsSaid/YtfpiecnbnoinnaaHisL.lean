/- The real side: what gives up, and an event on an attempt's own log. -/
import Derived.Test.YtfpiecnbnoinnaaHisK
import Derived.Test.YtfpiecnbnoinnaaHisG
import Derived.Test.YtfpiecnbnoinnaaMap
import Derived.WalkLawsBesides
import Derived.LaidEqlPtr
import Derived.Handy
namespace Go.Proofs.Ytfpiecnbnoinnaa.His
open Go.RowKit Go.Proofs.Ytfpiecnbnoinnaa.Wri
set_option linter.unusedSimpArgs false
set_option linter.unusedVariables false
set_option maxRecDepth 50000

abbrev evV (x : Ev) : Value := .agg #[.int .u8 x.k, .int .i64 x.a, .int .i64 x.t, .int .u64 x.v]
abbrev wrongP : List PanicEntry := [{ v := .iface 64 (.agg #[]), recovered := false }]
theorem need_yes (w : World) : Calls Try.prog 53 #[.bool true] w fun e w' => e = .returned (.tuple #[]) ∧ w = w' := by
  go_enter Try.func53, Try.ntmps53
  go_wp2_with fail
  exact bodyPost_end (results_none rfl _ _ _) rfl ⟨rfl, rfl⟩
theorem need_no (w : World) : Calls Try.prog 53 #[.bool false] w fun e w' => e = .panicked wrongP ∧ w = w' := by
  go_enter Try.func53, Try.ntmps53
  go_wp2_with fail
  exact ⟨rfl, rfl, rfl⟩
theorem bare_any (w : World) (x : Ev) : Calls Try.prog 54 #[evV x] w fun e w' => e = .returned (.bool (bareE x)) ∧ Below w.heap.size w w' := by
  unfold bareE
  obtain ⟨xk, xa, xt, xv⟩ := x
  simp only at *
  cases e1 : (xt == 0) <;> cases e2 : (xv == 0)
  all_goals
    go_enter Try.func54, Try.ntmps54
    go_wp2_with fail
    go_ret
    exact ⟨rfl, by repeat (first | (with_reducible exact Below.refl _ _) | (with_reducible apply Below.drew) | (with_reducible refine below_drewN ?_ _) | (with_reducible refine below_alloc' ?_ ?_ _; (focus ((try simp) <;> omega))) | (with_reducible refine below_set' ?_ ?_ _; (focus ((try simp) <;> omega))))⟩
/-- an attempt in memory -/
structure AttAt (w : World) (p q : Nat) (a : Att) : Prop where
  blk : w.heap[p]? = some (.cells #[ptr q, .bool a.tried, .bool a.ended] 93 (0, 0))
  log : LAt w q a.fs
  well : WellS a.fs
theorem LAt.blk {w : World} {q : Nat} {fs : List Frm} (h : LAt w q fs) : ∃ cs, w.heap[q]? = some (.cells cs 79 (0, 0)) := by
  obtain ⟨xs, _, o, h, _⟩ := h
  exact ⟨_, h⟩
theorem AttAt.below {w w' : World} {p q : Nat} {a : Att} (h : AttAt w p q a) (l : Below w.heap.size w w') : AttAt w' p q a := ⟨bblk l h.blk, h.log.below l, h.well⟩
theorem AttAt.ne {w : World} {p q p' q' : Nat} {a a' : Att} (h : AttAt w p q a) (k : AttAt w p' q' a') : p ≠ q' := by
  rintro rfl
  obtain ⟨cs, hq⟩ := LAt.blk k.log
  rw [h.blk] at hq
  injection hq with hq
  injection hq with _ hq _
  revert hq
  decide
theorem AttAt.strange {w w' : World} {S : Nat → Prop} {p q : Nat} {a : Att} (h : AttAt w p q a) (ho : Only S w w') (hs : Strange w S) (hp : ¬ S p) (hq : ¬ S q) : AttAt w' p q a := ⟨ho.blk h.blk hp, h.log.strange ho hs hq, h.well⟩
theorem AttAt.odd {w : World} {p q : Nat} {a : Att} (h : AttAt w p q a) : Strange w (fun k => k = p ∨ k = q) := fun k hk => by
  rcases hk with rfl | rfl
  · exact .inr ⟨_, _, _, h.blk, by decide, by decide, by decide⟩
  · exact h.log.odd _ rfl
def ActPost (w : World) (p q : Nat) (a : Att) (x : Ev) (e : Ending) (w' : World) : Prop :=
  e = .returned (.int .i64 (actN a.fs x)) ∧ AttAt w' p q ⟨actS a.fs x, a.tried, a.ended⟩ ∧ Only (fun k => k = q) w w'
theorem ActPost.of {w W w1 : World} {p q : Nat} {a : Att} {x : Ev} {n : Int} {fs : List Frm} (h : AttAt W p q a) (lW : Below w.heap.size w W) (hn : actN a.fs x = n) (hf : actS a.fs x = fs) (o : Only (fun k => k = q) W w1) (m : LAt w1 q fs) : ActPost w p q a x (.returned (.int .i64 n)) w1 := by
  subst hn hf
  refine ⟨rfl, ⟨o.blk h.blk (h.ne h), m, WellS.act h.well x⟩, (Only.of_below lW (fun k hk e => ?_)).trans o⟩
  omega
set_option maxHeartbeats 1600000 in
theorem hact_any (w : World) (p q : Nat) (a : Att) (x : Ev) (h : AttAt w p q a) (hv : 0 ≤ x.v ∧ x.v < 18446744073709551616) :
    Calls Try.prog 55 #[ptr p, evV x] w (ActPost w p q a x) := by
  have hplt := blk_lt h.blk
  obtain ⟨xk, xa, xt, xv⟩ := x
  simp only at hv
  obtain ⟨W, hWdef⟩ : ∃ W, w.alloc (.cells #[.int .u8 xk, .int .i64 xa, .int .i64 xt, .int .u64 xv] 52) = W := ⟨_, rfl⟩; have lW : Below w.heap.size w W := by rw [← hWdef]; repeat (first | (with_reducible exact Below.refl _ _) | (with_reducible apply Below.drew) | (with_reducible refine below_drewN ?_ _) | (with_reducible refine below_alloc' ?_ ?_ _; (focus ((try simp) <;> omega))) | (with_reducible refine below_set' ?_ ?_ _; (focus ((try simp) <;> omega))))
  have hW := h.below lW
  have p0 := blk_cell hW.blk 0
  simp only [List.getElem?_toArray, List.getElem?_cons_zero] at p0
  have c0 : W.cell? ⟨w.heap.size, 0, none⟩ = some (.int .u8 xk) := by rw [← hWdef]; simp
  have c2 : W.cell? ⟨w.heap.size, 2, none⟩ = some (.int .i64 xt) := by rw [← hWdef]; simp
  have c3 : W.cell? ⟨w.heap.size, 3, none⟩ = some (.int .u64 xv) := by rw [← hWdef]; simp
  have HW := Lib.hid hW; have LW := Lib.hid lW; have HV := Lib.hid hv; have HWD := Lib.hid hWdef
  have HWd := Lib.hid (h.below lW.drew)
  have LWd := Lib.hid (show Below w.heap.size w W.drew from lW.drew)
  have hpq : p ≠ q := h.ne h
  have hqlt : q < w.heap.size := by obtain ⟨cs, hc⟩ := LAt.blk h.log; exact blk_lt hc
  have p0w := blk_cell h.blk 0
  simp only [List.getElem?_toArray, List.getElem?_cons_zero] at p0w
  have hpn : ¬ p = w.heap.size := by omega
  clear h hW lW hv hWdef
  by_cases h3 : xk = 3
  · subst h3
    have KO := Lib.hid (show ∀ w', Only (fun j => j = q) W.drew w' → w'.cell? ⟨p, 0, none⟩ = some (ptr q) ∧ w'.cell? ⟨w.heap.size, 2, none⟩ = some (.int .i64 xt) ∧ w'.cell? ⟨w.heap.size, 3, none⟩ = some (.int .u64 xv) from fun w' h => ⟨h.cell (w := W.drew) p0 (by show ¬ p = q; omega), h.cell (w := W.drew) c2 (by show ¬ w.heap.size = q; omega), h.cell (w := W.drew) c3 (by show ¬ w.heap.size = q; omega)⟩)
    have hS0 := KO.out W.drew (Only.refl _ _)
    go_enter Try.func55, Try.ntmps55
    go_wp2_with fail
    rw [HWD.out]
    go_wp2_with fail
    go_region_held3 (fun w' => w'.cell? ⟨p, 0, none⟩ = some (ptr q) ∧ w'.cell? ⟨w.heap.size, 2, none⟩ = some (.int .i64 xt) ∧ w'.cell? ⟨w.heap.size, 3, none⟩ = some (.int .u64 xv)) (first | (with_reducible exact hS0) | (with_reducible exact QB)) ((go_at_call 32; (with_reducible refine Calls.mono (lput_p HWd.out.log HWd.out.well xt xv HV.out) ?_); rintro e w4 ⟨rfl, o4, m4⟩; have QB := KO.out w4 o4))
    have HF := Lib.hid (ActPost.of (x := ⟨3, xa, xt, xv⟩) HWd.out LWd.out rfl rfl o4 m4)
    clear QB o4 m4 hS0 p0 c2 c3
    have HN := Lib.hid (show actN a.fs ⟨3, xa, xt, xv⟩ = putN a.fs xt xv from rfl)
    go_wp2_with fail
    go_ret
    exact HF.out
  have q3 : (xk == 3) = false := by simpa using h3
  by_cases h4 : xk = 4
  · subst h4
    go_enter Try.func55, Try.ntmps55; go_wp2_with fail; rw [HWD.out]; (try go_wp2_with fail); refine (lpush_p HW.out.log).mono ?_; rintro e w4 ⟨rfl, o4, m4⟩; have HF := Lib.hid (ActPost.of (x := ⟨4, xa, xt, xv⟩) HW.out LW.out rfl rfl o4 m4); clear o4 m4; go_wp2_with fail; go_ret; exact HF.out
  have q4 : (xk == 4) = false := by simpa using h4
  by_cases h5 : xk = 5
  · subst h5
    go_enter Try.func55, Try.ntmps55; go_wp2_with fail; rw [HWD.out]; (try go_wp2_with fail); refine (ldrop_p HW.out.log).mono ?_; rintro e w4 ⟨rfl, o4, m4⟩; have HF := Lib.hid (ActPost.of (x := ⟨5, xa, xt, xv⟩) HW.out LW.out rfl rfl o4 m4); clear o4 m4; go_wp2_with fail; go_ret; exact HF.out
  have q5 : (xk == 5) = false := by simpa using h5
  by_cases h6 : xk = 6
  · subst h6
    go_enter Try.func55, Try.ntmps55; go_wp2_with fail; rw [HWD.out]; (try go_wp2_with fail); refine (lmerge_p HW.out.log HW.out.well).mono ?_; rintro e w4 ⟨rfl, o4, m4⟩; have HF := Lib.hid (ActPost.of (x := ⟨6, xa, xt, xv⟩) HW.out LW.out rfl rfl o4 m4); clear o4 m4; go_wp2_with fail; go_ret; exact HF.out
  have q6 : (xk == 6) = false := by simpa using h6
  have HF := Lib.hid (ActPost.of (x := ⟨xk, xa, xt, xv⟩) (n := 0) (fs := a.fs) HW.out LW.out (by simp [actN, h3, h4, h5, h6]) (by simp [actS, h3, h4, h5, h6]) (Only.refl _ _) HW.out.log)
  clear h3 h4 h5 h6
  go_enter Try.func55, Try.ntmps55
  go_wp2_with fail
  go_ret
  rw [HWD.out]
  exact HF.out
end Go.Proofs.Ytfpiecnbnoinnaa.His
