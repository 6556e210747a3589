/- The statements' events; what is told of an attempt. -/
import Derived.Test.YtfpiecnbnoinnaaHisT
import Derived.Test.YtfpiecnbnoinnaaHisE
namespace Go.Proofs.Ytfpiecnbnoinnaa.His
open Go.RowKit Go.Proofs.Ytfpiecnbnoinnaa.Wri Go.ChangeShapes Go.WideShapes Go.ChangeAt
set_option linter.unusedSimpArgs false
set_option linter.unusedVariables false
set_option maxRecDepth 50000

instance : Inhabited Ev := ⟨⟨0, 0, 0, 0⟩⟩
theorem fits_cap {H : Type} {enc : TypeId × Value → H} {P : Program} {w : World} {t e : TypeId} {a : Option Addr} {len cap : Nat} (h : Fits enc P w t [.slice a len cap]) (ht : P.underlying t = some (.slice e)) : len ≤ cap := by
  obtain ⟨n, x, h⟩ := h
  rcases Go.Deep.open_slice ht h with ⟨h0, _⟩ | ⟨a', len', cap', m, n', D, Pl, hcs, _, hl, _⟩
  · injection h0 with h0
    injection h0 with _ h1 h2
    omega
  · injection hcs with hcs
    injection hcs with _ h1 h2
    omega
theorem cells_event : Try.prog.cellsOf 52 = 4 := by kernel_rfl
def EvV (x : Ev) : Prop := inInt x.a ∧ 0 ≤ x.v ∧ x.v < 18446744073709551616
theorem event_of {H : Type} {enc : TypeId × Value → H} {w : World} {cs : List Value} (h : Fits enc Try.prog w 52 cs) : ∃ x : Ev, cs = [.int .u8 x.k, .int .i64 x.a, .int .i64 x.t, .int .u64 x.v] ∧ EvV x := by
  obtain ⟨hl, hf⟩ := h.struct Try.underlying52
  rw [cells_event] at hl
  match cs, hl with
  | [c0, c1, c2, c3], _ =>
    obtain ⟨k, h0, w0⟩ := (hf 0 _ rfl).int (k := .u8) (by kernel_rfl)
    obtain ⟨a, h1, w1⟩ := (hf 1 _ rfl).int (k := .i64) (by kernel_rfl)
    obtain ⟨t, h2, w2⟩ := (hf 2 _ rfl).int (k := .i64) (by kernel_rfl)
    obtain ⟨v, h3, w3⟩ := (hf 3 _ rfl).int (k := .u64) (by kernel_rfl)
    have e0 := take_one h0; have e1 := take_one h1; have e2 := take_one h2; have e3 := take_one h3
    simp at e0 e1 e2 e3
    have b1 := bounds_i64 w1; have b3 := bounds_u64 w3
    refine ⟨⟨k, a, t, v⟩, by rw [e0, e1, e2, e3], ⟨?_, ?_⟩, ?_, ?_⟩
    all_goals (simp only; omega)
theorem evs_of {H : Type} {enc : TypeId × Value → H} {w : World} {a : Option Addr} {len cap : Nat} (h : Fits enc Try.prog w 22 [.slice a len cap]) : ∃ l, EvsIn w a (min len 60) l ∧ EvsOk l ∧ ∀ w0 : World, Calls Try.prog 9 #[.slice a len cap] w0 fun e w' => e = .returned (.slice a (min len 60) cap) ∧ w0 = w' := by
  have hcap := fits_cap h Try.underlying22
  obtain ⟨hm, hh⟩ := h.slice Try.underlying22 (by rw [cells_event]; decide)
  have hfew : ∀ w0 : World, Calls Try.prog 9 #[.slice a len cap] w0 fun e w' => e = .returned (.slice a (min len 60) cap) ∧ w0 = w' := fun w0 => few_det w0 a len cap hh hm hcap
  rcases hh with h0 | ⟨b, off, rfl, hh⟩
  · exact ⟨[], ⟨by simp [h0], .inl (by simp [h0])⟩, fun x hx => (by cases hx), hfew⟩
  obtain ⟨f, hf⟩ := Go.Deep.choose_lt (α := Ev) (n := len) (p := fun i x => EvV x ∧ w.cell? ⟨b, off + i * 4, none⟩ = some (.int .u8 x.k) ∧ w.cell? ⟨b, off + i * 4 + 1, none⟩ = some (.int .i64 x.a) ∧ w.cell? ⟨b, off + i * 4 + 2, none⟩ = some (.int .i64 x.t) ∧ w.cell? ⟨b, off + i * 4 + 3, none⟩ = some (.int .u64 x.v)) (fun i hi => by
    obtain ⟨cs, hl, hc, hfit⟩ := hh i hi
    obtain ⟨x, rfl, hx⟩ := event_of hfit
    rw [cells_event] at hc
    exact ⟨x, hx, hc 0 (by decide), hc 1 (by decide), hc 2 (by decide), hc 3 (by decide)⟩)
  refine ⟨(List.range (min len 60)).map f, ⟨by simp, .inr ⟨b, off, rfl, fun i hi => ⟨f i, ?_, (hf i (by omega)).2⟩⟩⟩, fun x hx => ?_, hfew⟩
  · rw [List.getElem?_map, List.getElem?_range hi]
    rfl
  · obtain ⟨i, hi, rfl⟩ := List.mem_map.1 hx
    rw [List.mem_range] at hi
    exact (hf i (by omega)).1
theorem cells_int1 : Try.prog.cellsOf 3 = 1 := by kernel_rfl
theorem a2i_of {H : Type} {enc : TypeId × Value → H} {w : World} {cs : List Value} (h : Fits enc Try.prog w 33 cs) : ∃ x y : Int, cs = [.int .i64 x, .int .i64 y] := by
  obtain ⟨hl, hf⟩ := h.array Try.underlying33
  rw [show Try.prog.cellsOf 33 = 2 by kernel_rfl] at hl
  match cs, hl with
  | [c0, c1], _ =>
    have h0 := hf 0 (by decide); have h1 := hf 1 (by decide)
    rw [cells_int1] at h0 h1
    obtain ⟨x, e0, _⟩ := h0.int (k := .i64) (by kernel_rfl)
    obtain ⟨y, e1, _⟩ := h1.int (k := .i64) (by kernel_rfl)
    simp at e0 e1
    exact ⟨x, y, by rw [e0, e1]⟩
set_option maxHeartbeats 6400000 in
theorem tells_law {H : Type} (enc : TypeId × Value → H) (w : World) (a : Option Addr) (len cap : Nat) (h : Fits enc Try.prog w 22 [.slice a len cap]) (c : Array Value) (h' : Fits enc Try.prog w 33 c.toList) :
    Calls Try.prog 4 #[.slice a len cap, .agg c] w fun e w' => e = .returned (.bool true) ∧ Below w.heap.size w w' := by
  obtain ⟨x0, x1, he⟩ := a2i_of h'
  obtain rfl : c = #[.int .i64 x0, .int .i64 x1] := by rw [← Array.toList_inj, he]
  obtain ⟨l, hl, hok, hfew⟩ := evs_of h
  have hm60 : min len 60 ≤ 60 := Nat.min_le_right _ _
  obtain ⟨n, hn⟩ : ∃ n, min len 60 = n := ⟨_, rfl⟩
  rw [hn] at hl hfew hm60
  have lW : Below w.heap.size w (w.alloc (.cells #[.int .i64 x0, .int .i64 x1] 33)) := by repeat (first | (with_reducible exact Below.refl _ _) | (with_reducible apply Below.drew) | (with_reducible refine below_drewN ?_ _) | (with_reducible refine below_alloc' ?_ ?_ _; (focus ((try simp) <;> omega))) | (with_reducible refine below_set' ?_ ?_ _; (focus ((try simp) <;> omega))))
  obtain ⟨W, hW⟩ : ∃ W, (w.alloc (.cells #[.int .i64 x0, .int .i64 x1] 33)) = W := ⟨_, rfl⟩
  have q0 : W.cell? ⟨w.heap.size, 0, none⟩ = some (.int .i64 x0) := by rw [← hW]; simp
  have q1 : W.cell? ⟨w.heap.size, 1, none⟩ = some (.int .i64 x1) := by rw [← hW]; simp
  rw [hW] at lW
  have HF := Lib.hid (hfew W); have HWD := Lib.hid hW
  have LD := Lib.hid (show Below w.heap.size w W.drew from lW.drew)
  have HE := Lib.hid (hl.below (show Below w.heap.size w W.drew from lW.drew))
  have KO := Lib.hid (show ∀ w', Below W.drew.heap.size W.drew w' → (w'.cell? ⟨w.heap.size, 0, none⟩ = some (.int .i64 x0) ∧ w'.cell? ⟨w.heap.size, 1, none⟩ = some (.int .i64 x1)) from fun w' k => ⟨bkeep k q0, bkeep k q1⟩)
  have Q0 := KO.out W.drew (Below.refl _ _)
  have hn6 : n ≤ 1000000 := by omega
  have HCL := Lib.hid (show (cutL l x0).length ≤ 1000000 from by
    have := cutL_len l x0 n
    rw [← hl.1, List.take_length] at this
    rw [hl.1] at this
    omega)
  clear h h' he hok hfew hn lW hl hW q0 q1
  go_enter Try.func4, Try.ntmps4
  go_wp2_with fail
  rw [HWD.out]
  refine HF.out.mono ?_
  rintro e w0 ⟨rfl, rfl⟩
  go_wp2_with fail
  go_region_held3 (fun w' => w'.cell? ⟨w.heap.size, 0, none⟩ = some (.int .i64 x0) ∧ w'.cell? ⟨w.heap.size, 1, none⟩ = some (.int .i64 x1)) (first | (with_reducible exact Q0) | (with_reducible exact Q1) | (with_reducible exact Q2) | (with_reducible exact Q3) | (with_reducible exact Q4) | (with_reducible exact Q5) | (with_reducible exact Q6)) (first | (go_at_call 11; (with_reducible refine Calls.mono (live_any _) ?_); rintro e w1 ⟨rfl, l1⟩; have k1 := l1; have Q1 := KO.out w1 k1; have HE1 := Lib.hid (HE.out.below k1)) | (go_at_call 13; (with_reducible refine Calls.mono (state_any _ a n cap l HE1.out hn6 x0) ?_); rintro e w2 ⟨rfl, l2⟩; have k2 := btrans k1 (Nat.le_refl _) l2; have Q2 := KO.out w2 k2; have HE2 := Lib.hid (HE.out.below k2)) | (go_at_call 16; (with_reducible refine Calls.mono (rstate_any _ a n cap l HE2.out hn6 x0) ?_); rintro e w0 ⟨rfl, rfl⟩) | (go_at_call 17; (with_reducible refine Calls.mono (before_any _ a n cap l HE2.out hn6 x0 x1) ?_); rintro e w3 ⟨rfl, l3⟩; have k3 := btrans k2 (Nat.le_refl _) l3; have Q3 := KO.out w3 k3; have HE3 := Lib.hid (HE.out.below k3)) | (go_at_call 18; (with_reducible refine Calls.mono (rbefore_any _ a n cap l HE3.out hn6 x0 x1) ?_); rintro e w0 ⟨rfl, rfl⟩) | (go_at_call 12; (with_reducible refine Calls.mono (cut_any _ a n cap l HE3.out hn6 x0) ?_); rintro e w4 ⟨v4, rfl, hv4, l4⟩; have hu4 := hv4; obtain ⟨a4, c4, rfl, i4⟩ := EvsAt.open hv4; have k4 := btrans k3 (Nat.le_refl _) l4; have Q4 := KO.out w4 k4; have HE4 := Lib.hid (HE.out.below k4); have I4 := Lib.hid i4) | (go_at_call 20; (with_reducible refine Calls.mono (rcut_any _ a n cap l HE4.out hn6 x0) ?_); rintro e w5 ⟨v5, rfl, hv5, l5⟩; obtain ⟨a5, c5, rfl, i5⟩ := EvsAt.open hv5; have k5 := btrans k4 (Nat.le_refl _) l5; have Q5 := KO.out w5 k5; have I5 := Lib.hid i5; have I45 := Lib.hid (I4.out.below l5)) | (go_at_call 19; (with_reducible refine Calls.mono (rsame_any _ a4 a5 _ c4 c5 _ I45.out I5.out HCL.out) ?_); rintro e w6 ⟨rfl, l6⟩; have k6 := btrans k5 (Nat.le_refl _) l6; have Q6 := KO.out w6 k6))
  have LF := Lib.hid (btrans LD.out (Nat.le_refl _) k6)
  clear k1 k2 k3 k4 k5 k6 l1 l2 l3 l4 l5 l6 Q0 Q1 Q2 Q3 Q4 Q5 Q6
  go_wp2_with fail
  go_ret
  exact ⟨rfl, LF.out⟩
end Go.Proofs.Ytfpiecnbnoinnaa.His
