/- The statements' events, heaps and numbers. -/
import Derived.Test.YtganmdbhmihjpaaGreatOpaQ
import Derived.Test.YtganmdbhmihjpaaGreatMgf
namespace Go.Proofs.YtganmdbhmihjpaaGreat.Opa
open Go.RowKit Go.Proofs.YtganmdbhmihjpaaGreat.Wri Go.Proofs.YtganmdbhmihjpaaGreat.His Go.ChangeShapes Go.WideShapes Go.ChangeAt
set_option linter.unusedSimpArgs false
set_option linter.unusedVariables false
set_option maxRecDepth 50000

theorem few_det (w : World) (a : Option Addr) (n c : Nat) {p : Nat → Nat → Prop} (h : n = 0 ∨ ∃ b off, a = some ⟨b, off, none⟩ ∧ p b off) (hn : n ≤ 9223372036854775807) (hc : n ≤ c) :
    Calls Tryz.prog 5 #[.slice a n c] w fun e w' => e = .returned (.slice a (min n 50) c) ∧ w = w' := by
  by_cases h20 : 50 < n
  · have hd : decide (50 < (n : Int)) = true := by simp; omega
    have hc20 : (50 : Int) ≤ c := by omega
    obtain ⟨b, off, rfl, _⟩ := h.resolve_left (by omega)
    rw [show min n 50 = 50 by omega]
    clear h
    go_enter Tryz.func5, Tryz.ntmps5
    go_wp2_with fail
    go_ret
    exact ⟨rfl, rfl⟩
  · have hd : decide (50 < (n : Int)) = false := by simp; omega
    rw [show min n 50 = n by omega]
    clear h
    go_enter Tryz.func5, Tryz.ntmps5
    go_wp2_with fail
    go_ret
    exact ⟨rfl, rfl⟩
theorem heaped_det (w : World) (a : Option Addr) (n c : Nat) {p : Nat → Nat → Prop} (h : n = 0 ∨ ∃ b off, a = some ⟨b, off, none⟩ ∧ p b off) (hn : n ≤ 9223372036854775807) (hc : n ≤ c) :
    Calls Tryz.prog 6 #[.slice a n c] w fun e w' => e = .returned (.slice a (min n 13) c) ∧ w = w' := by
  by_cases h20 : 13 < n
  · have hd : decide (13 < (n : Int)) = true := by simp; omega
    have hc20 : (13 : Int) ≤ c := by omega
    obtain ⟨b, off, rfl, _⟩ := h.resolve_left (by omega)
    rw [show min n 13 = 13 by omega]
    clear h
    go_enter Tryz.func6, Tryz.ntmps6
    go_wp2_with fail
    go_ret
    exact ⟨rfl, rfl⟩
  · have hd : decide (13 < (n : Int)) = false := by simp; omega
    rw [show min n 13 = n by omega]
    clear h
    go_enter Tryz.func6, Tryz.ntmps6
    go_wp2_with fail
    go_ret
    exact ⟨rfl, rfl⟩
instance : Inhabited Ev := ⟨⟨0, 0, 0, 0⟩⟩
section
variable {H : Type} {enc : TypeId × Value → H} {w : World} {a : Option Addr} {len cap : Nat}
theorem fits_cap {P : Program} {t e : TypeId} (h : Fits enc P w t [.slice a len cap]) (ht : P.underlying t = some (.slice e)) : len ≤ cap ∧ (a = none → len = 0 ∧ cap = 0) := by
  obtain ⟨n, x, h⟩ := h
  rcases Go.Deep.open_slice ht h with ⟨h0, _⟩ | ⟨a', len', cap', m, n', D, Pl, hcs, _, hl, _⟩
  · injection h0 with h0
    injection h0 with _ h1 h2
    exact ⟨by omega, fun _ => ⟨h1, h2⟩⟩
  · injection hcs with hcs
    injection hcs with h0 h1 h2
    exact ⟨by omega, fun h => by rw [h] at h0; cases h0⟩
theorem cells_event : Tryz.prog.cellsOf 60 = 4 := by kernel_rfl
def EvV (x : Ev) : Prop := inInt x.a ∧ 0 ≤ x.v ∧ x.v < 18446744073709551616
theorem event_of {cs : List Value} (h : Fits enc Tryz.prog w 60 cs) : ∃ x : Ev, cs = [.int .u8 x.k, .int .i64 x.a, .int .i64 x.t, .int .u64 x.v] ∧ EvV x := by
  obtain ⟨hl, hf⟩ := h.struct Tryz.underlying60
  rw [cells_event] at hl
  match cs, hl with
  | [c0, c1, c2, c3], _ =>
    obtain ⟨k, h0, w0⟩ := (hf 0 _ rfl).int (k := .u8) (by kernel_rfl)
    obtain ⟨a, h1, w1⟩ := (hf 1 _ rfl).int (k := .i64) (by kernel_rfl)
    obtain ⟨t, h2, w2⟩ := (hf 2 _ rfl).int (k := .i64) (by kernel_rfl)
    obtain ⟨v, h3, w3⟩ := (hf 3 _ rfl).int (k := .u64) (by kernel_rfl)
    have e0 := take_one h0; have e1 := take_one h1; have e2 := take_one h2; have e3 := take_one h3
    simp at e0 e1 e2 e3
    have b1 := bounds_i64 w1; have b3 := bounds_u64 w3
    refine ⟨⟨k, a, t, v⟩, by rw [e0, e1, e2, e3], ⟨?_, ?_⟩, ?_, ?_⟩
    all_goals (simp only; omega)
theorem evs_of (h : Fits enc Tryz.prog w 22 [.slice a len cap]) : ∃ l, EvsIn w a (min len 50) l ∧ EvsOk l ∧ ∀ w0 : World, Calls Tryz.prog 5 #[.slice a len cap] w0 fun e w' => e = .returned (.slice a (min len 50) cap) ∧ w0 = w' := by
  have hcap := (fits_cap h Tryz.underlying22).1
  obtain ⟨hm, hh⟩ := h.slice Tryz.underlying22 (by rw [cells_event]; decide)
  have hfew : ∀ w0 : World, Calls Tryz.prog 5 #[.slice a len cap] w0 fun e w' => e = .returned (.slice a (min len 50) cap) ∧ w0 = w' := fun w0 => few_det w0 a len cap hh hm hcap
  rcases hh with h0 | ⟨b, off, rfl, hh⟩
  · exact ⟨[], ⟨by simp [h0], .inl (by simp [h0])⟩, fun x hx => (by cases hx), hfew⟩
  obtain ⟨f, hf⟩ := Go.Deep.choose_lt (α := Ev) (n := len) (p := fun i x => EvV x ∧ w.cell? ⟨b, off + i * 4, none⟩ = some (.int .u8 x.k) ∧ w.cell? ⟨b, off + i * 4 + 1, none⟩ = some (.int .i64 x.a) ∧ w.cell? ⟨b, off + i * 4 + 2, none⟩ = some (.int .i64 x.t) ∧ w.cell? ⟨b, off + i * 4 + 3, none⟩ = some (.int .u64 x.v)) (fun i hi => by
    obtain ⟨cs, hl, hc, hfit⟩ := hh i hi
    obtain ⟨x, rfl, hx⟩ := event_of hfit
    rw [cells_event] at hc
    exact ⟨x, hx, hc 0 (by decide), hc 1 (by decide), hc 2 (by decide), hc 3 (by decide)⟩)
  refine ⟨(List.range (min len 50)).map f, ⟨by simp, .inr ⟨b, off, rfl, fun i hi => ⟨f i, ?_, (hf i (by omega)).2⟩⟩⟩, fun x hx => ?_, hfew⟩
  · rw [List.getElem?_map, List.getElem?_range hi]
    rfl
  · obtain ⟨i, hi, rfl⟩ := List.mem_map.1 hx
    rw [List.mem_range] at hi
    exact (hf i (by omega)).1
theorem cells_val : Tryz.prog.cellsOf 58 = 1 := by kernel_rfl
theorem cells_int1 : Tryz.prog.cellsOf 3 = 1 := by kernel_rfl
theorem vals_take {w : World} {a : Option Addr} {n : Nat} {ts : List Int} (h : ValsIn w a n ts) {k : Nat} (hk : k ≤ n) : ValsIn w a k (ts.take k) := by
  refine ⟨by rw [List.length_take, h.1]; omega, ?_⟩
  rcases h.2 with h0 | ⟨b, off, e, hc⟩
  · exact .inl (by omega)
  · refine .inr ⟨b, off, e, fun i hi => ?_⟩
    rw [hc i (by omega), List.getD_eq_getElem?_getD, List.getD_eq_getElem?_getD, List.getElem?_take, if_pos hi]
theorem range_getD (f : Nat → Int) {n i : Nat} (hi : i < n) : ((List.range n).map f).getD i 0 = f i := by
  rw [List.getD_eq_getElem?_getD, List.getElem?_map, List.getElem?_range hi]
  rfl
theorem vals_of (h : Fits enc Tryz.prog w 23 [.slice a len cap]) : ∃ vs, ValsIn w a len vs ∧ (∀ v ∈ vs, U64 v) ∧ len ≤ 9223372036854775807 ∧ ∀ w0 : World, Calls Tryz.prog 6 #[.slice a len cap] w0 fun e w' => e = .returned (.slice a (min len 13) cap) ∧ w0 = w' := by
  have hcap := (fits_cap h Tryz.underlying23).1
  obtain ⟨hm, hh⟩ := h.slice Tryz.underlying23 (by rw [cells_val]; decide)
  have hfew : ∀ w0 : World, Calls Tryz.prog 6 #[.slice a len cap] w0 fun e w' => e = .returned (.slice a (min len 13) cap) ∧ w0 = w' := fun w0 => heaped_det w0 a len cap hh hm hcap
  rcases hh with h0 | ⟨b, off, rfl, hh⟩
  · exact ⟨[], ⟨by simp [h0], .inl h0⟩, fun x hx => (by cases hx), hm, hfew⟩
  obtain ⟨f, hf⟩ := Go.Deep.choose_lt (α := Int) (n := len) (p := fun i x => U64 x ∧ w.cell? ⟨b, off + i, none⟩ = some (.int .u64 x)) (fun i hi => by
    obtain ⟨cs, hl, hc, hfit⟩ := hh i hi
    obtain ⟨x, rfl, hx⟩ := hfit.int (k := .u64) (by kernel_rfl)
    have b3 := bounds_u64 hx
    rw [cells_val] at hc
    have := hc 0 (by decide)
    rw [Nat.mul_one, Nat.add_zero] at this
    exact ⟨x, ⟨by omega, by omega⟩, this⟩)
  refine ⟨(List.range len).map f, ⟨by simp, .inr ⟨b, off, rfl, fun i hi => ?_⟩⟩, fun x hx => ?_, hm, hfew⟩
  · rw [range_getD f hi]
    exact (hf i hi).2
  · obtain ⟨i, hi, rfl⟩ := List.mem_map.1 hx
    rw [List.mem_range] at hi
    exact (hf i (by omega)).1
theorem ints_of (h : Fits enc Tryz.prog w 24 [.slice a len cap]) : ∃ ts, IntsIn w a len ts ∧ len ≤ 9223372036854775807 := by
  obtain ⟨hm, hh⟩ := h.slice Tryz.underlying24 (by rw [cells_int1]; decide)
  rcases hh with h0 | ⟨b, off, rfl, hh⟩
  · exact ⟨[], ⟨by simp [h0], .inl h0⟩, hm⟩
  obtain ⟨f, hf⟩ := Go.Deep.choose_lt (α := Int) (n := len) (p := fun i x => w.cell? ⟨b, off + i, none⟩ = some (.int .i64 x)) (fun i hi => by
    obtain ⟨cs, hl, hc, hfit⟩ := hh i hi
    obtain ⟨x, rfl, hx⟩ := hfit.int (k := .i64) (by kernel_rfl)
    rw [cells_int1] at hc
    have := hc 0 (by decide)
    rw [Nat.mul_one, Nat.add_zero] at this
    exact ⟨x, this⟩)
  refine ⟨(List.range len).map f, ⟨by simp, .inr ⟨b, off, rfl, fun i hi => ?_⟩⟩, hm⟩
  rw [range_getD f hi]
  exact hf i hi
end
set_option maxHeartbeats 1600000 in
theorem sameInts_any (w : World) (a a' : Option Addr) (n c c' : Nat) (ts : List Int) (h : IntsIn w a n ts) (h' : IntsIn w a' n ts) (hn : n ≤ 1000000) :
    Calls Tryz.prog 10 #[.slice a n c, .slice a' n c'] w fun e w' => e = .returned (.bool true) ∧ Below w.heap.size w w' := by
  have H := Lib.hid h
  have H' := Lib.hid h'
  clear h h'
  go_enter Tryz.func10, Tryz.ntmps10
  go_wp2_with fail
  go_loopw [5] (fun i wr => ∃ k : Nat, i = .int .i64 k ∧ k ≤ n ∧ Below w.heap.size w wr) (fun i _ => n - (intOf i).toNat)
  case atStart => exact ⟨0, rfl, Nat.zero_le _, Below.refl _ _⟩
  case round =>
    obtain ⟨k, rfl, hk, hB⟩ := hrel
    have HB := Lib.hid hB
    clear hB
    by_cases hlt : k < n
    · obtain ⟨g, off, rfl, hc⟩ := H.out.2.resolve_left (by omega)
      obtain ⟨g', off', rfl, hc'⟩ := H'.out.2.resolve_left (by omega)
      have c0 := bkeep HB.out (hc k hlt)
      have d0 := bkeep HB.out (hc' k hlt)
      have hw1 : IntKind.i64.wrap ((k : Int) + 1) = (k : Int) + 1 := by rw [IntKind.wrap_i64]; omega
      clear hc hc'
      generalize ts.getD k 0 = t at *
      go_wp2_with fail
      go_quiet (fail)
      go_wp2_with fail
      exact ⟨⟨k + 1, by go_num, by omega, below_drewN HB.out _⟩, by simp [intOf]; omega⟩
    · go_wp2_with fail
      go_ret
      exact ⟨rfl, HB.out⟩
end Go.Proofs.YtganmdbhmihjpaaGreat.Opa
