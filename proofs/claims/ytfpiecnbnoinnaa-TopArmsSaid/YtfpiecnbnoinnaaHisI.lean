/- slices.Contains over ints. -/
import Derived.Test.YtfpiecnbnoinnaaHisH
namespace Go.Proofs.Ytfpiecnbnoinnaa.His
open Go.RowKit
set_option linter.unusedSimpArgs false
set_option linter.unusedVariables false
set_option maxRecDepth 50000

def IntsIn (w : World) (a : Option Addr) (n : Nat) (ts : List Int) : Prop :=
  ts.length = n ∧ (n = 0 ∨ ∃ b off, a = some ⟨b, off, none⟩ ∧ ∀ i, i < n → w.cell? ⟨b, off + i, none⟩ = some (.int .i64 (ts.getD i 0)))
theorem IntsIn.below {w w' : World} {a : Option Addr} {n : Nat} {ts : List Int} (h : IntsIn w a n ts) (l : Below w.heap.size w w') : IntsIn w' a n ts :=
  ⟨h.1, h.2.imp id fun ⟨b, off, e, hc⟩ => ⟨b, off, e, fun i hi => bkeep l (hc i hi)⟩⟩
theorem IntsAt.open {B : Nat} {w : World} {v : Value} {ts : List Int} (h : IntsAt B w v ts) : ∃ a c, v = .slice a ts.length c ∧ IntsIn w a ts.length ts := by
  rcases h.2 with ⟨rfl, h0⟩ | ⟨g, cap, cur, rfl, _⟩
  · exact ⟨none, 0, by rw [h0], rfl, .inl h0⟩
  · refine ⟨_, _, rfl, rfl, .inr ⟨g, 0, rfl, fun i hi => ?_⟩⟩
    rw [Nat.zero_add]
    have hx : (ts.map fun t => Value.int .i64 t)[i]? = some (.int .i64 (ts.getD i 0)) := by
      rw [List.getElem?_map, List.getElem?_eq_getElem hi, List.getD_eq_getElem?_getD, List.getElem?_eq_getElem hi]; rfl
    have := World.ownsRow.cells h (g := g) rfl i _ hx
    rwa [Addr.add_lit, Nat.zero_add] at this
theorem index_any (w : World) (a : Option Addr) (n c : Nat) (ts : List Int) (x : Int) (h : IntsIn w a n ts) (hn : n ≤ 1000000) :
    Calls Try.prog 59 #[.slice a n c, .int .i64 x] w fun e w' => ∃ i : Int, e = .returned (.int .i64 i) ∧ decide (0 ≤ i) = decide (x ∈ ts) ∧ w = w' := by
  have H := Lib.hid h
  have HL := Lib.hid h.1
  clear h
  go_enter Try.func59, Try.ntmps59
  go_wp2_with fail
  go_loopw [8] (fun i wr => ∃ k : Nat, i = .int .i64 k ∧ k ≤ n ∧ w = wr ∧ ∀ j, j < k → ts.getD j 0 ≠ x) (fun i _ => n - (intOf i).toNat)
  case atStart => exact ⟨0, rfl, Nat.zero_le _, rfl, fun j hj => by omega⟩
  case round =>
    obtain ⟨k, rfl, hk, rfl, hno⟩ := hrel
    have HNO := Lib.hid hno
    clear hno
    by_cases hlt : k < n
    · obtain ⟨g, off, rfl, hc⟩ := H.out.2.resolve_left (by omega)
      have c0 := hc k hlt
      have hmem : ts.getD k 0 ∈ ts := by rw [List.getD_eq_getElem?_getD, List.getElem?_eq_getElem (by rw [HL.out]; exact hlt)]; exact List.getElem_mem _
      have hw1 : IntKind.i64.wrap ((k : Int) + 1) = (k : Int) + 1 := by rw [IntKind.wrap_i64]; omega
      have HMEM := Lib.hid hmem
      obtain ⟨t, ht⟩ : ∃ t, ts.getD k 0 = t := ⟨_, rfl⟩
      have HT := Lib.hid ht
      rw [ht] at c0 HMEM
      clear hc hmem ht
      cases f1 : (x == t)
      · have HNO2 := Lib.hid (show ∀ j, j < k + 1 → ts.getD j 0 ≠ x from fun j hj => by
          rcases Nat.lt_or_ge j k with h1 | h1
          · exact HNO.out j h1
          · obtain rfl : j = k := by omega
            rw [HT.out]
            intro e
            subst e
            simp at f1)
        go_wp2_with fail
        exact ⟨⟨k + 1, by go_num, by omega, trivial, HNO2.out⟩, by simp [intOf]; omega⟩
      · have hx : x ∈ ts := by have e : x = t := by simpa using f1
                               rw [e]; exact HMEM.out
        have HX := Lib.hid hx
        clear hx
        go_wp2_with fail
        go_ret
        exact ⟨k, rfl, by have := HX.out; simp [this], rfl⟩
    · obtain rfl : k = n := by omega
      have hx : ¬ x ∈ ts := by
        intro hm
        obtain ⟨j, hj⟩ := List.mem_iff_getElem?.1 hm
        have hjl := (List.getElem?_eq_some_iff.1 hj).1
        refine HNO.out j (by rw [← HL.out]; exact hjl) ?_
        rw [List.getD_eq_getElem?_getD, hj]; rfl
      have HX := Lib.hid hx
      clear hx
      go_wp2_with fail
      go_ret
      exact ⟨-1, rfl, by have := HX.out; simp [this], rfl⟩
theorem contains_any (w : World) (a : Option Addr) (n c : Nat) (ts : List Int) (x : Int) (h : IntsIn w a n ts) (hn : n ≤ 1000000) :
    Calls Try.prog 41 #[.slice a n c, .int .i64 x] w fun e w' => e = .returned (.bool (decide (x ∈ ts))) ∧ w = w' := by
  have HI := Lib.hid (index_any w a n c ts x h hn)
  clear h
  go_enter Try.func41, Try.ntmps41
  go_wp2_with fail
  refine HI.out.mono ?_
  rintro e w1 ⟨i, rfl, hd, rfl⟩
  have HD := Lib.hid hd
  clear hd
  go_wp2_with fail
  go_ret
  exact ⟨by rw [← HD.out]; rfl, rfl⟩
end Go.Proofs.Ytfpiecnbnoinnaa.His
