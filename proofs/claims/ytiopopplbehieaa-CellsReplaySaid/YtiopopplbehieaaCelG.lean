/- The statement on logs: whether one can have been, what it leaves, the last op on a cell. -/
import Derived.Test.YtiopopplbehieaaCelX
import Derived.Test.YtiopopplbehieaaCelU
namespace Go.Proofs.Ytiopopplbehieaa.Cel
open Go.RowKit
set_option linter.unusedSimpArgs false
set_option linter.unusedVariables false

theorem cells_done : Try.prog.cellsOf 37 = 6 := by kernel_rfl
theorem done_of {H : Type} {enc : TypeId × Value → H} {w : World} {cs : List Value} (h : Fits enc Try.prog w 37 cs) : ∃ d : Dn, d.o.Fit ∧ cs = [.int .u8 d.o.k, .int .i64 d.o.c, .int .u64 d.o.a, .int .u64 d.o.b, .int .u64 d.w, .bool d.ok] := by
  obtain ⟨hl, hf⟩ := h.struct Try.underlying37
  rw [cells_done] at hl
  match cs, hl with
  | [c0, c1, c2, c3, c4, c5], _ =>
    have h0 := hf 0 _ rfl
    obtain ⟨o, ho, e0⟩ := op_of h0
    obtain ⟨x, h1, w1⟩ := (hf 1 _ rfl).int (k := .u64) (by kernel_rfl)
    obtain ⟨b, h2⟩ := (hf 2 _ rfl).bool (by kernel_rfl)
    have e1 := take_one h1; have e2 := take_one h2
    simp at e1 e2
    have e3 : c0 = .int .u8 o.k ∧ c1 = .int .i64 o.c ∧ c2 = .int .u64 o.a ∧ c3 = .int .u64 o.b := by
      injection e0 with q0 e0
      injection e0 with q1 e0
      injection e0 with q2 e0
      injection e0 with q3 _
      exact ⟨q0, q1, q2, q3⟩
    obtain ⟨rfl, rfl, rfl, rfl⟩ := e3
    exact ⟨⟨o, x, b⟩, ho, by rw [e1, e2]⟩
theorem fits_cap {H : Type} {enc : TypeId × Value → H} {w : World} {a : Option Addr} {len cap : Nat} (h : Fits enc Try.prog w 48 [.slice a len cap]) : len ≤ cap ∧ cap ≤ 9223372036854775807 := by
  obtain ⟨n, x, h⟩ := h
  rcases Go.Deep.open_slice Try.underlying48 h with ⟨h0, _⟩ | ⟨a', len', cap', m, n', D, Pl, hcs, _, hl, hm, _⟩
  · injection h0 with h0
    injection h0 with h1 h2 h3
    subst h2 h3
    exact ⟨Nat.le_refl _, by decide⟩
  · injection hcs with hcs
    injection hcs with h1 h2 h3
    subst h2 h3
    exact ⟨hl, by simp only [maxLen] at hm; omega⟩
theorem dones_fit {H : Type} {enc : TypeId × Value → H} {w : World} {a : Option Addr} {len cap : Nat} (h : Fits enc Try.prog w 48 [.slice a len cap]) : ∃ ds, Dones w a len ds := by
  obtain ⟨hm, hh⟩ := h.slice Try.underlying48 (by rw [cells_done]; decide)
  rcases hh with rfl | ⟨b, off, rfl, hh⟩
  · exact ⟨[], rfl, fun d hd => (by cases hd), .inl rfl⟩
  have H : ∀ i, i < len → ∃ d : Dn, d.o.Fit ∧ (w.cell? ⟨b, off + i * 6, none⟩ = some (.int .u8 d.o.k) ∧ w.cell? ⟨b, off + i * 6 + 1, none⟩ = some (.int .i64 d.o.c) ∧ w.cell? ⟨b, off + i * 6 + 2, none⟩ = some (.int .u64 d.o.a) ∧
    w.cell? ⟨b, off + i * 6 + 3, none⟩ = some (.int .u64 d.o.b) ∧ w.cell? ⟨b, off + i * 6 + 4, none⟩ = some (.int .u64 d.w) ∧ w.cell? ⟨b, off + i * 6 + 5, none⟩ = some (.bool d.ok)) := by
    intro i hi
    obtain ⟨cs, hl, hc, hf⟩ := hh i hi
    obtain ⟨d, hd, rfl⟩ := done_of hf
    rw [cells_done] at hc
    exact ⟨d, hd, hc 0 (by decide), hc 1 (by decide), hc 2 (by decide), hc 3 (by decide), hc 4 (by decide), hc 5 (by decide)⟩
  refine ⟨(List.range len).map fun i => if h : i < len then Classical.choose (H i h) else noDn, by simp, ?_, .inr ⟨b, off, rfl, ?_⟩⟩
  · intro d hd
    obtain ⟨i, hi, rfl⟩ := List.mem_map.1 hd
    have hi' : i < len := List.mem_range.1 hi
    simp only [hi', dif_pos]
    exact (Classical.choose_spec (H i hi')).1
  · intro i d hd
    have hi : i < len := by
      have := (List.getElem?_eq_some_iff.1 hd).1
      simpa using this
    simp only [List.getElem?_map, List.getElem?_range hi, Option.map_some, Option.some.injEq, hi, dif_pos] at hd
    rw [← hd]
    exact (Classical.choose_spec (H i hi)).2
theorem Dones.take {w : World} {a : Option Addr} {len : Nat} {ds : List Dn} (h : Dones w a len ds) (m : Nat) (hm : m ≤ len) : Dones w a m (ds.take m) := by
  obtain ⟨h1, h2, h3⟩ := h
  refine ⟨by simp; omega, fun d hd => h2 d (List.mem_of_mem_take hd), ?_⟩
  rcases h3 with h3 | ⟨b, off, rfl, hc⟩
  · exact .inl (by omega)
  · refine .inr ⟨b, off, rfl, fun i d hd => hc i d ?_⟩
    rw [List.getElem?_take] at hd
    split at hd
    · exact hd
    · cases hd
theorem repV_small (n : Int) (ds : List Dn) (h : ds.length ≤ 900) : (repV n ds).2.length ≤ 1000 := by
  unfold repV
  split
  · simp
  · rename_i hn
    split
    · simp
    · rename_i s hs
      have key : ∀ (l : List Dn) (s0 s' : CSt), rep s0 l = some s' → s'.ws.length = s0.ws.length := by
        intro l
        induction l with
        | nil => intro s0 s' h; injection h with h; rw [h]
        | cons d l ih =>
          intro s0 s' h
          simp only [rep] at h
          split at h
          · rw [ih _ _ h, (doS_len s0 d.o).1]
          · cases h
      show s.ws.length ≤ 1000
      rw [key _ _ _ hs]
      simp [zeros]
      omega

set_option maxHeartbeats 1600000 in
theorem replay_law {H : Type} (enc : TypeId × Value → H) (w : World) (n : Int) (hn : (Lit.int .i64 n).wf = true) (a : Option Addr) (len cap : Nat) (h : Fits enc Try.prog w 48 [.slice a len cap]) (c : Int) (hc : (Lit.int .i64 c).wf = true) :
    Calls Try.prog 7 #[.int .i64 n, .slice a len cap, .int .i64 c] w fun e w' => e = .returned (.bool true) ∧ Below w.heap.size w w' := by
  obtain ⟨hcap, hmax⟩ := fits_cap h
  obtain ⟨ds0, hd0⟩ := dones_fit h
  clear h hn hc
  by_cases hl : 60 < len
  · obtain ⟨ds, hD⟩ : ∃ ds, Dones w a 60 ds := ⟨_, hd0.take 60 (by omega)⟩
    have hgt : decide ((60 : Int) < len) = true := by simp; omega
    have hc60 : (60 : Int) ≤ cap := by omega
    clear hd0 hl
    have HD := Lib.hid hD
    have hsm := repV_small n ds (by rw [hD.1]; omega)
    have HRP := Lib.hid (fun W h => replay_any W n a 60 cap ds h (by omega))
    have HRR := Lib.hid (fun W h => rreplay_any W n a 60 cap ds h (by omega))
    have HRI := Lib.hid (fun W h => right_any W n a 60 cap ds h (by omega))
    have HLA := Lib.hid (fun W h => last_any W a 60 cap ds h (by omega) c)
    have HLR := Lib.hid (fun W h => rlast_any W a 60 cap ds h (by omega) c)
    unfold ReplayPost at HRP HRR
    clear hD
    generalize repV n ds = r at *
    obtain ⟨r1, ws⟩ := r
    go_enter Try.func7, Try.ntmps7
    go_wp2_with fail
    refine (HRP.out _ HD.out).mono ?_
    rintro e w1 ⟨v1, rfl, o1, l1⟩
    have R1 := Lib.hid o1; have D1 := Lib.hid (HD.out.below l1); have L1 := Lib.hid l1; clear o1 l1
    go_wp2_with fail
    refine (HRR.out _ D1.out).mono ?_
    rintro e w2 ⟨v2, rfl, o2, l2⟩
    have R2 := Lib.hid o2; have D2 := Lib.hid (D1.out.below l2); have L2 := Lib.hid (btrans L1.out (Nat.le_refl _) l2)
    have Q2 := Lib.hid (ownsRow_only R1.out (Only.empty l2 (Nat.le_refl _)) (fun _ _ h => h))
    clear o2 l2 R1 L1 D1
    go_wp2_with fail
    refine (HLA.out _ D2.out).mono ?_
    rintro e w3 ⟨x, ok, rfl, hx, l3⟩
    have R3 := Lib.hid (ownsRow_only R2.out (Only.empty l3 (Nat.le_refl _)) (fun _ _ h => h)); have Q3 := Lib.hid (ownsRow_only Q2.out (Only.empty l3 (Nat.le_refl _)) (fun _ _ h => h))
    have D3 := Lib.hid (D2.out.below l3); have L3 := Lib.hid (btrans L2.out (Nat.le_refl _) l3)
    have HX := Lib.hid hx
    clear l3 hx R2 Q2 D2 L2
    go_wp2_with fail
    refine (HLR.out _ D3.out).mono ?_
    rintro e w4 ⟨y, is, rfl, hy, l4⟩
    obtain ⟨rfl, rfl⟩ := HX.out.unique hy
    have R4 := Lib.hid (ownsRow_only R3.out (Only.empty l4 (Nat.le_refl _)) (fun _ _ h => h)); have Q4 := Lib.hid (ownsRow_only Q3.out (Only.empty l4 (Nat.le_refl _)) (fun _ _ h => h))
    have D4 := Lib.hid (D3.out.below l4); have L4 := Lib.hid (btrans L3.out (Nat.le_refl _) l4)
    clear l4 hy R3 Q3 D3 L3 HX
    go_wp2_with fail
    refine (live_any _).mono ?_
    rintro e w5 ⟨rfl, l5⟩
    have R5 := Lib.hid (ownsRow_only R4.out (Only.empty l5 (Nat.le_refl _)) (fun _ _ h => h)); have Q5 := Lib.hid (ownsRow_only Q4.out (Only.empty l5 (Nat.le_refl _)) (fun _ _ h => h))
    have D5 := Lib.hid (D4.out.below l5); have L5 := Lib.hid (btrans L4.out (Nat.le_refl _) l5)
    clear l5 R4 Q4 D4 L4
    go_wp2_with fail
    refine (sameWords_any Q5.out R5.out hsm).mono ?_
    rintro e w6 ⟨rfl, l6⟩
    have D6 := Lib.hid (D5.out.below l6); have L6 := Lib.hid (btrans L5.out (Nat.le_refl _) l6)
    clear l6 R5 Q5 D5 L5
    go_wp2_with fail
    refine (HRI.out _ D6.out).mono ?_
    rintro e w7 ⟨rfl, l7⟩
    have L7 := Lib.hid (btrans L6.out (Nat.le_refl _) l7)
    clear l7
    go_wp2_with fail
    go_ret
    exact ⟨by simp, L7.out⟩
  · obtain ⟨ds, hD⟩ : ∃ ds, Dones w a len ds := ⟨_, hd0⟩
    have hgt : decide ((60 : Int) < len) = false := by simp; omega
    have hl60 : len ≤ 60 := by omega
    clear hd0 hl
    have HD := Lib.hid hD
    have hsm := repV_small n ds (by rw [hD.1]; omega)
    have HRP := Lib.hid (fun W h => replay_any W n a len cap ds h (by omega))
    have HRR := Lib.hid (fun W h => rreplay_any W n a len cap ds h (by omega))
    have HRI := Lib.hid (fun W h => right_any W n a len cap ds h (by omega))
    have HLA := Lib.hid (fun W h => last_any W a len cap ds h (by omega) c)
    have HLR := Lib.hid (fun W h => rlast_any W a len cap ds h (by omega) c)
    unfold ReplayPost at HRP HRR
    clear hD
    generalize repV n ds = r at *
    obtain ⟨r1, ws⟩ := r
    go_enter Try.func7, Try.ntmps7
    go_wp2_with fail
    refine (HRP.out _ HD.out).mono ?_
    rintro e w1 ⟨v1, rfl, o1, l1⟩
    have R1 := Lib.hid o1; have D1 := Lib.hid (HD.out.below l1); have L1 := Lib.hid l1; clear o1 l1
    go_wp2_with fail
    refine (HRR.out _ D1.out).mono ?_
    rintro e w2 ⟨v2, rfl, o2, l2⟩
    have R2 := Lib.hid o2; have D2 := Lib.hid (D1.out.below l2); have L2 := Lib.hid (btrans L1.out (Nat.le_refl _) l2)
    have Q2 := Lib.hid (ownsRow_only R1.out (Only.empty l2 (Nat.le_refl _)) (fun _ _ h => h))
    clear o2 l2 R1 L1 D1
    go_wp2_with fail
    refine (HLA.out _ D2.out).mono ?_
    rintro e w3 ⟨x, ok, rfl, hx, l3⟩
    have R3 := Lib.hid (ownsRow_only R2.out (Only.empty l3 (Nat.le_refl _)) (fun _ _ h => h)); have Q3 := Lib.hid (ownsRow_only Q2.out (Only.empty l3 (Nat.le_refl _)) (fun _ _ h => h))
    have D3 := Lib.hid (D2.out.below l3); have L3 := Lib.hid (btrans L2.out (Nat.le_refl _) l3)
    have HX := Lib.hid hx
    clear l3 hx R2 Q2 D2 L2
    go_wp2_with fail
    refine (HLR.out _ D3.out).mono ?_
    rintro e w4 ⟨y, is, rfl, hy, l4⟩
    obtain ⟨rfl, rfl⟩ := HX.out.unique hy
    have R4 := Lib.hid (ownsRow_only R3.out (Only.empty l4 (Nat.le_refl _)) (fun _ _ h => h)); have Q4 := Lib.hid (ownsRow_only Q3.out (Only.empty l4 (Nat.le_refl _)) (fun _ _ h => h))
    have D4 := Lib.hid (D3.out.below l4); have L4 := Lib.hid (btrans L3.out (Nat.le_refl _) l4)
    clear l4 hy R3 Q3 D3 L3 HX
    go_wp2_with fail
    refine (live_any _).mono ?_
    rintro e w5 ⟨rfl, l5⟩
    have R5 := Lib.hid (ownsRow_only R4.out (Only.empty l5 (Nat.le_refl _)) (fun _ _ h => h)); have Q5 := Lib.hid (ownsRow_only Q4.out (Only.empty l5 (Nat.le_refl _)) (fun _ _ h => h))
    have D5 := Lib.hid (D4.out.below l5); have L5 := Lib.hid (btrans L4.out (Nat.le_refl _) l5)
    clear l5 R4 Q4 D4 L4
    go_wp2_with fail
    refine (sameWords_any Q5.out R5.out hsm).mono ?_
    rintro e w6 ⟨rfl, l6⟩
    have D6 := Lib.hid (D5.out.below l6); have L6 := Lib.hid (btrans L5.out (Nat.le_refl _) l6)
    clear l6 R5 Q5 D5 L5
    go_wp2_with fail
    refine (HRI.out _ D6.out).mono ?_
    rintro e w7 ⟨rfl, l7⟩
    have L7 := Lib.hid (btrans L6.out (Nat.le_refl _) l7)
    clear l7
    go_wp2_with fail
    go_ret
    exact ⟨by simp, L7.out⟩
end Go.Proofs.Ytiopopplbehieaa.Cel
