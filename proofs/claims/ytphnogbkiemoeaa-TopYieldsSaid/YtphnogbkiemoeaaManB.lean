/- New, the policies, Choose. -/
import Derived.Test.YtphnogbkiemoeaaManA
import Derived.LaidEqlPtr
namespace Go.Proofs.Ytphnogbkiemoeaa.Man
open Go.RowKit
set_option linter.unusedSimpArgs false
set_option linter.unusedVariables false

/-- a manager's policy, as it stands in its first cell -/
def pol (k : Nat) : Value := if k = 1 then .iface 51 (.agg #[]) else if k = 2 then .iface 59 (.agg #[]) else .iface 60 (.agg #[])
def MSt.new : MSt := ⟨fun _ => .zero, 0⟩
theorem new_ok (w : World) (k : Nat) (hk : k = 1 ∨ k = 2 ∨ k = 3) : Calls Try.prog 8 #[.int .u8 k] w fun e w' => e = .returned (ptr w.heap.size) ∧ MAt 58 w' w.heap.size (pol k) .new ∧ Below w.heap.size w w' := by
  rcases hk with rfl | rfl | rfl
  all_goals
    go_enter Try.func8, Try.ntmps8
    go_wp2
    go_ret
    exact ⟨rfl, by unfold MAt; simp [↓heap_alloc_eq, ↓heap_set_eq, ↓heap_drew_eq, ↓heap_drewN_eq, setObj, size_drewN]; rfl, by repeat (first | (with_reducible exact Below.refl _ _) | (with_reducible apply Below.drew) | (with_reducible refine below_drewN ?_ _) | (with_reducible refine below_alloc' ?_ ?_ _; (focus ((try simp) <;> omega))) | (with_reducible refine below_set' ?_ ?_ _; (focus ((try simp) <;> omega))))⟩
theorem new_no (w : World) (k : Int) (hk : ¬ (k = 1 ∨ k = 2 ∨ k = 3)) : Calls Try.prog 8 #[.int .u8 k] w fun e w' => e = .returned (.pointer none) ∧ w = w' := by
  have h1 : (k == 1) = false := by simp; omega
  have h2 : (k == 2) = false := by simp; omega
  have h3 : (k == 3) = false := by simp; omega
  go_enter Try.func8, Try.ntmps8
  go_wp2
  go_ret
  exact ⟨rfl, rfl⟩
theorem psettle_any (w : World) (b : Nat) (h : Value) (s : MSt) (H : MAt 58 w b h s) (i : Nat) (hi : i < 4) (y : Th) (ht : 0 ≤ (s.T i).tries) :
    Calls Try.prog 54 #[.agg #[], pth b i, y.val] w fun e w' => (∃ r, e = .returned (.tuple #[.bool (decide (4 ≤ (s.T i).tries)), .int .i64 r]) ∧ ((s.T i).tries < 4 → r = 2 ^ (s.T i).tries.toNat)) ∧ Below w.heap.size w w' := by
  have hl : Below w.heap.size w ((w.alloc (.cells #[] 51)).alloc (.cells #[.bool y.runs, .bool y.waits, .int .i64 y.tries, .int .i64 y.merit, .int .i64 y.stamp] 55)) := by repeat (first | (with_reducible exact Below.refl _ _) | (with_reducible apply Below.drew) | (with_reducible refine below_drewN ?_ _) | (with_reducible refine below_alloc' ?_ ?_ _; (focus ((try simp) <;> omega))) | (with_reducible refine below_set' ?_ ?_ _; (focus ((try simp) <;> omega))))
  have c2 := (H.below hl).tries hi
  have HL := Lib.hid hl
  clear H hl
  generalize (s.T i).tries = t at *
  unfold Th.val
  by_cases h4 : 4 ≤ t
  · have hd : decide (4 ≤ t) = true := by simpa using h4
    rw [hd]
    go_enter Try.func54, Try.ntmps54
    go_wp2_with fail
    generalize ((w.alloc (.cells #[] 51)).alloc (.cells #[.bool y.runs, .bool y.waits, .int .i64 y.tries, .int .i64 y.merit, .int .i64 y.stamp] 55)) = w0 at *
    go_quiet (fail)
    go_wp2_with fail
    go_ret2
    refine ⟨⟨_, rfl, fun h => by omega⟩, ?_⟩
    repeat (first | (with_reducible exact HL.out) | (with_reducible apply Below.drew) | (with_reducible refine below_drewN ?_ _))
  · have h5 : t = 0 ∨ t = 1 ∨ t = 2 ∨ t = 3 := by omega
    rcases h5 with rfl | rfl | rfl | rfl
    all_goals
      go_enter Try.func54, Try.ntmps54
      go_wp2_with fail
      generalize ((w.alloc (.cells #[] 51)).alloc (.cells #[.bool y.runs, .bool y.waits, .int .i64 y.tries, .int .i64 y.merit, .int .i64 y.stamp] 55)) = w0 at *
      go_quiet (fail)
      go_wp2_with fail
      go_ret2
      refine ⟨⟨_, rfl, fun h => by decide⟩, ?_⟩
      repeat (first | (with_reducible exact HL.out) | (with_reducible apply Below.drew) | (with_reducible refine below_drewN ?_ _))
theorem ksettle_any (w : World) (b : Nat) (h : Value) (s : MSt) (H : MAt 58 w b h s) (i : Nat) (hi : i < 4) (y : Th) (ht : 0 ≤ (s.T i).tries ∧ (s.T i).tries ≤ 1000000) (hm : 0 ≤ (s.T i).merit ∧ (s.T i).merit ≤ 1000) :
    Calls Try.prog 55 #[.agg #[], pth b i, y.val] w fun e w' => e = .returned (.tuple #[.bool (decide (y.merit < (s.T i).merit + (s.T i).tries)), .int .i64 1]) ∧ Below w.heap.size w w' := by
  have hl : Below w.heap.size w ((w.alloc (.cells #[] 59)).alloc (.cells #[.bool y.runs, .bool y.waits, .int .i64 y.tries, .int .i64 y.merit, .int .i64 y.stamp] 55)) := by repeat (first | (with_reducible exact Below.refl _ _) | (with_reducible apply Below.drew) | (with_reducible refine below_drewN ?_ _) | (with_reducible refine below_alloc' ?_ ?_ _; (focus ((try simp) <;> omega))) | (with_reducible refine below_set' ?_ ?_ _; (focus ((try simp) <;> omega))))
  have c2 := (H.below hl).tries hi
  have c3 := (H.below hl).merit hi
  have hz : (w.alloc (.cells #[] 59)).heap.size = w.heap.size + 1 := by simp
  have hx := blk_new (w.alloc (.cells #[] 59)) (.cells #[.bool y.runs, .bool y.waits, .int .i64 y.tries, .int .i64 y.merit, .int .i64 y.stamp] 55)
  have y3 := blk_cell hx 3
  simp only [hz, List.getElem?_toArray, List.getElem?_cons_zero, List.getElem?_cons_succ] at y3
  have HL := Lib.hid hl
  clear H hl hx
  have hw : IntKind.i64.wrap ((s.T i).merit + (s.T i).tries) = (s.T i).merit + (s.T i).tries := by rw [IntKind.wrap_i64]; omega
  generalize (s.T i).tries = t at *
  generalize (s.T i).merit = m at *
  unfold Th.val
  go_enter Try.func55, Try.ntmps55
  go_wp2_with fail
  generalize ((w.alloc (.cells #[] 59)).alloc (.cells #[.bool y.runs, .bool y.waits, .int .i64 y.tries, .int .i64 y.merit, .int .i64 y.stamp] 55)) = w0 at *
  go_quiet (fail)
  go_wp2_with fail
  go_ret2
  refine ⟨rfl, ?_⟩
  repeat (first | (with_reducible exact HL.out) | (with_reducible apply Below.drew) | (with_reducible refine below_drewN ?_ _))
theorem gsettle_any (w : World) (b : Nat) (h : Value) (s : MSt) (H : MAt 58 w b h s) (i : Nat) (hi : i < 4) (y : Th) :
    Calls Try.prog 57 #[.agg #[], pth b i, y.val] w fun e w' => e = .returned (.tuple #[.bool (killV 3 (s.T i) y), .int .i64 1]) ∧ Only (fun k => k = b) w w' ∧
      MAt 58 w' b h (if killV 3 (s.T i) y then s else ⟨upd s.T i { s.T i with waits := true }, s.last⟩) := by
  have hlt := H.lt
  have hl : Below w.heap.size w ((w.alloc (.cells #[] 60)).alloc (.cells #[.bool y.runs, .bool y.waits, .int .i64 y.tries, .int .i64 y.merit, .int .i64 y.stamp] 55)) := by repeat (first | (with_reducible exact Below.refl _ _) | (with_reducible apply Below.drew) | (with_reducible refine below_drewN ?_ _) | (with_reducible refine below_alloc' ?_ ?_ _; (focus ((try simp) <;> omega))) | (with_reducible refine below_set' ?_ ?_ _; (focus ((try simp) <;> omega))))
  have HH := H.below hl
  have c4 := HH.stamp hi
  have c1 := HH.waits hi
  have cf := HH.free
  have hz : (w.alloc (.cells #[] 60)).heap.size = w.heap.size + 1 := by simp
  have hx := blk_new (w.alloc (.cells #[] 60)) (.cells #[.bool y.runs, .bool y.waits, .int .i64 y.tries, .int .i64 y.merit, .int .i64 y.stamp] 55)
  have y1 := blk_cell hx 1
  have y4 := blk_cell hx 4
  simp only [hz, List.getElem?_toArray, List.getElem?_cons_zero, List.getElem?_cons_succ] at y1 y4
  have HL := Lib.hid (Only.of_below (S := fun k => k = b) hl (fun k hk h => by omega))
  have HN := Lib.hid HH
  have hk : killV 3 (s.T i) y = (y.waits || decide ((s.T i).stamp < y.stamp)) := rfl
  have HF := Lib.hid (fun W (HW : MAt 58 W b h s) => HW.setWaits hi true)
  clear H hl hx HH hlt hz
  unfold Th.val
  obtain ⟨yr, yw, yt, ym, ys⟩ := y
  simp only at *
  cases yw
  · rw [Bool.false_or] at hk
    cases hd : decide ((s.T i).stamp < ys)
    · rw [hd] at hk
      rw [hk]
      clear hk
      generalize (s.T i).stamp = st at *
      generalize (s.T i).waits = wt at *
      go_enter Try.func57, Try.ntmps57
      go_wp2_with fail
      generalize ((w.alloc (.cells #[] 60)).alloc (.cells #[.bool yr, .bool false, .int .i64 yt, .int .i64 ym, .int .i64 ys] 55)) = w0 at *
      go_quiet (fail)
      go_wp2_with fail
      go_ret2
      refine ⟨rfl, ?_, HF.out _ (HN.out.only ((Only.refl (fun _ => False) _).drewN _) (fun h => h))⟩
      repeat (first | (with_reducible exact HL.out) | (with_reducible apply Only.drew) | (with_reducible apply Only.drewN) | (with_reducible refine only_set' ?_ ?_ _; (focus ((try simp) <;> omega))))
    · rw [hd] at hk
      rw [hk]
      clear hk
      generalize (s.T i).stamp = st at *
      generalize (s.T i).waits = wt at *
      go_enter Try.func57, Try.ntmps57
      go_wp2_with fail
      generalize ((w.alloc (.cells #[] 60)).alloc (.cells #[.bool yr, .bool false, .int .i64 yt, .int .i64 ym, .int .i64 ys] 55)) = w0 at *
      go_quiet (fail)
      go_wp2_with fail
      go_ret2
      refine ⟨rfl, ?_, (HN.out.only ((Only.refl (fun _ => False) _).drewN _) (fun h => h))⟩
      repeat (first | (with_reducible exact HL.out) | (with_reducible apply Only.drew) | (with_reducible apply Only.drewN) | (with_reducible refine only_set' ?_ ?_ _; (focus ((try simp) <;> omega))))
  · rw [Bool.true_or] at hk
    rw [hk]
    clear hk
    generalize (s.T i).stamp = st at *
    generalize (s.T i).waits = wt at *
    go_enter Try.func57, Try.ntmps57
    go_wp2_with fail
    generalize ((w.alloc (.cells #[] 60)).alloc (.cells #[.bool yr, .bool true, .int .i64 yt, .int .i64 ym, .int .i64 ys] 55)) = w0 at *
    go_quiet (fail)
    go_wp2_with fail
    go_ret2
    refine ⟨rfl, ?_, (HN.out.only ((Only.refl (fun _ => False) _).drewN _) (fun h => h))⟩
    repeat (first | (with_reducible exact HL.out) | (with_reducible apply Only.drew) | (with_reducible apply Only.drewN) | (with_reducible refine only_set' ?_ ?_ _; (focus ((try simp) <;> omega))))

/-! ### Choose -/
theorem pth_eq (w : World) (b : Nat) (h : Value) (s : MSt) (H : MAt 58 w b h s) (i j : Nat) : (binOp .eql 61 (pth b i) (pth b j)).run Try.prog w = .ok (.bool (decide (i = j))) w := by
  obtain ⟨k, hk⟩ : ∃ k, Try.prog.info? 55 = some k := Option.isSome_iff_exists.1 (by kernel_rfl)
  have hz : (Try.prog.info? 55).map (·.size) = some 5 := by kernel_rfl
  rw [hk] at hz
  have hz5 : k.size = 5 := by injection hz
  by_cases hij : i = j
  · subst hij
    simp only [decide_true]
    exact run_eql_ptr_same w _ Try.underlying61 hk
  · simp only [hij, decide_false]
    refine run_eql_ptr_other w Try.underlying61 hk (by omega) ?_ H H
    intro e
    injection e with _ e2 _
    exact hij (by omega)
theorem chooseE_ok {s : MSt} {i j : Nat} (hi : i < 4) (hj : j < 4) : s.chooseE i j = if i = j ∨ (s.T i).runs = false ∨ (s.T j).runs = false then 8 else 0 := by
  rw [MSt.chooseE, if_pos ⟨okTh_lt hi, okTh_lt hj⟩]
  simp only [Int.toNat_natCast, Int.natCast_inj]
theorem choose_bad (w : World) (b : Nat) (h : Value) (s : MSt) (H : MAt 58 w b h s) (i j : Nat) (hi : i < 4) (hj : j < 4) (hE : i = j ∨ (s.T i).runs = false ∨ (s.T j).runs = false) :
    Calls Try.prog 11 #[ptr b, .int .i64 i, .int .i64 j] w fun e w' => e = .returned (.tuple #[.int .u8 0, .int .i64 0, .int .i64 8]) ∧ w = w' := by
  have ci := H.runs hi
  have cj := H.runs hj
  have heq := pth_eq w b h s H i j
  by_cases hij : i = j
  · subst hij
    rw [decide_eq_true rfl] at heq
    clear hE H
    go_enter Try.func11, Try.ntmps11
    go_wp2_with fail; refine (at_ok w b i hi).mono ?_; rintro e w0 ⟨rfl, rfl⟩
    go_wp2_with fail; refine (at_ok w b i hi).mono ?_; rintro e w0 ⟨rfl, rfl⟩
    go_wp2_with fail
    go_ret3
    exact ⟨rfl, rfl⟩
  · rw [decide_eq_false hij] at heq
    cases h1 : (s.T i).runs
    · rw [h1] at ci
      clear hE h1 hij H
      go_enter Try.func11, Try.ntmps11
      go_wp2_with fail; refine (at_ok w b i hi).mono ?_; rintro e w0 ⟨rfl, rfl⟩
      go_wp2_with fail; refine (at_ok w b j hj).mono ?_; rintro e w0 ⟨rfl, rfl⟩
      go_wp2_with fail
      go_ret3
      exact ⟨rfl, rfl⟩
    · have h2 : (s.T j).runs = false := by
        rcases hE with h | h | h
        · exact absurd h hij
        · rw [h1] at h; cases h
        · exact h
      rw [h1] at ci
      rw [h2] at cj
      clear hE h1 h2 hij H
      go_enter Try.func11, Try.ntmps11
      go_wp2_with fail; refine (at_ok w b i hi).mono ?_; rintro e w0 ⟨rfl, rfl⟩
      go_wp2_with fail; refine (at_ok w b j hj).mono ?_; rintro e w0 ⟨rfl, rfl⟩
      go_wp2_with fail
      go_ret3
      exact ⟨rfl, rfl⟩
theorem choose_no1 (w : World) (b : Nat) (th other : Int) (hn : ¬ okTh th) :
    Calls Try.prog 11 #[ptr b, .int .i64 th, .int .i64 other] w fun e w' => e = .returned (.tuple #[.int .u8 0, .int .i64 0, .int .i64 2]) ∧ w = w' := by
  go_enter Try.func11, Try.ntmps11
  go_wp2_with fail; refine (at_no w b th hn).mono ?_; rintro e w0 ⟨rfl, rfl⟩
  go_wp2_with fail
  go_ret3
  exact ⟨rfl, rfl⟩
theorem choose_no2 (w : World) (b : Nat) (i : Nat) (hi : i < 4) (other : Int) (hn : ¬ okTh other) :
    Calls Try.prog 11 #[ptr b, .int .i64 i, .int .i64 other] w fun e w' => e = .returned (.tuple #[.int .u8 0, .int .i64 0, .int .i64 2]) ∧ w = w' := by
  go_enter Try.func11, Try.ntmps11
  go_wp2_with fail; refine (at_ok w b i hi).mono ?_; rintro e w0 ⟨rfl, rfl⟩
  go_wp2_with fail; refine (at_no w b other hn).mono ?_; rintro e w0 ⟨rfl, rfl⟩
  go_wp2_with fail
  go_ret3
  exact ⟨rfl, rfl⟩
theorem choose_nil (w : World) (th other : Int) :
    Calls Try.prog 11 #[.pointer none, .int .i64 th, .int .i64 other] w fun e w' => e = .returned (.tuple #[.int .u8 0, .int .i64 0, .int .i64 1]) ∧ w = w' := by
  go_enter Try.func11, Try.ntmps11
  go_wp2_with fail; refine (at_nil w th).mono ?_; rintro e w0 ⟨rfl, rfl⟩
  go_wp2_with fail
  go_ret3
  exact ⟨rfl, rfl⟩
theorem tval (t : Th) (h : t.runs = true) : t.val = .agg #[.bool true, .bool t.waits, .int .i64 t.tries, .int .i64 t.merit, .int .i64 t.stamp] := by rw [Th.val, h]
theorem only_drew {S : Nat → Prop} {w w1 : World} (h : Only S w.drew w1) : Only S w w1 := ⟨h.os, h.tape, h.output, h.size, h.block⟩
def ChoosePost (k : Nat) (w : World) (b : Nat) (s : MSt) (i j : Nat) (e : Ending) (w' : World) : Prop :=
  e = .returned (.tuple #[.int .u8 (if killV k (s.T i) (s.T j) then 2 else 1), .int .i64 (if killV k (s.T i) (s.T j) then 0 else ticksV k (s.T i)), .int .i64 0]) ∧ Only (fun k => k = b) w w' ∧
      MAt 58 w' b (pol k) (if killV k (s.T i) (s.T j) then s else ⟨upd s.T i (waited k (s.T i)), s.last⟩)
theorem choose_p (w : World) (b : Nat) (s : MSt) (H : MAt 58 w b (pol 1) s) (i j : Nat) (hi : i < 4) (hj : j < 4) (hij : i ≠ j) (h1 : (s.T i).runs = true) (h2 : (s.T j).runs = true)
    (ht : 0 ≤ (s.T i).tries ∧ (s.T i).tries ≤ 1000000) (hm : 0 ≤ (s.T i).merit ∧ (s.T i).merit ≤ 1000) :
    Calls Try.prog 11 #[ptr b, .int .i64 i, .int .i64 j] w (ChoosePost 1 w b s i j) := by
  have ci := H.runs hi
  have cj := H.runs hj
  have heq := pth_eq w b _ s H i j
  rw [decide_eq_false hij] at heq
  rw [h1] at ci; rw [h2] at cj
  have y1 := H.waits hj; have y2 := H.tries hj; have y3 := H.merit hj; have y4 := H.stamp hj
  have hhd := H.head
  have hlt := H.lt
  have hS := psettle_any w.drew b _ s H i hi (s.T j) ht.1
  rw [tval _ h2] at hS
  have HM := Lib.hid (show MAt 58 w.drew b (pol 1) s from H)
  have HW := Lib.hid (fun W (HW : MAt 58 W b (pol 1) s) => HW.setTries hi ((s.T i).tries + 1))
  have hwt : waited 1 (s.T i) = { s.T i with tries := (s.T i).tries + 1 } := by simp [waited]
  have hw : IntKind.i64.wrap ((s.T i).tries + 1) = (s.T i).tries + 1 := by rw [IntKind.wrap_i64]; omega
  have hK : killV 1 (s.T i) (s.T j) = decide (4 ≤ (s.T i).tries) := rfl
  unfold pol at hhd
  simp only [if_true, show ¬ ((2 : Nat) = 1) by decide, if_false] at hhd
  unfold ChoosePost
  rw [hwt]
  cases hkill : killV 1 (s.T i) (s.T j)
  all_goals
    simp only [if_true, Bool.false_eq_true, if_false]
    rw [hkill] at hK
    rw [← hK] at hS
    have HS := Lib.hid hS
    have HK := Lib.hid hK
    clear hS H h2 hwt hkill hK
    go_enter Try.func11, Try.ntmps11
    go_wp2_with fail; refine (at_ok w b i hi).mono ?_; rintro e w0 ⟨rfl, rfl⟩
    go_wp2_with fail; refine (at_ok w b j hj).mono ?_; rintro e w0 ⟨rfl, rfl⟩
    go_wp2_with fail
    have KW := Lib.hid (show ∀ w', Below w.heap.size w w' → (w'.cell? ⟨b, 0, none⟩ = some (.iface 51 (.agg #[])) ∧ w'.cell? ⟨b, 1 + j * 5, none⟩ = some (.bool true) ∧ w'.cell? ⟨b, 1 + j * 5 + 1, none⟩ = some (.bool (s.T j).waits) ∧ w'.cell? ⟨b, 1 + j * 5 + 2, none⟩ = some (.int .i64 (s.T j).tries) ∧ w'.cell? ⟨b, 1 + j * 5 + 3, none⟩ = some (.int .i64 (s.T j).merit) ∧ w'.cell? ⟨b, 1 + j * 5 + 4, none⟩ = some (.int .i64 (s.T j).stamp)) from fun w' h => ⟨bkeep h hhd, bkeep h cj, bkeep h y1, bkeep h y2, bkeep h y3, bkeep h y4⟩)
    have QA := KW.out w.drew ((Below.refl _ _).drew)
    go_region_held3 (fun w' => w'.cell? ⟨b, 0, none⟩ = some (.iface 51 (.agg #[])) ∧ w'.cell? ⟨b, 1 + j * 5, none⟩ = some (.bool true) ∧ w'.cell? ⟨b, 1 + j * 5 + 1, none⟩ = some (.bool (s.T j).waits) ∧ w'.cell? ⟨b, 1 + j * 5 + 2, none⟩ = some (.int .i64 (s.T j).tries) ∧ w'.cell? ⟨b, 1 + j * 5 + 3, none⟩ = some (.int .i64 (s.T j).merit) ∧ w'.cell? ⟨b, 1 + j * 5 + 4, none⟩ = some (.int .i64 (s.T j).stamp)) (first | (with_reducible exact QA) | (with_reducible exact QB)) ((refine HS.out.mono ?_; rintro e w1 ⟨⟨r, rfl, hr⟩, l1⟩; have QB := KW.out w1 (btrans ((Below.refl _ _).drew) (Nat.le_refl _) l1)))
    have O1 := Lib.hid (only_drew (Only.of_below (S := fun k => k = b) l1 (fun k hk h => by have : w.drew.heap.size = w.heap.size := rfl; omega)))
    have M1 := Lib.hid (HM.out.below l1)
    have d2 := M1.out.tries hi
    have df := M1.out.free
    clear HS heq ci cj y1 y2 y3 y4 hhd HM
  · have hr' := hr (by have := HK.out; simp at this; omega)
    subst hr'
    have HWW := Lib.hid (HW.out _ M1.out)
    clear hr HW
    go_wp2_with fail
    go_ret3
    refine ⟨rfl, ?_, HWW.out⟩
    repeat (first | (with_reducible exact O1.out) | (with_reducible refine only_set' ?_ ?_ _; (focus ((try simp) <;> omega))))
  · clear hr
    go_wp2_with fail
    go_ret3
    exact ⟨rfl, O1.out, M1.out⟩
theorem choose_k (w : World) (b : Nat) (s : MSt) (H : MAt 58 w b (pol 2) s) (i j : Nat) (hi : i < 4) (hj : j < 4) (hij : i ≠ j) (h1 : (s.T i).runs = true) (h2 : (s.T j).runs = true)
    (ht : 0 ≤ (s.T i).tries ∧ (s.T i).tries ≤ 1000000) (hm : 0 ≤ (s.T i).merit ∧ (s.T i).merit ≤ 1000) :
    Calls Try.prog 11 #[ptr b, .int .i64 i, .int .i64 j] w (ChoosePost 2 w b s i j) := by
  have ci := H.runs hi
  have cj := H.runs hj
  have heq := pth_eq w b _ s H i j
  rw [decide_eq_false hij] at heq
  rw [h1] at ci; rw [h2] at cj
  have y1 := H.waits hj; have y2 := H.tries hj; have y3 := H.merit hj; have y4 := H.stamp hj
  have hhd := H.head
  have hlt := H.lt
  have hS := ksettle_any w.drew b _ s H i hi (s.T j) ht hm
  rw [tval _ h2] at hS
  have HM := Lib.hid (show MAt 58 w.drew b (pol 2) s from H)
  have HW := Lib.hid (fun W (HW : MAt 58 W b (pol 2) s) => HW.setTries hi ((s.T i).tries + 1))
  have hwt : waited 2 (s.T i) = { s.T i with tries := (s.T i).tries + 1 } := by simp [waited]
  have hw : IntKind.i64.wrap ((s.T i).tries + 1) = (s.T i).tries + 1 := by rw [IntKind.wrap_i64]; omega
  have hK : killV 2 (s.T i) (s.T j) = decide ((s.T j).merit < (s.T i).merit + (s.T i).tries) := rfl
  unfold pol at hhd
  simp only [if_true, show ¬ ((2 : Nat) = 1) by decide, if_false] at hhd
  unfold ChoosePost
  rw [hwt]
  cases hkill : killV 2 (s.T i) (s.T j)
  all_goals
    simp only [if_true, Bool.false_eq_true, if_false]
    rw [hkill] at hK
    rw [← hK] at hS
    have HS := Lib.hid hS
    have HK := Lib.hid hK
    clear hS H h2 hwt hkill hK
    go_enter Try.func11, Try.ntmps11
    go_wp2_with fail; refine (at_ok w b i hi).mono ?_; rintro e w0 ⟨rfl, rfl⟩
    go_wp2_with fail; refine (at_ok w b j hj).mono ?_; rintro e w0 ⟨rfl, rfl⟩
    go_wp2_with fail
    have KW := Lib.hid (show ∀ w', Below w.heap.size w w' → (w'.cell? ⟨b, 0, none⟩ = some (.iface 59 (.agg #[])) ∧ w'.cell? ⟨b, 1 + j * 5, none⟩ = some (.bool true) ∧ w'.cell? ⟨b, 1 + j * 5 + 1, none⟩ = some (.bool (s.T j).waits) ∧ w'.cell? ⟨b, 1 + j * 5 + 2, none⟩ = some (.int .i64 (s.T j).tries) ∧ w'.cell? ⟨b, 1 + j * 5 + 3, none⟩ = some (.int .i64 (s.T j).merit) ∧ w'.cell? ⟨b, 1 + j * 5 + 4, none⟩ = some (.int .i64 (s.T j).stamp)) from fun w' h => ⟨bkeep h hhd, bkeep h cj, bkeep h y1, bkeep h y2, bkeep h y3, bkeep h y4⟩)
    have QA := KW.out w.drew ((Below.refl _ _).drew)
    go_region_held3 (fun w' => w'.cell? ⟨b, 0, none⟩ = some (.iface 59 (.agg #[])) ∧ w'.cell? ⟨b, 1 + j * 5, none⟩ = some (.bool true) ∧ w'.cell? ⟨b, 1 + j * 5 + 1, none⟩ = some (.bool (s.T j).waits) ∧ w'.cell? ⟨b, 1 + j * 5 + 2, none⟩ = some (.int .i64 (s.T j).tries) ∧ w'.cell? ⟨b, 1 + j * 5 + 3, none⟩ = some (.int .i64 (s.T j).merit) ∧ w'.cell? ⟨b, 1 + j * 5 + 4, none⟩ = some (.int .i64 (s.T j).stamp)) (first | (with_reducible exact QA) | (with_reducible exact QB)) ((refine HS.out.mono ?_; rintro e w1 ⟨rfl, l1⟩; have QB := KW.out w1 (btrans ((Below.refl _ _).drew) (Nat.le_refl _) l1)))
    have O1 := Lib.hid (only_drew (Only.of_below (S := fun k => k = b) l1 (fun k hk h => by have : w.drew.heap.size = w.heap.size := rfl; omega)))
    have M1 := Lib.hid (HM.out.below l1)
    have d2 := M1.out.tries hi
    have df := M1.out.free
    clear HS heq ci cj y1 y2 y3 y4 hhd HM
  · have HWW := Lib.hid (HW.out _ M1.out)
    clear HW
    go_wp2_with fail
    go_ret3
    refine ⟨rfl, ?_, HWW.out⟩
    repeat (first | (with_reducible exact O1.out) | (with_reducible refine only_set' ?_ ?_ _; (focus ((try simp) <;> omega))))
  · go_wp2_with fail
    go_ret3
    exact ⟨rfl, O1.out, M1.out⟩
theorem choose_g (w : World) (b : Nat) (s : MSt) (H : MAt 58 w b (pol 3) s) (i j : Nat) (hi : i < 4) (hj : j < 4) (hij : i ≠ j) (h1 : (s.T i).runs = true) (h2 : (s.T j).runs = true)
    (ht : 0 ≤ (s.T i).tries ∧ (s.T i).tries ≤ 1000000) (hm : 0 ≤ (s.T i).merit ∧ (s.T i).merit ≤ 1000) :
    Calls Try.prog 11 #[ptr b, .int .i64 i, .int .i64 j] w (ChoosePost 3 w b s i j) := by
  have ci := H.runs hi
  have cj := H.runs hj
  have heq := pth_eq w b _ s H i j
  rw [decide_eq_false hij] at heq
  rw [h1] at ci; rw [h2] at cj
  have y1 := H.waits hj; have y2 := H.tries hj; have y3 := H.merit hj; have y4 := H.stamp hj
  have hhd := H.head
  have hlt := H.lt
  have HG := Lib.hid (show ∀ w' s', MAt 58 w' b (pol 3) s' → s'.T j = s.T j → (w'.cell? ⟨b, 0, none⟩ = some (.iface 60 (.agg #[])) ∧ w'.cell? ⟨b, 1 + j * 5, none⟩ = some (.bool true) ∧ w'.cell? ⟨b, 1 + j * 5 + 1, none⟩ = some (.bool (s.T j).waits) ∧ w'.cell? ⟨b, 1 + j * 5 + 2, none⟩ = some (.int .i64 (s.T j).tries) ∧ w'.cell? ⟨b, 1 + j * 5 + 3, none⟩ = some (.int .i64 (s.T j).merit) ∧ w'.cell? ⟨b, 1 + j * 5 + 4, none⟩ = some (.int .i64 (s.T j).stamp)) from fun w' s' h e => by
    have q0 := h.head; have q1 := h.runs hj; have q2 := h.waits hj; have q3 := h.tries hj; have q4 := h.merit hj; have q5 := h.stamp hj
    rw [e] at q1 q2 q3 q4 q5
    rw [h2] at q1
    exact ⟨q0, q1, q2, q3, q4, q5⟩)
  have hS := gsettle_any w.drew b _ s H i hi (s.T j)
  rw [tval _ h2] at hS
  have hji : j ≠ i := fun h => hij h.symm
  have hwt : waited 3 (s.T i) = { s.T i with tries := (s.T i).tries + 1, waits := true } := by simp [waited]
  have hw : IntKind.i64.wrap ((s.T i).tries + 1) = (s.T i).tries + 1 := by rw [IntKind.wrap_i64]; omega
  unfold pol at hhd
  simp only [show ¬ ((3 : Nat) = 1) by decide, show ¬ ((3 : Nat) = 2) by decide, if_false] at hhd
  unfold ChoosePost
  rw [hwt]
  have QA := HG.out w.drew s H rfl
  cases hkill : killV 3 (s.T i) (s.T j)
  all_goals
    simp only [if_true, Bool.false_eq_true, if_false]
    rw [hkill] at hS
    simp only [if_true, Bool.false_eq_true, if_false] at hS
    have HS := Lib.hid hS
    clear hS H h2 hwt hkill
    go_enter Try.func11, Try.ntmps11
    go_wp2_with fail; refine (at_ok w b i hi).mono ?_; rintro e w0 ⟨rfl, rfl⟩
    go_wp2_with fail; refine (at_ok w b j hj).mono ?_; rintro e w0 ⟨rfl, rfl⟩
    go_wp2_with fail
  · go_region_held3 (fun w' => w'.cell? ⟨b, 0, none⟩ = some (.iface 60 (.agg #[])) ∧ w'.cell? ⟨b, 1 + j * 5, none⟩ = some (.bool true) ∧ w'.cell? ⟨b, 1 + j * 5 + 1, none⟩ = some (.bool (s.T j).waits) ∧ w'.cell? ⟨b, 1 + j * 5 + 2, none⟩ = some (.int .i64 (s.T j).tries) ∧ w'.cell? ⟨b, 1 + j * 5 + 3, none⟩ = some (.int .i64 (s.T j).merit) ∧ w'.cell? ⟨b, 1 + j * 5 + 4, none⟩ = some (.int .i64 (s.T j).stamp)) (first | (with_reducible exact QA) | (with_reducible exact QB)) ((refine HS.out.mono ?_; rintro e w1 ⟨rfl, o1, m1⟩; have QB := HG.out w1 _ m1 (upd_other _ hji _)))
    have O1 := Lib.hid (only_drew o1)
    have d2 := m1.tries hi
    simp only [upd_same] at d2
    have df := m1.free
    have hfin := m1.setTries hi ((s.T i).tries + 1)
    simp only [upd_upd, upd_same] at hfin
    have HF := Lib.hid hfin
    clear HS heq ci cj y1 y2 y3 y4 hhd QA QB hfin m1 o1
    go_wp2_with fail
    go_ret3
    refine ⟨rfl, ?_, HF.out⟩
    repeat (first | (with_reducible exact O1.out) | (with_reducible refine only_set' ?_ ?_ _; (focus ((try simp) <;> omega))))
  · go_region_held3 (fun w' => w'.cell? ⟨b, 0, none⟩ = some (.iface 60 (.agg #[])) ∧ w'.cell? ⟨b, 1 + j * 5, none⟩ = some (.bool true) ∧ w'.cell? ⟨b, 1 + j * 5 + 1, none⟩ = some (.bool (s.T j).waits) ∧ w'.cell? ⟨b, 1 + j * 5 + 2, none⟩ = some (.int .i64 (s.T j).tries) ∧ w'.cell? ⟨b, 1 + j * 5 + 3, none⟩ = some (.int .i64 (s.T j).merit) ∧ w'.cell? ⟨b, 1 + j * 5 + 4, none⟩ = some (.int .i64 (s.T j).stamp)) (first | (with_reducible exact QA) | (with_reducible exact QB)) ((refine HS.out.mono ?_; rintro e w1 ⟨rfl, o1, m1⟩; have QB := HG.out w1 _ m1 rfl))
    have O1 := Lib.hid (only_drew o1)
    have M1 := Lib.hid m1
    clear HS heq ci cj y1 y2 y3 y4 hhd QA QB m1 o1
    go_wp2_with fail
    go_ret3
    exact ⟨rfl, O1.out, M1.out⟩

theorem choose_any (w : World) (b : Nat) (k : Nat) (hk : k = 1 ∨ k = 2 ∨ k = 3) (s : MSt) (H : MAt 58 w b (pol k) s) (th other : Int) (ht : ∀ i, 0 ≤ (s.T i).tries ∧ (s.T i).tries ≤ 1000000) (hm : ∀ i, 0 ≤ (s.T i).merit ∧ (s.T i).merit ≤ 1000) :
    Calls Try.prog 11 #[ptr b, .int .i64 th, .int .i64 other] w fun e w' => e = .returned (.tuple #[.int .u8 (s.chooseC k th other), .int .i64 (s.chooseN k th other), .int .i64 (s.chooseE th other)]) ∧ Only (fun k => k = b) w w' ∧
      MAt 58 w' b (pol k) (s.chooseS k th other) := by
  by_cases h1 : okTh th
  · obtain ⟨i, hi, rfl⟩ := okTh_nat h1
    by_cases h2 : okTh other
    · obtain ⟨j, hj, rfl⟩ := okTh_nat h2
      have hE := chooseE_ok (s := s) hi hj
      by_cases hb : i = j ∨ (s.T i).runs = false ∨ (s.T j).runs = false
      · rw [if_pos hb] at hE
        rw [MSt.chooseC, MSt.chooseN, MSt.chooseS, hE, if_neg (by decide), if_neg (by decide), if_neg (by decide)]
        refine (choose_bad w b _ s H i j hi hj hb).mono ?_
        rintro e w' ⟨rfl, rfl⟩
        exact ⟨rfl, Only.refl _ _, H⟩
      · rw [if_neg hb] at hE
        have hij : i ≠ j := fun h => hb (.inl h)
        have r1 : (s.T i).runs = true := by
          cases h : (s.T i).runs
          · exact absurd (.inr (.inl h)) hb
          · rfl
        have r2 : (s.T j).runs = true := by
          cases h : (s.T j).runs
          · exact absurd (.inr (.inr h)) hb
          · rfl
        rw [MSt.chooseC, MSt.chooseN, MSt.chooseS, hE, if_pos rfl, if_pos rfl, if_pos rfl]
        show Calls Try.prog 11 #[ptr b, .int .i64 i, .int .i64 j] w (ChoosePost k w b s i j)
        rcases hk with rfl | rfl | rfl
        · exact choose_p w b s H i j hi hj hij r1 r2 (ht i) (hm i)
        · exact choose_k w b s H i j hi hj hij r1 r2 (ht i) (hm i)
        · exact choose_g w b s H i j hi hj hij r1 r2 (ht i) (hm i)
    · have hE : s.chooseE i other = 2 := by rw [MSt.chooseE, if_neg (fun h => h2 h.2)]
      rw [MSt.chooseC, MSt.chooseN, MSt.chooseS, hE, if_neg (by decide), if_neg (by decide), if_neg (by decide)]
      refine (choose_no2 w b i hi other h2).mono ?_
      rintro e w' ⟨rfl, rfl⟩
      exact ⟨rfl, Only.refl _ _, H⟩
  · have hE : s.chooseE th other = 2 := by rw [MSt.chooseE, if_neg (fun h => h1 h.1)]
    rw [MSt.chooseC, MSt.chooseN, MSt.chooseS, hE, if_neg (by decide), if_neg (by decide), if_neg (by decide)]
    refine (choose_no1 w b th other h1).mono ?_
    rintro e w' ⟨rfl, rfl⟩
    exact ⟨rfl, Only.refl _ _, H⟩
end Go.Proofs.Ytphnogbkiemoeaa.Man
