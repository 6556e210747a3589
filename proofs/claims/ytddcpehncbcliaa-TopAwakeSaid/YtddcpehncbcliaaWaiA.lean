/- Sets of variables as bits; lists of numbers: same, few, in. -/
import Derived.Test.YtddcpehncbcliaaWaiM
namespace Go.Proofs.Ytddcpehncbcliaa.Wai
open Go.RowKit
set_option linter.unusedSimpArgs false
set_option linter.unusedVariables false

/-- numbers in memory, that came in or not -/
def IntsIn (w : World) (a : Option Addr) (n : Nat) (ts : List Int) : Prop :=
  ts.length = n ∧ (n = 0 ∨ ∃ b off, a = some ⟨b, off, none⟩ ∧ ∀ i, i < n → w.cell? ⟨b, off + i, none⟩ = some (.int .i64 (ts.getD i 0)))
theorem IntsIn.below {w w' : World} {a : Option Addr} {n : Nat} {ts : List Int} (h : IntsIn w a n ts) (l : Below w.heap.size w w') : IntsIn w' a n ts :=
  ⟨h.1, h.2.imp id fun ⟨b, off, e, hc⟩ => ⟨b, off, e, fun i hi => bkeep l (hc i hi)⟩⟩
theorem take_snoc (ts : List Int) (k : Nat) (h : k < ts.length) : ts.take (k + 1) = ts.take k ++ [ts.getD k 0] := by
  rw [List.take_add_one, List.getElem?_eq_getElem h, List.getD_eq_getElem?_getD, List.getElem?_eq_getElem h]; rfl
theorem shl32 (t : Nat) (h : t < 12) : (2 : Int) ^ t % 4294967296 = ((2 ^ t : Nat) : Int) := by
  have : ∀ t, t < 12 → (2 : Int) ^ t % 4294967296 = ((2 ^ t : Nat) : Int) := by decide
  exact this t h
def setR (ts : List Int) : Nat := if ts.all okB then setN ts else 0
theorem setOf_any (w : World) (a : Option Addr) (n c : Nat) (ts : List Int) (h : IntsIn w a n ts) (hn : n ≤ 1000000) :
    Calls Try.prog 36 #[.slice a n c] w fun e w' => e = .returned (.tuple #[.int .u32 (setR ts), .bool (ts.all okB)]) ∧ w = w' := by
  obtain ⟨hl, hc⟩ := h
  have HC := Lib.hid hc; have HL := Lib.hid hl
  clear hc hl
  go_enter Try.func36, Try.ntmps36
  go_wp2_with fail
  go_loopw [4, 9] (fun s i wr => ∃ k : Nat, i = .int .i64 k ∧ k ≤ n ∧ s = .int .u32 (setN (ts.take k)) ∧ (ts.take k).all okB = true ∧ wr = w) (fun _ i _ => n - (intOf i).toNat)
  case atStart => exact ⟨0, rfl, Nat.zero_le _, rfl, rfl, rfl⟩
  case round =>
    obtain ⟨k, rfl, hk, rfl, hall, rfl⟩ := hrel
    by_cases hlt : k < n
    · obtain ⟨b, off, rfl, hcell⟩ := HC.out.resolve_left (by omega)
      have c0 := hcell k hlt
      have hT := take_snoc ts k (by rw [HL.out]; exact hlt)
      have hmem : ts.getD k 0 ∈ ts := by rw [List.getD_eq_getElem?_getD, List.getElem?_eq_getElem (by rw [HL.out]; exact hlt)]; exact List.getElem_mem _
      have HT := Lib.hid hT; have HM := Lib.hid hmem; have HA := Lib.hid hall
      clear hcell hT hmem hall
      generalize ts.getD k 0 = t at *
      by_cases h0 : t < 0
      · have hd : decide (t < 0) = true := by simpa using h0
        have hbad : ts.all okB = false := by rw [List.all_eq_false]; exact ⟨t, HM.out, by simp [okB]; omega⟩
        have hR : setR ts = 0 := by unfold setR; rw [hbad]; rfl
        have HB := Lib.hid hbad; have HR := Lib.hid hR
        clear h0 hbad hR
        go_wp2_with fail
        go_ret2
        exact ⟨by rw [HB.out, HR.out]; rfl, rfl⟩
      · have hd : decide (t < 0) = false := by simpa using h0
        by_cases h12 : 12 ≤ t
        · have hd2 : decide (12 ≤ t) = true := by simpa using h12
          have hbad : ts.all okB = false := by rw [List.all_eq_false]; exact ⟨t, HM.out, by simp [okB]; omega⟩
          have hR : setR ts = 0 := by unfold setR; rw [hbad]; rfl
          have HB := Lib.hid hbad; have HR := Lib.hid hR
          clear h0 hbad hR h12
          go_wp2_with fail
          go_ret2
          exact ⟨by rw [HB.out, HR.out]; rfl, rfl⟩
        · have hd2 : decide (12 ≤ t) = false := by simpa using h12
          obtain ⟨q, rfl⟩ : ∃ q : Nat, t = q := ⟨t.toNat, by omega⟩
          have hq : q < 12 := by omega
          have hsh := shl32 q hq
          have hp11 : (2 : Nat) ^ q ≤ 2 ^ 11 := Nat.pow_le_pow_right (by decide) (by omega)
          have hok : ∀ t ∈ ts.take k, okB t = true := List.all_eq_true.1 HA.out
          have hs12 := setN_lt hok
          have hor := u32_or_nat (setN (ts.take k)) (2 ^ q) (by omega) (by omega)
          have HN := Lib.hid (show setN (ts.take (k + 1)) = setN (ts.take k) ||| 2 ^ q by rw [HT.out, setN_snoc]; rfl)
          have HA2 := Lib.hid (show (ts.take (k + 1)).all okB = true by rw [HT.out, List.all_append, HA.out]; simp [okB]; omega)
          clear hok h0 h12 hp11
          generalize setN (ts.take k) = s0 at *
          have HSH := Lib.hid hsh; have HOR := Lib.hid hor
          clear hsh hor
          go_wp2_with fail
          exact ⟨⟨k + 1, by go_num, by omega, by rw [HSH.out, HOR.out, HN.out], HA2.out, trivial⟩, by simp [intOf]; omega⟩
    · obtain rfl : k = n := by omega
      rw [List.take_of_length_le (by rw [HL.out]; exact Nat.le_refl _)] at hall ⊢
      have hR : setR ts = setN ts := by unfold setR; rw [hall]; rfl
      have HR := Lib.hid hR; have HA := Lib.hid hall
      clear hR hall
      go_wp2_with fail
      go_ret2
      exact ⟨by rw [HR.out, HA.out]; rfl, rfl⟩
/-! ### list -/
def IntsAt (B : Nat) (w : World) (v : Value) (ts : List Int) : Prop := w.ownsRow B 3 1 v ts.length (ts.map fun t => .int .i64 t)
theorem IntsAt.below {B : Nat} {w w' : World} {v : Value} {ts : List Int} (h : IntsAt B w v ts) (l : Below w.heap.size w w') : IntsAt B w' v ts := ownsRow_only h (Only.empty l (Nat.le_refl _)) (fun _ _ h => h)
theorem IntsAt.open {B : Nat} {w : World} {v : Value} {ts : List Int} (h : IntsAt B w v ts) : ∃ a c, v = .slice a ts.length c ∧ IntsIn w a ts.length ts := by
  rcases h.2 with ⟨rfl, h0⟩ | ⟨g, cap, cur, rfl, _⟩
  · exact ⟨none, 0, by rw [h0], rfl, .inl h0⟩
  · refine ⟨_, _, rfl, rfl, .inr ⟨g, 0, rfl, fun i hi => ?_⟩⟩
    rw [Nat.zero_add]
    have hx : (ts.map fun t => Value.int .i64 t)[i]? = some (.int .i64 (ts.getD i 0)) := by
      rw [List.getElem?_map, List.getElem?_eq_getElem hi, List.getD_eq_getElem?_getD, List.getElem?_eq_getElem hi]; rfl
    have := World.ownsRow.cells h (g := g) rfl i _ hx
    rwa [Addr.add_lit, Nat.zero_add] at this
theorem infoI : (Try.prog.info? 3).map (fun i => (i.zero, i.size, i.bytes)) = some (some (.int .i64 0), 1, 8) := by kernel_rfl
def bitsOf (s : Nat) : Nat → List Int
  | 0 => []
  | k + 1 => bitsOf s k ++ (if s.testBit k then [(k : Int)] else [])
theorem bitsOf_len (s k : Nat) : (bitsOf s k).length ≤ k := by
  induction k with
  | zero => simp [bitsOf]
  | succ k ih => simp only [bitsOf, List.length_append]; split <;> simp <;> omega
theorem shr32 (s t : Nat) (hs : s < 4294967296) : bits .and .u32 ((s : Int) / 2 ^ t) 1 = if s.testBit t then 1 else 0 := by
  have e : (s : Int) / 2 ^ t = ((s / 2 ^ t : Nat) : Int) := by simp
  rw [e]
  have hlt : s / 2 ^ t < 4294967296 := Nat.lt_of_le_of_lt (Nat.div_le_self _ _) hs
  have := u32_and_nat (s / 2 ^ t) 1 hlt (by decide)
  rw [show ((1 : Nat) : Int) = 1 from rfl] at this
  rw [this, nat_mask1, Nat.testBit_eq_decide_div_mod_eq]
  by_cases h : s / 2 ^ t % 2 = 1
  · simp [h]
  · have : s / 2 ^ t % 2 = 0 := by omega
    simp [this]
set_option maxHeartbeats 1600000 in
theorem list_any (w : World) (s : Nat) (hs : s < 4096) : Calls Try.prog 31 #[.int .u32 s] w fun e w' => ∃ v, e = .returned v ∧ IntsAt w.heap.size w' v (bitsOf s 12) ∧ Below w.heap.size w w' := by
  obtain ⟨i0, hi, hz0, hz1, hz2⟩ := info_parts infoI
  go_enter Try.func31, Try.ntmps31
  go_wp2_with fail
  go_loopw [3, 5] (fun v i wr => ∃ k : Nat, i = .int .i64 k ∧ k ≤ 12 ∧ IntsAt w.heap.size wr v (bitsOf s k) ∧ Below w.heap.size w wr) (fun _ i _ => 12 - (intOf i).toNat)
  case atStart => exact ⟨0, rfl, by decide, World.ownsRow_nil _ _ _ _, Below.refl _ _⟩
  case round =>
    obtain ⟨k, rfl, hk, hR, hB⟩ := hrel
    have HR := Lib.hid hR; have HB := Lib.hid hB
    have hlen := bitsOf_len s k
    clear hR hB
    by_cases hlt : k < 12
    · have hsh := shr32 s k (by omega)
      cases hb : s.testBit k
      · rw [hb] at hsh
        simp only [Bool.false_eq_true, if_false] at hsh
        have HBS := Lib.hid (show bitsOf s (k + 1) = bitsOf s k by simp [bitsOf, hb])
        clear hb
        go_wp2_with fail
        exact ⟨⟨k + 1, by go_num, by omega, by rw [HBS.out]; exact HR.out, HB.out⟩, by simp [intOf]; omega⟩
      · rw [hb] at hsh
        simp only [if_true] at hsh
        have HBS := Lib.hid (show bitsOf s (k + 1) = bitsOf s k ++ [(k : Int)] by simp [bitsOf, hb])
        have hsz := HB.out.size
        clear hb
        go_wp2_with (at_builtin; refine wpList_append_own _ rfl _ _ 28 rfl w.heap.size 3 i0 (.int .i64 0) 1 8 Try.underlying28 hi hz0 hz1 hz2 rfl (by decide) _ _ ((bitsOf s k).map fun t => .int .i64 t) rfl (HR.out.below ((Below.refl wr.heap.size wr).alloc (Nat.le_refl _) _)) ⟨wr.heap.size, 0, none⟩ 1 1 [.int .i64 k] rfl rfl ?c1 ?c2 ?c3 ?c4 ?c5 ?_)
        case c1 =>
          intro j v' hv
          rw [Addr.add_lit]
          have := blk_cell (blk_new wr (.cells #[.int .i64 k] 3)) j
          rw [Nat.zero_add, this]
          simpa using hv
        case c2 => simp [Value.oneCell']
        case c3 => unfold maxLen; omega
        case c4 => omega
        case c5 => (try simp) <;> omega
        intro v' w2 hown hgr _
        have hB2 : Below w.heap.size w w2 := (HB.out.alloc hsz _).grown hgr (by simp; omega) (fun k hk => (World.ownsRow.lt HR.out k hk).1)
        have HB2 := Lib.hid hB2
        have HP2 := Lib.hid (show IntsAt w.heap.size w2 v' (bitsOf s (k + 1)) from by unfold IntsAt; rw [HBS.out, List.map_append, List.length_append]; exact hown)
        clear hown hgr hB2
        go_wp2_with fail
        exact ⟨⟨k + 1, by go_num, by omega, HP2.out, HB2.out⟩, by simp [intOf]; omega⟩
    · obtain rfl : k = 12 := by omega
      go_wp2_with fail
      go_ret
      exact ⟨_, rfl, HR.out, HB.out⟩
/-! ### SameInts, few, in -/
theorem sameInts_any {w : World} {a a' : Option Addr} {n c c' : Nat} {ts : List Int} (h : IntsIn w a n ts) (h' : IntsIn w a' n ts) (hn : n ≤ 1000000) :
    Calls Try.prog 18 #[.slice a n c, .slice a' n c'] w fun e w' => e = .returned (.bool true) ∧ Below w.heap.size w w' := by
  have HA := Lib.hid h.2; have HA' := Lib.hid h'.2
  clear h h'
  go_enter Try.func18, Try.ntmps18
  go_wp2_with fail
  go_loopw [5] (fun i wr => ∃ k : Nat, i = .int .i64 k ∧ k ≤ n ∧ Below w.heap.size w wr) (fun i _ => n - (intOf i).toNat)
  case atStart => exact ⟨0, rfl, Nat.zero_le _, Below.refl _ _⟩
  case round =>
    obtain ⟨k, rfl, hk, hL⟩ := hrel
    have HL := Lib.hid hL; clear hL
    by_cases hlt : k < n
    · obtain ⟨b, off, rfl, hc⟩ := HA.out.resolve_left (by omega)
      obtain ⟨b', off', rfl, hc'⟩ := HA'.out.resolve_left (by omega)
      have c0 := bkeep HL.out (hc k hlt); have c1 := bkeep HL.out (hc' k hlt)
      clear hc hc'
      generalize ts.getD k 0 = t at *
      go_wp2_with fail
      go_quiet (fail)
      go_wp2_with fail
      exact ⟨⟨k + 1, by go_num, by omega, below_drewN HL.out _⟩, by simp [intOf]; omega⟩
    · go_wp2_with fail
      go_ret
      exact ⟨rfl, HL.out⟩
theorem few_any (w : World) (a : Option Addr) (n c : Nat) (ts : List Int) (h : IntsIn w a n ts) (hn : n ≤ 9223372036854775807) (hc : n ≤ c) :
    Calls Try.prog 25 #[.slice a n c] w fun e w' => ∃ n' c', e = .returned (.slice a n' c') ∧ n' ≤ 20 ∧ IntsIn w a n' (ts.take 20) ∧ w = w' := by
  by_cases h20 : 20 < n
  · have hd : decide (20 < (n : Int)) = true := by simp; omega
    have hI : IntsIn w a 20 (ts.take 20) := by
      refine ⟨by rw [List.length_take, h.1]; omega, ?_⟩
      obtain ⟨b, off, e, hcell⟩ := h.2.resolve_left (by omega)
      refine .inr ⟨b, off, e, fun i hi => ?_⟩
      rw [hcell i (by omega), List.getD_eq_getElem?_getD, List.getD_eq_getElem?_getD, List.getElem?_take, if_pos hi]
    have HI := Lib.hid hI
    have hc20 : (20 : Int) ≤ c := by omega
    obtain ⟨b, off, rfl, _⟩ := h.2.resolve_left (by omega)
    clear hI h
    go_enter Try.func25, Try.ntmps25
    go_wp2_with fail
    go_ret
    exact ⟨20, _, rfl, Nat.le_refl _, HI.out, rfl⟩
  · have hd : decide (20 < (n : Int)) = false := by simp; omega
    have hI : IntsIn w a n (ts.take 20) := by rw [List.take_of_length_le (by rw [h.1]; omega)]; exact h
    have HI := Lib.hid hI
    clear hI h
    go_enter Try.func25, Try.ntmps25
    go_wp2_with fail
    go_ret
    exact ⟨n, _, rfl, by omega, HI.out, rfl⟩
theorem in_any (w : World) (a : Option Addr) (n c : Nat) (ts : List Int) (x : Int) (h : IntsIn w a n ts) (hn : n ≤ 1000000) :
    Calls Try.prog 14 #[.slice a n c, .int .i64 x] w fun e w' => e = .returned (.bool (decide (x ∈ ts))) ∧ w = w' := by
  have HA := Lib.hid h.2; have HL := Lib.hid h.1
  clear h
  go_enter Try.func14, Try.ntmps14
  go_wp2_with fail
  go_loopw [5] (fun i wr => ∃ k : Nat, i = .int .i64 k ∧ k ≤ n ∧ x ∉ ts.take k ∧ wr = w) (fun i _ => n - (intOf i).toNat)
  case atStart => exact ⟨0, rfl, Nat.zero_le _, by simp, rfl⟩
  case round =>
    obtain ⟨k, rfl, hk, hno, rfl⟩ := hrel
    by_cases hlt : k < n
    · obtain ⟨b, off, rfl, hc⟩ := HA.out.resolve_left (by omega)
      have c0 := hc k hlt
      have hT := take_snoc ts k (by rw [HL.out]; exact hlt)
      have hmem : ts.getD k 0 ∈ ts := by rw [List.getD_eq_getElem?_getD, List.getElem?_eq_getElem (by rw [HL.out]; exact hlt)]; exact List.getElem_mem _
      have HT := Lib.hid hT; have HM := Lib.hid hmem; have HNO := Lib.hid hno
      clear hc hT hmem hno
      generalize ts.getD k 0 = t at *
      by_cases he : t = x
      · subst he
        have hq : (t == t) = true := by simp
        have HD := Lib.hid (show decide (t ∈ ts) = true by simpa using HM.out)
        go_wp2_with fail
        go_ret
        exact ⟨by rw [HD.out]; rfl, rfl⟩
      · have hq : (t == x) = false := by simpa using he
        have HN2 := Lib.hid (show x ∉ ts.take (k + 1) by rw [HT.out, List.mem_append, List.mem_singleton]; rintro (h | h); exact HNO.out h; exact he h.symm)
        clear he
        go_wp2_with fail
        exact ⟨⟨k + 1, by go_num, by omega, HN2.out, trivial⟩, by simp [intOf]; omega⟩
    · obtain rfl : k = n := by omega
      rw [List.take_of_length_le (by rw [HL.out]; exact Nat.le_refl _)] at hno
      have HD := Lib.hid (show decide (x ∈ ts) = false by simpa using hno)
      clear hno
      go_wp2_with fail
      go_ret
      exact ⟨by rw [HD.out]; rfl, rfl⟩
end Go.Proofs.Ytddcpehncbcliaa.Wai
