/- Go's own: insertion sort of a few ints. -/
import Derived.Test.YtboofagdcohgnaaRws
import Derived.Test.YtboofagdcohgnaaHeld
import Derived.Deep.RegionLaw
import Derived.Test.YtboofagdcohgnaaChecked
namespace Go.Proofs.Ytboofagdcohgnaa.Tgu
open Go.RowKit
set_option linter.unusedSimpArgs false
set_option linter.unusedVariables false
set_option maxRecDepth 50000

def Sorted' (c : List Int) (m : Nat) : Prop := ∀ p q, p < q → q < m → c.getD p 0 ≤ c.getD q 0
def SortedBut (c : List Int) (m j : Nat) : Prop := ∀ p q, p < q → q < m → q ≠ j → c.getD p 0 ≤ c.getD q 0
theorem getD_set (c : List Int) (i p : Nat) (v : Int) (hi : i < c.length) : (c.set i v).getD p 0 = if p = i then v else c.getD p 0 := by
  rw [List.getD_eq_getElem?_getD, List.getElem?_set, List.getD_eq_getElem?_getD]
  by_cases h : p = i
  · subst h
    simp [hi]
  · have : ¬ i = p := fun e => h e.symm
    simp [h, this]
def swapL (c : List Int) (j : Nat) : List Int := (c.set j (c.getD (j - 1) 0)).set (j - 1) (c.getD j 0)
theorem swapL_get (c : List Int) (j p : Nat) (h0 : 0 < j) (hl : j < c.length) : (swapL c j).getD p 0 = if p = j - 1 then c.getD j 0 else if p = j then c.getD (j - 1) 0 else c.getD p 0 := by
  unfold swapL
  rw [getD_set _ _ _ _ (by rw [List.length_set]; omega), getD_set _ _ _ _ hl]
theorem swapL_len (c : List Int) (j : Nat) : (swapL c j).length = c.length := by simp [swapL]
theorem but_swap {c : List Int} {m j : Nat} (h0 : 0 < j) (hl : j < c.length) (h : SortedBut c m j) (hlt : c.getD j 0 < c.getD (j - 1) 0) : SortedBut (swapL c j) m (j - 1) := by
  intro p q hpq hqm hq
  rw [swapL_get c j p h0 hl, swapL_get c j q h0 hl]
  by_cases hqj : q = j
  · subst hqj
    rw [if_neg hq, if_pos rfl]
    by_cases hp : p = q - 1
    · rw [if_pos hp]; omega
    · rw [if_neg hp, if_neg (by omega)]
      exact h p (q - 1) (by omega) (by omega) (by omega)
  · rw [if_neg hq, if_neg hqj]
    by_cases hp : p = j - 1
    · rw [if_pos hp]
      exact h j q (by omega) hqm hqj
    · rw [if_neg hp]
      by_cases hpj : p = j
      · rw [if_pos hpj]
        exact h (j - 1) q (by omega) hqm hqj
      · rw [if_neg hpj]
        exact h p q hpq hqm hqj
theorem but_zero {c : List Int} {m : Nat} (h : SortedBut c m 0) : Sorted' c m := fun p q hpq hq => h p q hpq hq (by omega)
theorem but_end {c : List Int} {m j : Nat} (h0 : 0 < j) (h : SortedBut c m j) (hge : ¬ c.getD j 0 < c.getD (j - 1) 0) : Sorted' c m := by
  intro p q hpq hq
  by_cases hqj : q = j
  · subst hqj
    by_cases hp : p = q - 1
    · rw [hp]; omega
    · have := h p (q - 1) (by omega) (by omega) (by omega)
      omega
  · exact h p q hpq hq hqj
theorem sorted_next {c : List Int} {i : Nat} (h : Sorted' c i) : SortedBut c (i + 1) i := fun p q hpq hq hne => h p q hpq (by omega)
theorem getD_mem {c : List Int} {i : Nat} (h : i < c.length) : c.getD i 0 ∈ c := by
  rw [List.getD_eq_getElem?_getD, List.getElem?_eq_getElem h]
  exact List.getElem_mem _
theorem swapL_mem {c ts : List Int} {j : Nat} (h0 : 0 < j) (hl : j < c.length) (h : ∀ x ∈ c, x ∈ ts) : ∀ x ∈ swapL c j, x ∈ ts := by
  intro x hx
  unfold swapL at hx
  rcases List.mem_or_eq_of_mem_set hx with hx | rfl
  · rcases List.mem_or_eq_of_mem_set hx with hx | rfl
    · exact h x hx
    · exact h _ (getD_mem (by omega))
  · exact h _ (getD_mem hl)
abbrev RowI (w : World) (g n cap : Nat) (ts : List Int) : Prop := w.ownsRow 0 3 1 (.slice (some ⟨g, 0, none⟩) n cap) n (ts.map fun t => .int .i64 t)
theorem RowI.len {w : World} {g n cap : Nat} {ts : List Int} (h : RowI w g n cap ts) : ts.length = n := by have := h.1; simpa using this
theorem RowI.cell {w : World} {g n cap : Nat} {ts : List Int} (h : RowI w g n cap ts) {i : Nat} (hi : i < n) : w.cell? ⟨g, i, none⟩ = some (.int .i64 (ts.getD i 0)) := by
  have hl := h.len
  refine row_cell1 (v := .nilFunc) h ?_
  rw [List.getElem?_map, List.getElem?_eq_getElem (by omega), List.getD_eq_getElem?_getD, List.getElem?_eq_getElem (by omega)]
  rfl
theorem RowI.free {w : World} {g n cap : Nat} {ts : List Int} (h : RowI w g n cap ts) (i : Nat) : w.frozen? ⟨g, i, none⟩ = false := by
  obtain ⟨cs, hg⟩ := row_obj h (k := g) rfl
  exact blk_free hg i
theorem RowI.below {w w' : World} {g n cap : Nat} {ts : List Int} (h : RowI w g n cap ts) (l : Below w.heap.size w w') : RowI w' g n cap ts := ownsRow_only h (Only.empty l (Nat.le_refl _)) (fun _ _ h => h)
theorem RowI.set {w : World} {g n cap : Nat} {ts : List Int} (h : RowI w g n cap ts) {i : Nat} (hi : i < n) (t : Int) : RowI (w.setCell ⟨g, i, none⟩ (.int .i64 t)) g n cap (ts.set i t) := by
  have := row_set h (k := i) (by omega) (u := .int .i64 t)
  unfold RowI
  rw [List.map_set]
  exact this
theorem RowI.drew {w : World} {g n cap : Nat} {ts : List Int} (h : RowI w g n cap ts) : RowI w.drew g n cap ts := h.below (Below.refl w.heap.size w).drew
theorem less_any (w : World) (x y : Int) (r : Bool) (hr : decide (x < y) = r) : Calls Try.prog 41 #[.int .i64 x, .int .i64 y] w fun e w' => e = .returned (.bool r) ∧ w = w' := by
  have h1 : (x != x) = false := by simp
  go_enter Try.func41, Try.ntmps41
  go_wp2
  go_ret
  exact ⟨rfl, rfl⟩
def InsPost (w : World) (g n cap : Nat) (ts : List Int) (e : Ending) (w' : World) : Prop :=
  e = .returned (.tuple #[]) ∧ (∃ c, RowI w' g n cap c ∧ Sorted' c n ∧ ∀ x ∈ c, x ∈ ts) ∧ Only (fun k => k = g) w w'
set_option maxHeartbeats 6400000 in
theorem ins_any (w : World) (g n cap : Nat) (ts : List Int) (h : RowI w g n cap ts) (hn : n ≤ 1000) : Calls Try.prog 35 #[.slice (some ⟨g, 0, none⟩) n cap, .int .i64 0, .int .i64 n] w (InsPost w g n cap ts) := by
  have H := Lib.hid h
  clear h
  unfold InsPost
  go_enter Try.func35, Try.ntmps35
  go_wp2_with fail
  go_loopw [6] (fun i wr => ∃ (k : Nat) (c : List Int), i = .int .i64 k ∧ 1 ≤ k ∧ k ≤ n + 1 ∧ RowI wr g n cap c ∧ Sorted' c k ∧ (∀ x ∈ c, x ∈ ts) ∧ Only (fun k => k = g) w wr) (fun i _ => n + 1 - (intOf i).toNat)
  case atStart => exact ⟨1, ts, rfl, Nat.le_refl _, by omega, H.out, fun p q hpq hq => by omega, fun x hx => hx, Only.refl _ _⟩
  case round =>
    obtain ⟨k, c, rfl, hk1, hk, hR, hSd, hM, hO⟩ := hrel
    have HR := Lib.hid hR; have HSd := Lib.hid hSd; have HM := Lib.hid hM; have HO := Lib.hid hO
    clear hR hSd hM hO
    by_cases hlt : k < n
    · have hlt' : (k : Int) < n := by omega
      have hw1 : IntKind.i64.wrap ((k : Int) + 1) = (k : Int) + 1 := by rw [IntKind.wrap_i64]; omega
      go_wp2_with fail
      obtain ⟨wo, rfl⟩ : ∃ wo, wo = wr := ⟨wr, rfl⟩
      go_loopw [7] (fun j wq => ∃ (q : Nat) (d : List Int), j = .int .i64 q ∧ q ≤ k ∧ RowI wq g n cap d ∧ SortedBut d (k + 1) q ∧ (∀ x ∈ d, x ∈ ts) ∧ Only (fun k => k = g) w wq) (fun j _ => (intOf j).toNat)
      case atStart => exact ⟨k, c, rfl, Nat.le_refl _, HR.out, sorted_next HSd.out, HM.out, HO.out⟩
      case round =>
        obtain ⟨q, d, rfl, hq, hRd, hSB, hMd, hOd⟩ := hrel
        have HRd := Lib.hid hRd; have HSB := Lib.hid hSB; have HMd := Lib.hid hMd; have HOd := Lib.hid hOd
        clear hRd hSB hMd hOd
        by_cases hq0 : q = 0
        · subst hq0
          have HS2 := Lib.hid (but_zero HSB.out)
          go_wp2_with fail
          refine wp_region_tail 14 (by kernel_rfl) (by kernel_rfl) ?_; simp only [List.take_succ_cons, List.take_zero, List.drop_succ_cons, List.drop_zero]
          (repeat (first | (with_reducible refine wpStill_skip ?_ ?_; (focus (first | (simp [Region.wanted, yielded]; done) | (rfl) | (simp [Region.wanted, yielded, undef]; done))); simp only [Act.put, List.setIfInBounds_toArray, List.set_cons_succ, List.set_cons_zero]) | (with_reducible refine wpStill_step (fun KK hKK => ?_); go_simp; refine hKK _ ?_; clear hKK KK)))
          with_reducible refine wpStill_nil ?_
          go_wp2_with fail
          exact ⟨⟨k + 1, d, by go_num, by omega, by omega, HRd.out.drew, HS2.out, HMd.out, HOd.out.drew⟩, by simp [intOf]; omega⟩
        · obtain ⟨r, hr⟩ : ∃ r, q = r + 1 := ⟨q - 1, by omega⟩
          have hqn : q < n := by omega
          have hrn : r < n := by omega
          have e0 := HRd.out.cell hqn
          have e1 := HRd.out.cell hrn
          have f0 := HRd.out.free q; have f1 := HRd.out.free r
          have hwq : IntKind.i64.wrap ((q : Int) - 1) = (r : Int) := by rw [IntKind.wrap_i64]; omega
          have hd0 : decide ((0 : Int) < q) = true := by simp; omega
          have hd0n : decide (0 < q) = true := by simp; omega
          have hq0n : 0 < q := by omega
          have hq0i : (0 : Int) < q := by omega
          have hqn' : (q : Int) < n := by omega
          have hrn' : (r : Int) < n := by omega
          have hr1 : q - 1 = r := by omega
          have hdl : q < d.length := by rw [HRd.out.len]; exact hqn
          obtain ⟨x, hx⟩ : ∃ x, d.getD q 0 = x := ⟨_, rfl⟩
          obtain ⟨y, hy⟩ : ∃ y, d.getD r 0 = y := ⟨_, rfl⟩
          rw [hx] at e0; rw [hy] at e1
          have HXY := Lib.hid (And.intro hx hy)
          have HQR := Lib.hid hr1
          have hS0 : wr.drew.cell? ⟨g, q, none⟩ = some (.int .i64 x) ∧ wr.drew.cell? ⟨g, r, none⟩ = some (.int .i64 y) := ⟨e0, e1⟩
          clear hx hy hr1 hr
          cases hlx : decide (x < y)
          · have HEND := Lib.hid (show Sorted' d (k + 1) from but_end (by omega) HSB.out (by rw [HQR.out, HXY.out.1, HXY.out.2]; simpa using hlx))
            have HLX := Lib.hid hlx
            clear hlx
            go_wp2_with fail
            go_region_held3 (fun w' => w'.cell? ⟨g, q, none⟩ = some (.int .i64 x) ∧ w'.cell? ⟨g, r, none⟩ = some (.int .i64 y)) (with_reducible exact hS0) ((go_at_call 41; (with_reducible refine Calls.mono (less_any _ x y _ HLX.out) ?_); rintro e w0 ⟨rfl, rfl⟩))
            go_wp2_with fail
            exact ⟨⟨k + 1, d, by go_num, by omega, by omega, HRd.out.drew, HEND.out, HMd.out, HOd.out.drew⟩, by simp [intOf]; omega⟩
          · have HSW := Lib.hid (show SortedBut (swapL d q) (k + 1) r from by
              have := but_swap (by omega) hdl HSB.out (by rw [HQR.out, HXY.out.1, HXY.out.2]; simpa using hlx)
              rwa [HQR.out] at this)
            have HMS := Lib.hid (swapL_mem (by omega) hdl HMd.out)
            have HLX := Lib.hid hlx
            clear hlx
            go_wp2_with fail
            go_region_held3 (fun w' => w'.cell? ⟨g, q, none⟩ = some (.int .i64 x) ∧ w'.cell? ⟨g, r, none⟩ = some (.int .i64 y)) (with_reducible exact hS0) ((go_at_call 41; (with_reducible refine Calls.mono (less_any _ x y _ HLX.out) ?_); rintro e w0 ⟨rfl, rfl⟩))
            go_wp2_with fail
            clear hS0
            have hset := HRd.out.set hqn y
            have e2 : (wr.setCell ⟨g, q, none⟩ (.int .i64 y)).cell? ⟨g, r, none⟩ = some (.int .i64 y) := by
              have h2 := hset.cell hrn
              have hrq : ¬ r = q := by have := HQR.out; omega
              rw [getD_set _ _ _ _ hdl, if_neg hrq, HXY.out.2] at h2
              exact h2
            have f2 := hset.free r
            have HROW := Lib.hid (show RowI ((wr.setCell ⟨g, q, none⟩ (.int .i64 y)).setCell ⟨g, r, none⟩ (.int .i64 x)).drew.drew g n cap (swapL d q) from by
              have h3 := (hset.set hrn x).drew.drew
              unfold swapL
              rw [HQR.out, HXY.out.1, HXY.out.2]
              exact h3)
            have HOD := Lib.hid (show Only (fun k => k = g) w ((wr.setCell ⟨g, q, none⟩ (.int .i64 y)).setCell ⟨g, r, none⟩ (.int .i64 x)).drew.drew from ((HOd.out.setCell (p := ⟨g, q, none⟩) (.inr rfl) _).setCell (p := ⟨g, r, none⟩) (.inr rfl) _).drew.drew)
            clear hset
            have hrq2 : r + 1 = q := by
              have := HQR.out
              omega
            have HRQ2 := Lib.hid hrq2
            clear hrq2
            go_region_law (fail)
            all_goals go_wp2_with fail
            all_goals have hrq3 := HRQ2.out
            all_goals exact ⟨⟨r, swapL d q, rfl, by omega, HROW.out, HSW.out, HMS.out, HOD.out⟩, by simp [intOf]; omega⟩
    · have HS2 := Lib.hid (show Sorted' c n from fun p q hpq hq => HSd.out p q hpq (by omega))
      go_wp2_with fail
      exact bodyPost_end (results_none rfl _ _ _) rfl ⟨rfl, ⟨c, HR.out, HS2.out, HM.out⟩, HO.out⟩
/-! ### the length of a number, pdqsort, Sort -/
theorem bLen64_any (w : World) (n : Nat) (hn : n ≤ 8) : Calls Try.prog 45 #[.int .u64 n] w fun e w' => (∃ z : Int, e = .returned (.int .i64 z)) ∧ w = w' := by
  have : n = 0 ∨ n = 1 ∨ n = 2 ∨ n = 3 ∨ n = 4 ∨ n = 5 ∨ n = 6 ∨ n = 7 ∨ n = 8 := by omega
  rcases this with rfl | rfl | rfl | rfl | rfl | rfl | rfl | rfl | rfl
  all_goals
    go_enter Try.func45, Try.ntmps45
    go_wp2
    go_ret
    exact ⟨⟨_, rfl⟩, rfl⟩
theorem bLen_any (w : World) (n : Nat) (hn : n ≤ 8) : Calls Try.prog 26 #[.int .u64 n] w fun e w' => (∃ z : Int, e = .returned (.int .i64 z)) ∧ w = w' := by
  have HL := Lib.hid (bLen64_any w n hn)
  go_enter Try.func26, Try.ntmps26
  go_wp2_with fail
  refine HL.out.mono ?_
  rintro e w1 ⟨⟨z, rfl⟩, rfl⟩
  go_wp2_with fail
  go_ret
  exact ⟨⟨z, rfl⟩, rfl⟩
set_option maxHeartbeats 1600000 in
theorem pdq_any (w : World) (g n cap : Nat) (ts : List Int) (h : RowI w g n cap ts) (hn : n ≤ 8) (z : Int) : Calls Try.prog 25 #[.slice (some ⟨g, 0, none⟩) n cap, .int .i64 0, .int .i64 n, .int .i64 z] w (InsPost w g n cap ts) := by
  have HI := Lib.hid (ins_any w g n cap ts h (by omega))
  have hn12 : (n : Int) ≤ 12 := by omega
  have hn12n : n ≤ 12 := by omega
  clear h
  unfold InsPost at HI ⊢
  go_enter Try.func25, Try.ntmps25
  go_wp2_with fail
  go_loopw [1, 2] (fun a b wr => a = .int .i64 0 ∧ b = .int .i64 n ∧ wr = w) (fun _ _ _ => 0)
  case atStart => exact ⟨rfl, rfl, rfl⟩
  case round =>
    obtain ⟨rfl, rfl, rfl⟩ := hrel
    go_wp2_with fail
    refine HI.out.mono ?_
    rintro e w1 ⟨rfl, h1⟩
    have H1 := Lib.hid h1
    clear h1
    go_wp2_with fail
    exact bodyPost_ret (results_none rfl _ _ _) rfl ⟨rfl, H1.out⟩
def SortPost (w : World) (v : Value) (n : Nat) (ts : List Int) (e : Ending) (w' : World) : Prop :=
  e = .returned (.tuple #[]) ∧ (∃ c, w'.ownsRow 0 3 1 v n (c.map fun t => .int .i64 t) ∧ Sorted' c n ∧ ∀ x ∈ c, x ∈ ts) ∧ Only (fun k => v.ownBlock = some k) w w'
theorem sortPost_nil (w : World) : SortPost w (.slice none 0 0) 0 [] (.returned (.tuple #[])) w :=
  ⟨rfl, ⟨[], World.ownsRow_nil _ _ _ _, fun p q hpq hq => by omega, fun x hx => hx⟩, Only.refl _ _⟩
set_option maxHeartbeats 1600000 in
theorem ins_nil (w : World) : Calls Try.prog 35 #[.slice none 0 0, .int .i64 0, .int .i64 0] w fun e w' => e = .returned (.tuple #[]) ∧ w = w' := by
  go_enter Try.func35, Try.ntmps35
  go_wp2_with fail
  go_loopw [6] (fun i wr => i = .int .i64 1 ∧ wr = w) (fun _ _ => 0)
  case atStart => exact ⟨rfl, rfl⟩
  case round =>
    obtain ⟨rfl, rfl⟩ := hrel
    go_wp2_with fail
    exact bodyPost_end (results_none rfl _ _ _) rfl ⟨rfl, rfl⟩
set_option maxHeartbeats 1600000 in
theorem pdq_nil (w : World) (z : Int) : Calls Try.prog 25 #[.slice none 0 0, .int .i64 0, .int .i64 0, .int .i64 z] w fun e w' => e = .returned (.tuple #[]) ∧ w = w' := by
  have HI := Lib.hid (ins_nil w)
  go_enter Try.func25, Try.ntmps25
  go_wp2_with fail
  go_loopw [1, 2] (fun a b wr => a = .int .i64 0 ∧ b = .int .i64 0 ∧ wr = w) (fun _ _ _ => 0)
  case atStart => exact ⟨rfl, rfl, rfl⟩
  case round =>
    obtain ⟨rfl, rfl, rfl⟩ := hrel
    go_wp2_with fail
    refine HI.out.mono ?_
    rintro e w1 ⟨rfl, rfl⟩
    go_wp2_with fail
    exact bodyPost_ret (results_none rfl _ _ _) rfl ⟨rfl, rfl⟩
theorem sort_any (w : World) (v : Value) (n : Nat) (ts : List Int) (h : w.ownsRow 0 3 1 v n (ts.map fun t => .int .i64 t)) (hn : n ≤ 8) : Calls Try.prog 14 #[v] w (SortPost w v n ts) := by
  rcases h.2 with ⟨rfl, rfl⟩ | ⟨g, cap, cur, rfl, _⟩
  · obtain rfl : ts = [] := by have := h.1; simpa using this
    have HF := Lib.hid (sortPost_nil w)
    have HL := Lib.hid (bLen_any w 0 (by decide))
    have HP := Lib.hid (pdq_nil w)
    clear h
    go_enter Try.func14, Try.ntmps14
    go_wp2_with fail
    refine HL.out.mono ?_
    rintro e w1 ⟨⟨z, rfl⟩, rfl⟩
    go_wp2_with fail
    refine (HP.out z).mono ?_
    rintro e w1 ⟨rfl, rfl⟩
    go_wp2_with fail
    exact bodyPost_end (results_none rfl _ _ _) rfl HF.out
  · have HL := Lib.hid (bLen_any w n hn)
    have HP := Lib.hid (fun z => pdq_any w g n cap ts h hn z)
    have hw1 : IntKind.u64.wrap (n : Int) = n := by rw [IntKind.wrap_u64]; omega
    clear h
    go_enter Try.func14, Try.ntmps14
    go_wp2_with fail
    refine HL.out.mono ?_
    rintro e w1 ⟨⟨z, rfl⟩, rfl⟩
    go_wp2_with fail
    refine (HP.out z).mono ?_
    rintro e w1 ⟨rfl, ⟨c, h1, h2, h3⟩, h4⟩
    have HF := Lib.hid (show SortPost w (.slice (some ⟨g, 0, none⟩) n cap) n ts (.returned (.tuple #[])) w1 from ⟨rfl, ⟨c, h1, h2, h3⟩, h4.mono fun k _ e => by subst e; rfl⟩)
    clear h1 h2 h3 h4
    go_wp2_with fail
    exact bodyPost_end (results_none rfl _ _ _) rfl HF.out
end Go.Proofs.Ytboofagdcohgnaa.Tgu
