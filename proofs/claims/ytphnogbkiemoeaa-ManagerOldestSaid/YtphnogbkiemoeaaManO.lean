/- Fork and Oldest; the statement on the oldest one. -/
import Derived.Test.YtphnogbkiemoeaaManW
import Derived.Deep.MidRow
import Derived.Deep.WholeRow
import Derived.Laws.Tables
namespace Go.Proofs.Ytphnogbkiemoeaa.Man
open Go.RowKit
set_option linter.unusedSimpArgs false
set_option linter.unusedVariables false

theorem mcells_one (h : Value) (hh : h.oneCell' = true) (s : MSt) : (mcells h s).all (·.oneCell') = true := by
  have : (mcells h s).all (·.oneCell') = h.oneCell' := by
    simp [mcells, Value.oneCell']
  rw [this, hh]
theorem fork_any (w : World) (b : Nat) (h : Value) (hh : h.oneCell' = true) (s : MSt) (H : MAt 58 w b h s) : Calls Try.prog 20 #[ptr b] w fun e w' => e = .returned (ptr w.heap.size) ∧ MAt 58 w' w.heap.size h s ∧ Below w.heap.size w w' := by
  have h1 := mcells_one h hh s
  have hsz : (Try.prog.info? 58).map (·.size) = some (mcells h s).size := by kernel_rfl
  have HM := Lib.hid H
  unfold MAt at H
  have HH := Lib.hid H
  clear H
  obtain ⟨C, hC⟩ : ∃ C, mcells h s = C := ⟨_, rfl⟩
  rw [hC] at h1 hsz HH
  have h22 : C.size = 22 := by rw [← hC]; rfl
  have HC := Lib.hid hC; clear hC
  have HA1 := Lib.hid h1; have HSZ := Lib.hid hsz; have H22 := Lib.hid h22
  clear h1 hsz h22
  go_enter Try.func20, Try.ntmps20
  go_wp2_with (first | (refine wpList_load_row rfl 58 _ rfl b rfl 58 C (0, 0) _ HH.out Try.underlying58 rfl HSZ.out ?_) | (refine wpList_store_row rfl 58 _ _ rfl w.heap.size C rfl rfl 58 _ (heap_alloc_last _ _) HSZ.out (by rw [H22.out]; rfl) HA1.out ?_; rw [World.setRow_alloc_new]))
  go_ret
  refine ⟨rfl, ?_, ?_⟩
  · unfold MAt
    rw [HC.out]
    exact heap_alloc_last _ _
  · repeat (first | (with_reducible exact Below.refl _ _) | (with_reducible apply Below.drew) | (with_reducible refine below_drewN ?_ _) | (with_reducible refine below_alloc' ?_ ?_ _; (focus ((try simp) <;> omega))) | (with_reducible refine below_set' ?_ ?_ _; (focus ((try simp) <;> omega))))

/-- who began first, of the first q -/
def First (s : MSt) (q : Nat) (at' : Int) : Prop :=
  (at' = -1 ∧ ∀ j, j < q → (s.T j).runs = false) ∨ (∃ i : Nat, at' = i ∧ i < q ∧ (s.T i).runs = true ∧ ∀ j, j < q → (s.T j).runs = true → (s.T i).stamp ≤ (s.T j).stamp)
theorem First.idle {s : MSt} {q : Nat} {a : Int} (h : First s q a) (hr : (s.T q).runs = false) : First s (q + 1) a := by
  rcases h with ⟨e, h⟩ | ⟨i, e, hi, hri, h⟩
  · refine .inl ⟨e, fun j hj => ?_⟩
    by_cases hjq : j = q
    · rw [hjq]; exact hr
    · exact h j (by omega)
  · refine .inr ⟨i, e, by omega, hri, fun j hj hrj => ?_⟩
    by_cases hjq : j = q
    · rw [hjq, hr] at hrj; cases hrj
    · exact h j (by omega) hrj
theorem First.new {s : MSt} {q : Nat} (h : First s q (-1)) (hr : (s.T q).runs = true) : First s (q + 1) q := by
  rcases h with ⟨e, h⟩ | ⟨i, e, hi, hri, h⟩
  · refine .inr ⟨q, rfl, by omega, hr, fun j hj hrj => ?_⟩
    by_cases hjq : j = q
    · rw [hjq]; exact Int.le_refl _
    · rw [h j (by omega)] at hrj; cases hrj
  · omega
theorem First.less {s : MSt} {q i : Nat} (h : First s q i) (hr : (s.T q).runs = true) (hl : (s.T q).stamp < (s.T i).stamp) : First s (q + 1) q := by
  rcases h with ⟨e, h⟩ | ⟨i', e, hi, hri, h⟩
  · omega
  · obtain rfl : i = i' := by omega
    refine .inr ⟨q, rfl, by omega, hr, fun j hj hrj => ?_⟩
    by_cases hjq : j = q
    · rw [hjq]; exact Int.le_refl _
    · have := h j (by omega) hrj
      omega
theorem First.more {s : MSt} {q i : Nat} (h : First s q i) (hl : ¬ (s.T q).stamp < (s.T i).stamp) : First s (q + 1) i := by
  rcases h with ⟨e, h⟩ | ⟨i', e, hi, hri, h⟩
  · omega
  · obtain rfl : i = i' := by omega
    refine .inr ⟨i, rfl, by omega, hri, fun j hj hrj => ?_⟩
    by_cases hjq : j = q
    · rw [hjq]; omega
    · exact h j (by omega) hrj
def OldestPost (w : World) (s : MSt) (e : Ending) (w' : World) : Prop :=
  ((e = .returned (.tuple #[.int .i64 0, .bool false])) ∨ (∃ i : Nat, i < 4 ∧ First s 4 i ∧ e = .returned (.tuple #[.int .i64 i, .bool true]))) ∧ Below w.heap.size w w'
def tcells (s : MSt) : List Value := [.bool (s.T 0).runs, .bool (s.T 0).waits, .int .i64 (s.T 0).tries, .int .i64 (s.T 0).merit, .int .i64 (s.T 0).stamp, .bool (s.T 1).runs, .bool (s.T 1).waits, .int .i64 (s.T 1).tries, .int .i64 (s.T 1).merit, .int .i64 (s.T 1).stamp, .bool (s.T 2).runs, .bool (s.T 2).waits, .int .i64 (s.T 2).tries, .int .i64 (s.T 2).merit, .int .i64 (s.T 2).stamp, .bool (s.T 3).runs, .bool (s.T 3).waits, .int .i64 (s.T 3).tries, .int .i64 (s.T 3).merit, .int .i64 (s.T 3).stamp]
theorem tcells_at {w : World} {b : Nat} {h : Value} {s : MSt} (H : MAt 58 w b h s) : w.rangeAt b 1 (tcells s) := by
  have := World.rangeAt_of_block H 1 20
  have e : ((mcells h s).extract 1 (1 + 20)).toList = tcells s := by simp [mcells, tcells]
  rwa [e] at this
set_option maxHeartbeats 3200000 in
theorem oldest_any (w : World) (b : Nat) (h : Value) (s : MSt) (H : MAt 58 w b h s) : Calls Try.prog 19 #[ptr b] w (OldestPost w s) := by
  have HT := Lib.hid (tcells_at H)
  have hsz : (Try.prog.info? 56).map (·.size) = some (tcells s).length := by kernel_rfl
  have hidx : ∀ q : Nat, q < 4 → ∀ W : World, (Instr.index 56 (.agg (tcells s).toArray) (.int .i64 q)).run Try.prog W = .ok (.agg #[.bool (s.T q).runs, .bool (s.T q).waits, .int .i64 (s.T q).tries, .int .i64 (s.T q).merit, .int .i64 (s.T q).stamp]) W := by
    intro q hq W
    rcases four hq with rfl | rfl | rfl | rfl <;> kernel_rfl
  obtain ⟨A, hA⟩ : ∃ A, (tcells s).toArray = A := ⟨_, rfl⟩
  rw [hA] at hidx
  have HA := Lib.hid hA; have HSZ := Lib.hid hsz; have HIX := Lib.hid hidx
  have HM := Lib.hid H
  have hbl := H.lt
  clear H hA hsz hidx
  unfold OldestPost
  go_enter Try.func19, Try.ntmps19
  go_wp2_with (refine wpList_load_mid rfl 56 _ rfl b 1 rfl (tcells s) _ HT.out Try.underlying56 rfl HSZ.out ?_; rw [HA.out])
  go_loopw [4, 13] (fun a i wr => ∃ (q : Nat) (at' : Int), i = .int .i64 q ∧ a = .int .i64 at' ∧ q ≤ 4 ∧ First s q at' ∧ Below w.heap.size w wr) (fun _ i _ => 4 - (intOf i).toNat)
  case atStart => exact ⟨0, -1, rfl, rfl, by decide, .inl ⟨rfl, fun j hj => by omega⟩, Below.refl _ _⟩
  case round =>
    obtain ⟨q, at', rfl, rfl, hq, hF, hL⟩ := hrel
    have HF := Lib.hid hF; have HL := Lib.hid hL
    have HMr := Lib.hid (HM.out.below hL)
    have hsz := hL.size
    clear hF hL
    by_cases hq4 : q < 4
    · have hix := HIX.out q hq4
      have hqi : (q : Int) < 4 := by omega
      go_upto_region 7 with (fail)
      refine (show ∀ W1, Below wr.heap.size wr W1 → W1.heap[wr.heap.size]? = some (.cells #[.bool (s.T q).runs, .bool (s.T q).waits, .int .i64 (s.T q).tries, .int .i64 (s.T q).merit, .int .i64 (s.T q).stamp] 55 (0, 0)) → Code.wp _ _ _ _ W1 from ?_) _ (by repeat (first | (with_reducible exact Below.refl _ _) | (with_reducible apply Below.drew) | (with_reducible refine below_drewN ?_ _) | (with_reducible refine below_alloc' ?_ ?_ _; (focus ((try simp) <;> omega))) | (with_reducible refine below_set' ?_ ?_ _; (focus ((try simp) <;> omega))))) (by simp [↓heap_alloc_eq, ↓heap_set_eq, ↓heap_drew_eq, ↓heap_drewN_eq, setObj, size_drewN])
      intro W1 l1 hx
      have x0 := blk_cell hx 0; have x4 := blk_cell hx 4
      simp only [List.getElem?_toArray, List.getElem?_cons_zero, List.getElem?_cons_succ] at x0 x4
      have HM1 := Lib.hid (HMr.out.below l1)
      have HL1 := Lib.hid (btrans HL.out (Nat.le_refl _) l1)
      clear l1 hx hix HL HMr
      cases hr : (s.T q).runs
      · rw [hr] at x0
        have HN := Lib.hid (HF.out.idle hr)
        clear hr
        go_quiet (fail)
        go_wp2_with fail
        exact ⟨⟨q + 1, at', by go_num, rfl, by omega, HN.out, below_drewN HL1.out _⟩, by simp [intOf]; omega⟩
      · rw [hr] at x0
        rcases HF.out with ⟨rfl, _⟩ | ⟨i, rfl, hi, _, _⟩
        · have HN := Lib.hid (First.new HF.out hr)
          clear hr
          go_quiet (fail)
          go_wp2_with fail
          exact ⟨⟨q + 1, q, by go_num, rfl, by omega, HN.out, below_drewN HL1.out _⟩, by simp [intOf]; omega⟩
        · have hi4 : i < 4 := by omega
          have hii : (i : Int) < 4 := by omega
          have d4 := HM1.out.stamp hi4
          by_cases hl : (s.T q).stamp < (s.T i).stamp
          · have hd : decide ((s.T q).stamp < (s.T i).stamp) = true := by simpa using hl
            have HN := Lib.hid (First.less HF.out hr hl)
            clear hr hl
            go_quiet (fail)
            go_wp2_with fail
            exact ⟨⟨q + 1, q, by go_num, rfl, by omega, HN.out, below_drewN HL1.out _⟩, by simp [intOf]; omega⟩
          · have hd : decide ((s.T q).stamp < (s.T i).stamp) = false := by simpa using hl
            have HN := Lib.hid (First.more HF.out hl)
            clear hr hl
            go_quiet (fail)
            go_wp2_with fail
            exact ⟨⟨q + 1, i, by go_num, rfl, by omega, HN.out, below_drewN HL1.out _⟩, by simp [intOf]; omega⟩
    · obtain rfl : q = 4 := by omega
      rcases HF.out with ⟨rfl, _⟩ | ⟨i, rfl, hi, _, _⟩
      · go_wp2_with fail
        go_ret2
        exact ⟨.inl rfl, HL.out⟩
      · have hi0 : decide (0 ≤ (i : Int)) = true := by simp
        go_wp2_with fail
        all_goals
          go_ret2
          exact ⟨.inr ⟨i, hi, HF.out, by first | rfl | (congr 3; omega)⟩, HL.out⟩

theorem two_of {H : Type} {enc : TypeId × Value → H} {w : World} {cs : List Value} (h : Fits enc Try.prog w 40 cs) : ∃ x y : Int, 0 ≤ x ∧ x ≤ 255 ∧ cs = [.int .u8 x, .int .u8 y] := by
  obtain ⟨hl, hf⟩ := h.array Try.underlying40
  rw [show Try.prog.cellsOf 40 = 2 by kernel_rfl] at hl
  rw [show Try.prog.cellsOf 5 = 1 by kernel_rfl] at hf
  match cs, hl with
  | [c0, c1], _ =>
    obtain ⟨x, h0, w0⟩ := (hf 0 (by decide)).int (k := .u8) (by kernel_rfl)
    obtain ⟨y, h1, w1⟩ := (hf 1 (by decide)).int (k := .u8) (by kernel_rfl)
    simp at h0 h1
    have b0 := bounds_u8 w0
    exact ⟨x, y, b0.1, b0.2, by rw [h0, h1]⟩
theorem at_okk {s : MSt} {t : Nat} (ht : t < 4) : s.at t = s.T t := by rw [MSt.at, if_pos (okTh_lt ht)]; rfl
/-- what the two are told -/
theorem oldest_told {s : MSt} {n : Int} (hI : Inv s n) {o a : Nat} (ho : o < 4) (ha : a < 4) (hF : First s 4 o) :
    (s.chooseE o a ≠ 0 ∨ (s.chooseC 3 o a = 2 ∧ s.chooseN 3 o a = 0)) ∧ (s.chooseE a o ≠ 0 ∨ (s.chooseC 3 a o = 2) = ((s.T o).waits = true)) := by
  rcases hF with ⟨e, _⟩ | ⟨i, e, hi, hri, hm⟩
  · omega
  obtain rfl : o = i := by omega
  constructor
  · by_cases hE : s.chooseE o a = 0
    · right
      obtain ⟨h1, h2, h3, _, _⟩ := chooseE_runs hE
      simp only [Int.toNat_natCast] at h1 h2
      have h4 := hm a ha h2
      have h5 : (s.T o).stamp ≠ (s.T a).stamp := fun e => h3 (by rw [hI.apart o a h1 h2 e])
      have hk : s.kill 3 o a = true := by
        show killV 3 (s.T o) (s.T a) = true
        show ((s.T a).waits || decide ((s.T o).stamp < (s.T a).stamp)) = true
        rw [show decide ((s.T o).stamp < (s.T a).stamp) = true by simp; omega, Bool.or_true]
      rw [MSt.chooseC, MSt.chooseN, hE, if_pos rfl, if_pos rfl, hk]
      exact ⟨rfl, rfl⟩
    · exact .inl hE
  · by_cases hE : s.chooseE a o = 0
    · right
      obtain ⟨h1, h2, h3, _, _⟩ := chooseE_runs hE
      simp only [Int.toNat_natCast] at h1 h2
      have h4 := hm a ha h1
      have hk : s.kill 3 a o = (s.T o).waits := by
        show killV 3 (s.T a) (s.T o) = _
        show ((s.T o).waits || decide ((s.T a).stamp < (s.T o).stamp)) = _
        rw [show decide ((s.T a).stamp < (s.T o).stamp) = false by simp; omega, Bool.or_false]
      rw [MSt.chooseC, hE, if_pos rfl, hk]
      cases (s.T o).waits <;> simp
    · exact .inl hE
theorem pol_one : (pol 3).oneCell' = true := rfl
set_option maxHeartbeats 1600000 in
theorem oldest_law {H : Type} (enc : TypeId × Value → H) (w : World) (a : Option Addr) (len cap : Nat) (h : Fits enc Try.prog w 34 [.slice a len cap]) (c : Array Value) (hc : Fits enc Try.prog w 40 c.toList) :
    Calls Try.prog 5 #[.slice a len cap, .agg c] w fun e w' => e = .returned (.bool true) ∧ Below w.heap.size w w' := by
  obtain ⟨x, y, hx0, hx1, he⟩ := two_of hc
  obtain rfl : c = #[.int .u8 x, .int .u8 y] := by rw [← Array.toList_inj, he]
  have hD := deeds_of h
  obtain ⟨t, ht⟩ : ∃ t : Nat, (t : Int) = x % 4 := ⟨(x % 4).toNat, by omega⟩
  have ht4 : t < 4 := by omega
  have hx2 : IntKind.i64.wrap x = x := by rw [IntKind.wrap_i64]; omega
  have hx3 : x % 4 = (t : Int) := ht.symm
  have lW : Below w.heap.size w (w.alloc (.cells #[.int .u8 x, .int .u8 y] 40)) := by repeat (first | (with_reducible exact Below.refl _ _) | (with_reducible apply Below.drew) | (with_reducible refine below_drewN ?_ _) | (with_reducible refine below_alloc' ?_ ?_ _; (focus ((try simp) <;> omega))) | (with_reducible refine below_set' ?_ ?_ _; (focus ((try simp) <;> omega))))
  have hbx := blk_new w (.cells #[.int .u8 x, .int .u8 y] 40)
  have HD := Lib.hid (show Deeds (w.alloc (.cells #[.int .u8 x, .int .u8 y] 40)) a len from by
    obtain ⟨hm, hd⟩ := hD
    refine ⟨hm, hd.imp id ?_⟩
    rintro ⟨b, off, rfl, hc⟩
    refine ⟨b, off, rfl, fun i hi => ?_⟩
    obtain ⟨kd, th, ot, ag, c0, c1, c2, c3⟩ := hc i hi
    exact ⟨kd, th, ot, ag, bkeep lW c0, bkeep lW c1, bkeep lW c2, bkeep lW c3⟩)
  have HBX := Lib.hid hbx; have L0 := Lib.hid lW
  clear h hc he hD lW hbx ht
  go_enter Try.func5, Try.ntmps5
  go_wp2_with fail
  generalize w.alloc (.cells #[.int .u8 x, .int .u8 y] 40) = W at *
  refine (play_any W 2 (by decide) 3 (by decide) a len cap HD.out).mono ?_
  rintro e w1 ⟨b, rb, s, q, hq, rfl, hP⟩
  have H1 := Lib.hid hP; clear hP HD
  go_wp2_with fail
  refine (live_any _).mono ?_
  rintro e w2 ⟨rfl, l2⟩
  have H2 := Lib.hid (H1.out.below l2); clear l2 H1
  have HI := Lib.hid H2.out.both.i
  have HTR := Lib.hid (show ∀ i, 0 ≤ (s.T i).tries ∧ (s.T i).tries ≤ 1000000 from fun i => ⟨(HI.out.tr i).1, by have := (HI.out.tr i).2; omega⟩)
  go_wp2_with fail
  refine (oldest_any _ b _ s H2.out.both.m).mono ?_
  rintro e w3 ⟨hO, l3⟩
  have H3 := Lib.hid (H2.out.below l3); clear l3 H2
  rcases hO with rfl | ⟨o, ho4, hF, rfl⟩
  · go_wp2_with fail
    go_ret
    exact ⟨rfl, L0.out.trans (H3.out.lo.mono L0.out.size)⟩
  · have HT := Lib.hid (oldest_told HI.out ho4 ht4 hF)
    have x0 := blk_cell (bblk H3.out.lo HBX.out) 0
    simp only [List.getElem?_toArray, List.getElem?_cons_zero, List.getElem?_cons_succ] at x0
    clear hF
    go_wp2_with fail
    refine (fork_any w3 b _ pol_one s H3.out.both.m).mono ?_
    rintro e w4 ⟨rfl, m4, l4⟩
    have M4 := Lib.hid m4
    have H4 := Lib.hid (H3.out.below l4)
    have HL4 := Lib.hid (show Below w3.heap.size w3 w4 from l4)
    clear m4 l4 x0
    go_wp2_with fail
    refine (choose_any w4 w3.heap.size 3 (by decide) s M4.out o t HTR.out HI.out.me).mono ?_
    rintro e w5 ⟨rfl, o5, _⟩
    have l5 := HL4.out.trans (o5.below HL4.out.size fun k hk e => by omega)
    have H5 := Lib.hid (H3.out.below l5)
    clear o5 l5 M4 H4 HL4
    go_wp2_with fail
    refine (fork_any w5 b _ pol_one s H5.out.both.m).mono ?_
    rintro e w6 ⟨rfl, m6, l6⟩
    have M6 := Lib.hid m6
    have HL6 := Lib.hid (show Below w5.heap.size w5 w6 from l6)
    clear m6 l6
    go_wp2_with fail
    refine (choose_any w6 w5.heap.size 3 (by decide) s M6.out t o HTR.out HI.out.me).mono ?_
    rintro e w7 ⟨rfl, o7, _⟩
    have l7 := HL6.out.trans (o7.below HL6.out.size fun k hk e => by omega)
    have H7 := Lib.hid (H5.out.below l7)
    clear o7 l7 M6 HL6 H5
    have hwt := waiting_any w7 b _ s H7.out.both.m o
    rw [at_okk ho4] at hwt
    have HW := Lib.hid hwt
    clear hwt
    obtain ⟨t1, t2⟩ := HT.out
    generalize s.chooseE o t = e1 at *
    generalize s.chooseC 3 o t = c1 at *
    generalize s.chooseN 3 o t = n1 at *
    generalize s.chooseE t o = e2 at *
    generalize s.chooseC 3 t o = c2 at *
    generalize (s.T o).waits = wt at *
    have ha : (e1 != 0) = true ∨ ((e1 != 0) = false ∧ (c1 == 2) = true ∧ (n1 == 0) = true) := by
      rcases t1 with h | ⟨h, k⟩
      · left; simpa using h
      · by_cases he : e1 = 0
        · right; subst he h k; decide
        · left; simpa using he
    have hb : (e2 != 0) = true ∨ ((e2 != 0) = false ∧ ((c2 == 2) = wt)) := by
      rcases t2 with h | h
      · left; simpa using h
      · by_cases he : e2 = 0
        · right
          subst he
          refine ⟨by decide, ?_⟩
          cases wt
          · simp at h; simpa using h
          · simp at h; simpa using h
        · left; simpa using he
    have LZ := Lib.hid (show Below w.heap.size w w7 from L0.out.trans (H7.out.lo.mono L0.out.size))
    clear t1 t2 HT HTR HI H3
    rcases ha with ha | ⟨ha, hc1, hn1⟩ <;> rcases hb with hb | ⟨hb, hc2⟩
    · go_wp2_with fail
      go_ret
      exact ⟨rfl, LZ.out⟩
    · go_wp2_with fail
      refine HW.out.mono ?_
      rintro e w8 ⟨rfl, l8⟩
      have L8 := Lib.hid (btrans LZ.out (Nat.le_refl _) l8); clear l8
      go_wp2_with fail
      go_ret
      exact ⟨by simp, L8.out⟩
    · go_wp2_with fail
      go_ret
      exact ⟨rfl, LZ.out⟩
    · go_wp2_with fail
      refine HW.out.mono ?_
      rintro e w8 ⟨rfl, l8⟩
      have L8 := Lib.hid (btrans LZ.out (Nat.le_refl _) l8); clear l8
      go_wp2_with fail
      go_ret
      exact ⟨by simp, L8.out⟩
end Go.Proofs.Ytphnogbkiemoeaa.Man
