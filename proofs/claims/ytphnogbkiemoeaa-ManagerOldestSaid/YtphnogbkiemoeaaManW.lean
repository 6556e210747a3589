/- The statements: stamps; a nil manager. -/
import Derived.Test.YtphnogbkiemoeaaManK
import Derived.Test.YtphnogbkiemoeaaRow
namespace Go.Proofs.Ytphnogbkiemoeaa.Man
open Go.RowKit
set_option linter.unusedSimpArgs false
set_option linter.unusedVariables false

theorem cells_deed : Try.prog.cellsOf 46 = 4 := by kernel_rfl
theorem deed_of {H : Type} {enc : TypeId × Value → H} {w : World} {cs : List Value} (h : Fits enc Try.prog w 46 cs) : ∃ (kd th ot : Int) (ag : Bool), cs = [.int .i64 kd, .int .i64 th, .int .i64 ot, .bool ag] := by
  obtain ⟨hl, hf⟩ := h.struct Try.underlying46
  rw [cells_deed] at hl
  match cs, hl with
  | [c0, c1, c2, c3], _ =>
    obtain ⟨k, h0, w0⟩ := (hf 0 _ rfl).int (k := .i64) (by kernel_rfl)
    obtain ⟨c, h1, w1⟩ := (hf 1 _ rfl).int (k := .i64) (by kernel_rfl)
    obtain ⟨a, h2, w2⟩ := (hf 2 _ rfl).int (k := .i64) (by kernel_rfl)
    obtain ⟨b, h3⟩ := (hf 3 _ rfl).bool (by kernel_rfl)
    have e0 := take_one h0; have e1 := take_one h1; have e2 := take_one h2; have e3 := take_one h3
    simp at e0 e1 e2 e3
    exact ⟨k, c, a, b, by rw [e0, e1, e2, e3]⟩
theorem deeds_of {H : Type} {enc : TypeId × Value → H} {w : World} {a : Option Addr} {len cap : Nat} (h : Fits enc Try.prog w 34 [.slice a len cap]) : Deeds w a len := by
  obtain ⟨hm, hh⟩ := h.slice Try.underlying34 (by rw [cells_deed]; decide)
  refine ⟨hm, ?_⟩
  rcases hh with hh | ⟨b, off, rfl, hh⟩
  · exact .inl hh
  refine .inr ⟨b, off, rfl, fun i hi => ?_⟩
  obtain ⟨cs, hl, hc, hf⟩ := hh i hi
  obtain ⟨kd, th, ot, ag, rfl⟩ := deed_of hf
  rw [cells_deed] at hc
  exact ⟨kd, th, ot, ag, hc 0 (by decide), hc 1 (by decide), hc 2 (by decide), hc 3 (by decide)⟩

/-! ### nil -/
theorem oldest_nil (w : World) : Calls Try.prog 19 #[.pointer none] w fun e w' => e = .returned (.tuple #[.int .i64 0, .bool false]) ∧ w = w' := by
  go_enter Try.func19, Try.ntmps19
  go_wp2
  go_ret2
  exact ⟨rfl, rfl⟩
theorem kind_nil (w : World) : Calls Try.prog 22 #[.pointer none] w fun e w' => e = .returned (.int .u8 0) ∧ w = w' := by
  go_enter Try.func22, Try.ntmps22
  go_wp2
  go_ret
  exact ⟨rfl, rfl⟩
theorem fork_nil (w : World) : Calls Try.prog 20 #[.pointer none] w fun e w' => e = .returned (.pointer none) ∧ w = w' := by
  go_enter Try.func20, Try.ntmps20
  go_wp2
  go_ret
  exact ⟨rfl, rfl⟩

theorem stamps_zero {s : MSt} {n : Int} (h : Inv s n) {t : Nat} (ht : t < 4) : s.at t = s.T t := by rw [MSt.at, if_pos (okTh_lt ht)]; rfl
set_option maxHeartbeats 1600000 in
theorem stamps {H : Type} (enc : TypeId × Value → H) (w : World) (n : Int) (hn : (Lit.int .u8 n).wf = true) (a : Option Addr) (len cap : Nat) (h : Fits enc Try.prog w 34 [.slice a len cap]) (x : Int) (hx : (Lit.int .u8 x).wf = true) :
    Calls Try.prog 4 #[.int .u8 n, .slice a len cap, .int .u8 x] w fun e w' => e = .returned (.bool true) ∧ Below w.heap.size w w' := by
  have HD := Lib.hid (deeds_of h)
  have hb := bounds_u8 hn
  have hbx := bounds_u8 hx
  obtain ⟨k, hk⟩ : ∃ k : Nat, (k : Int) = 1 + n % 3 := ⟨(1 + n % 3).toNat, by omega⟩
  obtain ⟨t, ht⟩ : ∃ t : Nat, (t : Int) = x % 4 := ⟨(x % 4).toNat, by omega⟩
  have ht4 : t < 4 := by omega
  have hx1 : IntKind.i64.wrap x = x := by rw [IntKind.wrap_i64]; have := hbx.1; have := hbx.2; omega
  have hx2 : x % 4 = (t : Int) := ht.symm
  have HK := Lib.hid hk; have HB := Lib.hid hb
  clear h hn hx hk hb ht
  have hx0 : 0 ≤ x := hbx.1
  clear hbx
  go_enter Try.func4, Try.ntmps4
  go_wp2_with fail
  refine (play_any w n HB.out k HK.out a len cap HD.out).mono ?_
  rintro e w1 ⟨b, rb, s, q, hq, rfl, hP⟩
  have H1 := Lib.hid hP; clear hP HD HB HK
  go_wp2_with fail
  refine (live_any _).mono ?_
  rintro e w2 ⟨rfl, l2⟩
  have H2 := Lib.hid (H1.out.below l2); clear l2 H1
  have HI := Lib.hid H2.out.both.i
  go_wp2_with fail
  rw [hx2]
  clear hx2
  go_loopw [11, 12] (fun hi i wr => ∃ (r : Nat) (m : Int), i = .int .i64 r ∧ hi = .int .i64 m ∧ r ≤ 4 ∧ 0 ≤ m ∧ m ≤ s.last ∧ Playing w wr b rb k s q) (fun _ i _ => 4 - (intOf i).toNat)
  case atStart => exact ⟨0, 0, rfl, rfl, by decide, Int.le_refl _, HI.out.lo, H2.out⟩
  case round =>
    obtain ⟨r, m, rfl, rfl, hr, hm0, hm1, hP⟩ := hrel
    have H := Lib.hid hP; clear hP H2
    by_cases hr4 : r < 4
    · have hst := stamp_any wr b _ s H.out.both.m r
      rw [stamps_zero HI.out hr4] at hst
      have HS := Lib.hid hst
      have hst2 := HI.out.st r
      clear hst
      go_wp2_with fail
      refine HS.out.mono ?_
      rintro e w3 ⟨rfl, l3⟩
      have H3 := Lib.hid (H.out.below l3); clear l3 HS
      by_cases hgt : m < (s.T r).stamp
      · have hd : decide (m < (s.T r).stamp) = true := by simpa using hgt
        have hst := stamp_any w3 b _ s H3.out.both.m r
        rw [stamps_zero HI.out hr4] at hst
        have HS := Lib.hid hst
        clear hst hgt
        go_wp2_with fail
        refine HS.out.mono ?_
        rintro e w4 ⟨rfl, l4⟩
        have H4 := Lib.hid (H3.out.below l4); clear l4 HS
        go_wp2_with fail
        exact ⟨⟨r + 1, _, by go_num, rfl, by omega, hst2.1, hst2.2, H4.out⟩, by simp [intOf]; omega⟩
      · have hd : decide (m < (s.T r).stamp) = false := by simpa using hgt
        clear hgt
        go_wp2_with fail
        exact ⟨⟨r + 1, _, by go_num, rfl, by omega, hm0, hm1, H3.out⟩, by simp [intOf]; omega⟩
    · have hst := stamp_any wr b _ s H.out.both.m t
      rw [stamps_zero HI.out ht4] at hst
      have HS := Lib.hid hst
      clear hst
      go_wp2_with fail
      refine HS.out.mono ?_
      rintro e w3 ⟨rfl, l3⟩
      have H3 := Lib.hid (H.out.below l3); clear l3 HS
      have hbg := began_any w3 b _ s H3.out.both.m t false ⟨HI.out.lo, by have := HI.out.hi; omega⟩
      have HB := Lib.hid hbg
      clear hbg
      have hE : s.beganE t false = if (s.T t).runs = false then 0 else 8 := by rw [MSt.beganE, if_pos (okTh_lt ht4)]; rfl
      cases hrun : (s.T t).runs
      · have hz := HI.out.idle t hrun
        rw [hrun, if_pos rfl] at hE
        have hS : s.beganS t false = ⟨upd s.T t ⟨true, false, 0, 0, s.last + 1⟩, s.last + 1⟩ := by rw [MSt.beganS, if_pos hE]; rfl
        rw [hE, hS] at HB
        have hzs : (s.T t).stamp = 0 := by rw [hz]; rfl
        rw [hzs]
        clear hE hS hrun hz
        go_wp2_with fail
        refine HB.out.mono ?_
        rintro e w4 ⟨rfl, o4, m4⟩
        have hb := H3.out.bl
        have L4 := Lib.hid (H3.out.lo.trans (o4.below H3.out.lo.size fun k hk e => by omega))
        have hat : (MSt.mk (upd s.T t ⟨true, false, 0, 0, s.last + 1⟩) (s.last + 1)).at t = ⟨true, false, 0, 0, s.last + 1⟩ := by
          rw [MSt.at, if_pos (okTh_lt ht4)]; exact upd_same _ _ _
        have M4 := Lib.hid m4; clear m4 o4 HB H3
        go_wp2_with fail
        have hs5 := stamp_any w4 b _ _ M4.out t
        rw [hat] at hs5
        refine hs5.mono ?_
        rintro e w5 ⟨rfl, l5⟩
        have M5 := Lib.hid (M4.out.below l5); have L5 := Lib.hid (btrans L4.out (Nat.le_refl _) l5); clear l5 M4 L4 hs5
        have hgt : decide (m < s.last + 1) = true := by simp; omega
        go_wp2_with fail
        have hs6 := merit_any w5 b _ _ M5.out t
        rw [hat] at hs6
        refine hs6.mono ?_
        rintro e w6 ⟨rfl, l6⟩
        have M6 := Lib.hid (M5.out.below l6); have L6 := Lib.hid (btrans L5.out (Nat.le_refl _) l6); clear l6 M5 L5 hs6
        go_wp2_with fail
        have hs7 := tries_any w6 b _ _ M6.out t
        rw [hat] at hs7
        refine hs7.mono ?_
        rintro e w7 ⟨rfl, l7⟩
        have L7 := Lib.hid (btrans L6.out (Nat.le_refl _) l7); clear l7 M6 L6 hs7
        go_wp2_with fail
        go_ret
        exact ⟨rfl, L7.out⟩
      · have hpos := HI.out.run t hrun
        rw [hrun, if_neg (by decide)] at hE
        have hS : s.beganS t false = s := by rw [MSt.beganS, hE]; rfl
        rw [hE, hS] at HB
        have hE2 : s.beganE t true = 0 := by rw [MSt.beganE, if_pos (okTh_lt ht4)]; show (if (s.T t).runs = true then (0 : Int) else 8) = 0; rw [hrun]; rfl
        have hS2 : s.beganS t true = ⟨upd s.T t { s.T t with waits := false, tries := 0 }, s.last⟩ := by rw [MSt.beganS, if_pos hE2]; rfl
        clear hE hS hrun
        go_wp2_with fail
        refine HB.out.mono ?_
        rintro e w4 ⟨rfl, o4, m4⟩
        have hb := H3.out.bl
        have L4 := Lib.hid (H3.out.lo.trans (o4.below H3.out.lo.size fun k hk e => by omega))
        have M4 := Lib.hid m4; clear m4 o4 HB H3
        have hbg := began_any w4 b _ s M4.out t true ⟨HI.out.lo, by have := HI.out.hi; omega⟩
        rw [hE2, hS2] at hbg
        have HB := Lib.hid hbg
        clear hbg hE2 hS2
        have hd : decide (0 < (s.T t).stamp) = true := by simpa using hpos
        clear hpos
        go_wp2_with fail
        refine HB.out.mono ?_
        rintro e w5 ⟨rfl, o5, m5⟩
        have L5 := Lib.hid (L4.out.trans (o5.below L4.out.size fun k hk e => by omega))
        have M5 := Lib.hid m5; clear m5 o5 HB M4 L4
        have hat : (MSt.mk (upd s.T t { s.T t with waits := false, tries := 0 }) s.last).at t = { s.T t with waits := false, tries := 0 } := by
          rw [MSt.at, if_pos (okTh_lt ht4)]; exact upd_same _ _ _
        go_wp2_with fail
        have hs6 := stamp_any w5 b _ _ M5.out t
        rw [hat] at hs6
        refine hs6.mono ?_
        rintro e w6 ⟨rfl, l6⟩
        have M6 := Lib.hid (M5.out.below l6); have L6 := Lib.hid (btrans L5.out (Nat.le_refl _) l6); clear l6 M5 L5 hs6
        go_wp2_with fail
        have hs7 := waiting_any w6 b _ _ M6.out t
        rw [hat] at hs7
        refine hs7.mono ?_
        rintro e w7 ⟨rfl, l7⟩
        have L7 := Lib.hid (btrans L6.out (Nat.le_refl _) l7); clear l7 M6 L6 hs7
        go_wp2_with fail
        go_ret
        exact ⟨by simp, L7.out⟩

set_option maxHeartbeats 1600000 in
theorem none_law {H : Type} (enc : TypeId × Value → H) (w : World) (c : Array Value) (h : Fits enc Try.prog w 46 c.toList) (k : Int) (hk : (Lit.int .u8 k).wf = true) :
    Calls Try.prog 6 #[.agg c, .int .u8 k] w fun e w' => e = .returned (.bool true) ∧ Below w.heap.size w w' := by
  obtain ⟨kd, th, ot, ag, he⟩ := deed_of h
  obtain rfl : c = #[.int .i64 kd, .int .i64 th, .int .i64 ot, .bool ag] := by rw [← Array.toList_inj, he]
  have hb := bounds_u8 hk
  have hb0 : 0 ≤ k := hb.1
  have hb1 : k ≤ 255 := hb.2
  have lW : Below w.heap.size w (w.alloc (.cells #[.int .i64 kd, .int .i64 th, .int .i64 ot, .bool ag] 46)) := by repeat (first | (with_reducible exact Below.refl _ _) | (with_reducible apply Below.drew) | (with_reducible refine below_drewN ?_ _) | (with_reducible refine below_alloc' ?_ ?_ _; (focus ((try simp) <;> omega))) | (with_reducible refine below_set' ?_ ?_ _; (focus ((try simp) <;> omega))))
  have hx := blk_new w (.cells #[.int .i64 kd, .int .i64 th, .int .i64 ot, .bool ag] 46)
  have KO := Lib.hid (show ∀ w', Below (w.alloc (.cells #[.int .i64 kd, .int .i64 th, .int .i64 ot, .bool ag] 46)).heap.size (w.alloc (.cells #[.int .i64 kd, .int .i64 th, .int .i64 ot, .bool ag] 46)) w' → (w'.cell? ⟨w.heap.size, 1, none⟩ = some (.int .i64 th) ∧ w'.cell? ⟨w.heap.size, 2, none⟩ = some (.int .i64 ot) ∧ w'.cell? ⟨w.heap.size, 3, none⟩ = some (.bool ag)) from fun w' l => by
    have x1 := blk_cell (bblk l hx) 1; have x2 := blk_cell (bblk l hx) 2; have x3 := blk_cell (bblk l hx) 3
    exact ⟨x1, x2, x3⟩)
  have L0 := Lib.hid lW
  clear h he hk hb hx lW
  go_enter Try.func6, Try.ntmps6
  go_wp2_with fail
  generalize w.alloc (.cells #[.int .i64 kd, .int .i64 th, .int .i64 ot, .bool ag] 46) = W at *
  go_wp2_with fail; refine (choose_nil _ th ot).mono ?_; rintro e w0 ⟨rfl, rfl⟩
  go_wp2_with fail; refine (oldest_nil _).mono ?_; rintro e w0 ⟨rfl, rfl⟩
  go_wp2_with fail
  refine (live_any W).mono ?_
  rintro e w2 ⟨rfl, l2⟩
  obtain ⟨c1, c2, c3⟩ := KO.out w2 l2
  have K2 := Lib.hid l2; clear l2
  go_wp2_with fail; refine (began_nil _ th ag).mono ?_; rintro e w0 ⟨rfl, rfl⟩
  go_wp2_with fail; refine (opened_nil _ th).mono ?_; rintro e w0 ⟨rfl, rfl⟩
  go_wp2_with fail; refine (passed_nil _ th).mono ?_; rintro e w0 ⟨rfl, rfl⟩
  go_wp2_with fail; refine (ended_nil _ th).mono ?_; rintro e w0 ⟨rfl, rfl⟩
  go_wp2_with fail
  refine (tries_nil _ th).mono ?_
  rintro e w3 ⟨rfl, l3⟩
  have K3 := Lib.hid (btrans K2.out (Nat.le_refl _) l3); clear l3 K2 c1 c2 c3
  obtain ⟨c1, c2, c3⟩ := KO.out w3 K3.out
  go_wp2_with fail
  refine (merit_nil _ th).mono ?_
  rintro e w4 ⟨rfl, l4⟩
  have K4 := Lib.hid (btrans K3.out (Nat.le_refl _) l4); clear l4 K3 c1 c2 c3
  obtain ⟨c1, c2, c3⟩ := KO.out w4 K4.out
  go_wp2_with fail
  refine (stamp_nil _ th).mono ?_
  rintro e w5 ⟨rfl, l5⟩
  have K5 := Lib.hid (btrans K4.out (Nat.le_refl _) l5); clear l5 K4 c1 c2 c3
  obtain ⟨c1, c2, c3⟩ := KO.out w5 K5.out
  go_wp2_with fail
  refine (waiting_nil _ th).mono ?_
  rintro e w6 ⟨rfl, l6⟩
  have K6 := Lib.hid (btrans K5.out (Nat.le_refl _) l6); clear l6 K5 c1 c2 c3
  go_wp2_with fail; refine (kind_nil _).mono ?_; rintro e w0 ⟨rfl, rfl⟩
  go_wp2_with fail; refine (fork_nil _).mono ?_; rintro e w0 ⟨rfl, rfl⟩
  by_cases hk3 : k = 1 ∨ k = 2 ∨ k = 3
  · obtain ⟨kn, rfl⟩ : ∃ kn : Nat, k = kn := ⟨k.toNat, by omega⟩
    have hkn : kn = 1 ∨ kn = 2 ∨ kn = 3 := by omega
    have d1 : decide ((kn : Int) < 1) = false := by simp; omega
    have d2 : decide ((3 : Int) < kn) = false := by simp; omega
    go_wp2_with fail
    refine (new_ok _ kn hkn).mono ?_
    rintro e w7 ⟨rfl, _, l7⟩
    have K7 := Lib.hid (btrans K6.out (Nat.le_refl _) l7); clear l7 K6
    go_wp2_with fail
    go_ret
    exact ⟨by simp, L0.out.trans (K7.out.mono L0.out.size)⟩
  · have hd : (decide (k < 1) || decide (3 < k)) = true := by simp; omega
    go_wp2_with fail
    refine (new_no _ k hk3).mono ?_
    rintro e w7 ⟨rfl, rfl⟩
    by_cases h1 : k < 1
    · have d1 : decide (k < 1) = true := by simpa using h1
      clear hd h1 hk3
      go_wp2_with fail
      go_ret
      exact ⟨by simp, L0.out.trans (K6.out.mono L0.out.size)⟩
    · have d1 : decide (k < 1) = false := by simpa using h1
      have d2 : decide (3 < k) = true := by simp; omega
      clear hd h1 hk3
      go_wp2_with fail
      go_ret
      exact ⟨by simp, L0.out.trans (K6.out.mono L0.out.size)⟩
end Go.Proofs.Ytphnogbkiemoeaa.Man
