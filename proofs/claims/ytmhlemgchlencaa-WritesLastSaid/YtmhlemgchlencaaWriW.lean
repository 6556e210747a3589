/- The statements: plays, drops, merges, forks. -/
import Derived.Test.YtmhlemgchlencaaWriZ
namespace Go.Proofs.Ytmhlemgchlencaa.Wri
open Go.RowKit
set_option linter.unusedSimpArgs false
set_option linter.unusedVariables false

theorem plays_law {H : Type} (enc : TypeId × Value → H) (w : World) (a : Option Addr) (len cap : Nat) (h : Fits enc Try.prog w 22 [.slice a len cap]) :
    Calls Try.prog 4 #[.slice a len cap] w fun e w' => e = .returned (.bool true) ∧ Below w.heap.size w w' := by
  have HD := Lib.hid (deeds_of h)
  clear h
  go_enter Try.func4, Try.ntmps4
  go_wp2_with fail; refine (play_any w a len cap HD.out).mono ?_; rintro e w1 ⟨b, rb, fs, rfl, hP⟩; have H1 := Lib.hid hP; clear hP HD; go_wp2_with fail; refine (live_any _).mono ?_; rintro e w2 ⟨rfl, l2⟩; have H2 := Lib.hid (H1.out.below l2); clear l2 H1; go_wp2_with fail
  refine (both_same H2.out.both).mono ?_
  rintro e w3 ⟨rfl, l3⟩
  have H3 := Lib.hid (H2.out.below l3); clear l3 H2
  go_wp2_with fail
  go_ret
  exact ⟨by simp, H3.out.lo⟩

/-! ### drops -/
def Puts (w : World) (a : Option Addr) (len : Nat) : Prop :=
  len ≤ 9223372036854775807 ∧ (len = 0 ∨ ∃ b off, a = some ⟨b, off, none⟩ ∧ ∀ i, i < len → ∃ t v : Int, (w.cell? ⟨b, off + i * 2, none⟩ = some (.int .i64 t) ∧ w.cell? ⟨b, off + i * 2 + 1, none⟩ = some (.int .u64 v)) ∧ 0 ≤ v ∧ v < 18446744073709551616)
theorem cells_pair : Try.prog.cellsOf 26 = 2 := by kernel_rfl
theorem pair_of {H : Type} {enc : TypeId × Value → H} {w : World} {cs : List Value} (h : Fits enc Try.prog w 26 cs) : ∃ (t v : Int), cs = [.int .i64 t, .int .u64 v] ∧ 0 ≤ v ∧ v < 18446744073709551616 := by
  obtain ⟨hl, hf⟩ := h.struct Try.underlying26
  rw [cells_pair] at hl
  match cs, hl with
  | [c1, c2], _ =>
    obtain ⟨c, h1, w1⟩ := (hf 0 _ rfl).int (k := .i64) (by kernel_rfl)
    obtain ⟨a, h2, w2⟩ := (hf 1 _ rfl).int (k := .u64) (by kernel_rfl)
    have e1 := take_one h1; have e2 := take_one h2
    simp at e1 e2
    have hb := bounds_u64 w2
    exact ⟨c, a, by rw [e1, e2], hb.1, by have := hb.2; omega⟩
theorem puts_of {H : Type} {enc : TypeId × Value → H} {w : World} {a : Option Addr} {len cap : Nat} (h : Fits enc Try.prog w 32 [.slice a len cap]) : Puts w a len := by
  obtain ⟨hm, hh⟩ := h.slice Try.underlying32 (by rw [cells_pair]; decide)
  refine ⟨hm, ?_⟩
  rcases hh with hh | ⟨b, off, rfl, hh⟩
  · exact .inl hh
  refine .inr ⟨b, off, rfl, fun i hi => ?_⟩
  obtain ⟨cs, hl, hc, hf⟩ := hh i hi
  obtain ⟨th, v, rfl, hv⟩ := pair_of hf
  rw [cells_pair] at hc
  exact ⟨th, v, ⟨hc 0 (by decide), hc 1 (by decide)⟩, hv⟩
/-- the one log with a frame more -/
structure Half (w w' : World) (b rb : Nat) (f : Frm) (fs : List Frm) : Prop where
  l : LAt w' b (f :: fs)
  i : WellS (f :: fs)
  r : RAt w' rb fs
  lo : Below w.heap.size w w'
  bl : w.heap.size ≤ b
  rl : w.heap.size ≤ rb
  ne : b ≠ rb
theorem Half.drew {w w' : World} {b rb : Nat} {f : Frm} {fs : List Frm} (h : Half w w' b rb f fs) : Half w w'.drew b rb f fs :=
  ⟨h.l.below (Below.refl _ _).drew, h.i, RAt.below h.r (Below.refl _ _).drew, h.lo.drew, h.bl, h.rl, h.ne⟩
theorem Half.put {w w1 w2 : World} {b rb : Nat} {f : Frm} {fs : List Frm} (h : Half w w1 b rb f fs) {t v : Int} (ho : Only (fun k => k = b) w1 w2) (hl : LAt w2 b (putS (f :: fs) t v)) : ∃ f', Half w w2 b rb f' fs := by
  have hb := h.bl
  have hi := h.i.put t v
  have hr := RAt.strange h.r ho h.l.odd (fun e => h.ne e.symm)
  have lo := h.lo.trans (ho.below h.lo.size fun k hk e => by omega)
  unfold putS at hi hl
  split at hl
  · rename_i h0
    rw [if_pos h0] at hi
    exact ⟨_, hl, hi, hr, lo, h.bl, h.rl, h.ne⟩
  · rename_i h0
    rw [if_neg h0] at hi
    exact ⟨_, hl, hi, hr, lo, h.bl, h.rl, h.ne⟩
theorem Playing.half {w w1 w2 : World} {b rb : Nat} {fs : List Frm} (h : Playing w w1 b rb fs) (ho : Only (fun k => k = b) w1 w2) (hl : LAt w2 b ([] :: fs)) : Half w w2 b rb [] fs := by
  have hb := h.bl
  have hL : LAt w1 b fs := h.both.l
  refine ⟨hl, ⟨?_, by rw [lenF_cons]; simpa using h.both.i.len⟩, RAt.strange h.both.r ho hL.odd (fun e => h.both.ne e.symm), h.lo.trans (ho.below h.lo.size fun k hk e => by omega), h.bl, h.rl, h.both.ne⟩
  intro g hg
  rcases List.mem_cons.1 hg with rfl | hg
  · exact GoodF.nil
  · exact h.both.i.good g hg
theorem Half.play {w w1 w2 : World} {b rb : Nat} {f : Frm} {fs : List Frm} (h : Half w w1 b rb f fs) (ho : Only (fun k => k = b) w1 w2) (hl : LAt w2 b fs) : Playing w w2 b rb fs := by
  have hb := h.bl
  have hr := RAt.strange h.r ho h.l.odd (fun e => h.ne e.symm)
  exact ⟨⟨hl, hr, h.i.drop_of⟩, h.lo.trans (ho.below h.lo.size fun k hk e => by omega), h.bl, h.rl⟩
set_option maxHeartbeats 1600000 in
theorem drops_law {H : Type} (enc : TypeId × Value → H) (w : World) (a : Option Addr) (len cap : Nat) (h : Fits enc Try.prog w 22 [.slice a len cap]) (a' : Option Addr) (len' cap' : Nat) (h' : Fits enc Try.prog w 32 [.slice a' len' cap']) :
    Calls Try.prog 5 #[.slice a len cap, .slice a' len' cap'] w fun e w' => e = .returned (.bool true) ∧ Below w.heap.size w w' := by
  have HD := Lib.hid (deeds_of h)
  obtain ⟨hm, hd⟩ := puts_of h'
  have HPU := Lib.hid hd
  clear h h' hd
  go_enter Try.func5, Try.ntmps5
  go_wp2_with fail; refine (play_any w a len cap HD.out).mono ?_; rintro e w1 ⟨b, rb, fs, rfl, hP⟩; have H1 := Lib.hid hP; clear hP HD; go_wp2_with fail; refine (live_any _).mono ?_; rintro e w2 ⟨rfl, l2⟩; have H2 := Lib.hid (H1.out.below l2); clear l2 H1; go_wp2_with fail
  have hq := lpush_p (show LAt w2 b fs from H2.out.both.l)
  unfold pushN pushS at hq
  by_cases h5 : 5 ≤ fs.length
  · simp only [if_pos h5] at hq
    have hl5 : (fs.length : Int) - 1 = 4 := by
      obtain ⟨xs, hx, _, _, _, _, hl⟩ := H2.out.both.l
      rw [← hx, List.length_map] at h5 ⊢
      omega
    have HQ := Lib.hid hq; have HL5 := Lib.hid hl5
    clear hq h5 hl5
    go_wp2_with fail
    refine HQ.out.mono ?_
    rintro e w3 ⟨rfl, o3, m3⟩
    have hb := H2.out.bl
    have HLo := Lib.hid (H2.out.lo.trans (o3.below H2.out.lo.size fun k hk e => by omega)); have M3 := Lib.hid m3
    clear o3 m3 HQ
    go_wp2_with fail
    refine (ldepth_p M3.out).mono ?_
    rintro e w4 ⟨rfl, rfl⟩
    rw [HL5.out]
    go_wp2_with fail
    go_ret
    exact ⟨rfl, HLo.out⟩
  · simp only [if_neg h5] at hq
    have HQ := Lib.hid hq
    clear hq h5
    go_wp2_with fail
    refine HQ.out.mono ?_
    rintro e w3 ⟨rfl, o3, m3⟩
    have HH := Lib.hid (H2.out.half o3 m3)
    clear o3 m3 HQ H2
    go_wp2_with fail
    go_loopw [9] (fun i wr => ∃ (q : Nat) (f : Frm), i = .int .i64 q ∧ q ≤ len' ∧ q ≤ 12 ∧ Half w wr b rb f fs) (fun i _ => len' - (intOf i).toNat)
    case atStart => exact ⟨0, _, rfl, Nat.zero_le _, Nat.zero_le _, HH.out⟩
    case round =>
      obtain ⟨q, f, rfl, hq, hq6, hP⟩ := hrel
      have H := Lib.hid hP; clear hP HH
      by_cases hlt : q < len' ∧ q < 12
      · obtain ⟨hlt, h12⟩ := hlt
        obtain ⟨db, off, rfl, hc⟩ := HPU.out.resolve_left (by omega)
        obtain ⟨t, v, ⟨c0, c1⟩, hv⟩ := hc q hlt
        replace c0 := bkeep H.out.lo c0; replace c1 := bkeep H.out.lo c1
        have HV := Lib.hid hv
        have QA : wr.drew.cell? ⟨db, off + q * 2, none⟩ = some (.int .i64 t) ∧ wr.drew.cell? ⟨db, off + q * 2 + 1, none⟩ = some (.int .u64 v) := ⟨c0, c1⟩
        have HDR := Lib.hid H.out.drew
        have hpw : db < w.heap.size := by
          obtain ⟨_, _, ⟨c, _⟩, _⟩ := hc q hlt
          exact World.block_lt_of_cell? w _ c
        have KO := Lib.hid (show ∀ w', Only (fun k => k = b) wr.drew w' → (w'.cell? ⟨db, off + q * 2, none⟩ = some (.int .i64 t) ∧ w'.cell? ⟨db, off + q * 2 + 1, none⟩ = some (.int .u64 v)) from fun w' ho => ⟨ho.cell QA.1 (by have := H.out.bl; show ¬ (db = b); omega), ho.cell QA.2 (by have := H.out.bl; show ¬ (db = b); omega)⟩)
        clear hc hv c0 c1
        go_wp2_with fail
        go_region_held3 (fun w' => w'.cell? ⟨db, off + q * 2, none⟩ = some (.int .i64 t) ∧ w'.cell? ⟨db, off + q * 2 + 1, none⟩ = some (.int .u64 v)) (first | (with_reducible exact QA) | (with_reducible exact QB)) ((go_at_call 13; (with_reducible refine Calls.mono (lput_p HDR.out.l HDR.out.i t v HV.out) ?_); rintro e w4 ⟨rfl, o4, m4⟩; have QB := KO.out w4 o4))
        obtain ⟨f', hf'⟩ := HDR.out.put o4 m4
        have HF := Lib.hid hf'
        clear hf' o4 m4 QA QB
        go_wp2_with fail
        exact ⟨⟨q + 1, f', by go_num, by omega, by omega, HF.out⟩, by simp [intOf]; omega⟩
      · have hdr := ldrop_p H.out.l
        have hne : ¬ (f :: fs).length ≤ 1 := by
          have := RAt.ne H.out.r
          cases fs with
          | nil => exact absurd rfl this
          | cons g r => simp
        unfold dropN dropS at hdr
        simp only [if_neg hne, List.tail_cons] at hdr
        have HDR := Lib.hid hdr
        clear hdr hne
        by_cases hlt2 : q < len'
        · have h12 : ¬ ((q : Int) < 12) := by omega
          clear hlt
          go_wp2_with fail
          refine HDR.out.mono ?_; rintro e w4 ⟨rfl, o4, m4⟩; have H4 := Lib.hid (H.out.play o4 m4); clear o4 m4 H HDR; go_wp2_with fail; refine (both_same H4.out.both).mono ?_; rintro e w5 ⟨rfl, l5⟩; have H5 := Lib.hid (H4.out.below l5); clear l5 H4; go_wp2_with fail; go_ret; exact ⟨by simp, H5.out.lo⟩
        · clear hlt
          go_wp2_with fail
          refine HDR.out.mono ?_; rintro e w4 ⟨rfl, o4, m4⟩; have H4 := Lib.hid (H.out.play o4 m4); clear o4 m4 H HDR; go_wp2_with fail; refine (both_same H4.out.both).mono ?_; rintro e w5 ⟨rfl, l5⟩; have H5 := Lib.hid (H4.out.below l5); clear l5 H4; go_wp2_with fail; go_ret; exact ⟨by simp, H5.out.lo⟩

/-! ### merges -/
theorem getL_merge {fs : List Frm} (h : WellS fs) : getL (mergeS fs) = getL fs := by
  funext t
  match fs, h with
  | [], _ => rfl
  | [x], _ => rfl
  | x :: y :: r, h =>
    show getL (mergeF y x :: r) t = _
    rw [getL_cons, getL_cons, getL_cons, getF_mergeF (h.good x (by simp)), Option.or_assoc]
theorem mergeS_len (fs : List Frm) (h : ¬ fs.length ≤ 1) : ((mergeS fs).length : Int) - 1 = (fs.length : Int) - 1 - 1 := by
  match fs, h with
  | [], h => simp at h
  | [x], h => simp at h
  | x :: y :: r, _ => simp [mergeS]
theorem pairs_only {B b : Nat} {w w' : World} {v : Value} {f : Frm} (h : PairsAt B w v f) (ho : Only (fun k => k = b) w w') (hb : b < B) : PairsAt B w' v f :=
  ownsRow_only h ho (fun k hk e => by have := (h.lt k hk).1; omega)
set_option maxHeartbeats 1600000 in
theorem merges_law {H : Type} (enc : TypeId × Value → H) (w : World) (a : Option Addr) (len cap : Nat) (h : Fits enc Try.prog w 22 [.slice a len cap]) :
    Calls Try.prog 6 #[.slice a len cap] w fun e w' => e = .returned (.bool true) ∧ Below w.heap.size w w' := by
  have HD := Lib.hid (deeds_of h)
  clear h
  go_enter Try.func6, Try.ntmps6
  go_wp2_with fail; refine (play_any w a len cap HD.out).mono ?_; rintro e w1 ⟨b, rb, fs, rfl, hP⟩; have H1 := Lib.hid hP; clear hP HD; go_wp2_with fail; refine (live_any _).mono ?_; rintro e w2 ⟨rfl, l2⟩; have H2 := Lib.hid (H1.out.below l2); clear l2 H1; go_wp2_with fail
  refine (lall_p H2.out.both.l).mono ?_
  rintro e w3 ⟨v1, rfl, p1, l3⟩
  have hbw2 := H2.out.both.blt
  have H3 := Lib.hid (H2.out.below l3)
  have hbs := H3.out.bl
  have P1 := Lib.hid p1
  clear l3 p1 H2
  go_wp2_with fail
  refine (ldepth_p H3.out.both.l).mono ?_
  rintro e w4 ⟨rfl, rfl⟩
  go_wp2_with fail
  have hmg := lmerge_p H3.out.both.l H3.out.both.i
  unfold dropN at hmg
  by_cases h1 : fs.length ≤ 1
  · simp only [if_pos h1] at hmg
    have HM := Lib.hid hmg
    have hd : ((fs.length : Int) - 1 == 0) = true := by
      obtain ⟨xs, hx, _, _, _, hl, _⟩ := H3.out.both.l
      rw [← hx, List.length_map] at h1 ⊢
      simp; omega
    clear hmg h1
    refine HM.out.mono ?_
    rintro e w5 ⟨rfl, o5, m5⟩
    have P5 := Lib.hid (pairs_only P1.out o5 hbw2)
    have L5 := Lib.hid (H3.out.lo.trans (o5.below H3.out.lo.size fun k hk e => by omega))
    have M5 := Lib.hid m5
    have HI := Lib.hid H3.out.both.i
    clear o5 m5 HM H3 P1
    go_wp2_with fail
    refine (lall_p M5.out).mono ?_
    rw [getL_merge HI.out]
    rintro e w6 ⟨v2, rfl, p6, l6⟩
    have P6 := Lib.hid p6; have P56 := Lib.hid (pairs_grow P5.out l6)
    have L6 := Lib.hid (btrans L5.out (Nat.le_refl _) l6)
    clear p6 l6 P5 L5
    go_wp2_with fail
    refine (same_any P6.out P56.out (by have := allK_len (getL fs) 12; omega)).mono ?_
    rintro e w7 ⟨rfl, l7⟩
    have L7 := Lib.hid (btrans L6.out (Nat.le_refl _) l7)
    clear l7
    go_wp2_with fail
    go_ret
    exact ⟨rfl, L7.out⟩
  · simp only [if_neg h1] at hmg
    have HM := Lib.hid hmg
    have hd : ((fs.length : Int) - 1 == 0) = false := by simp; omega
    have hl5 : fs.length ≤ 5 := by
      obtain ⟨xs, hx, _, _, _, _, hl⟩ := H3.out.both.l
      rw [← hx, List.length_map]; exact hl
    have hw : IntKind.i64.wrap ((fs.length : Int) - 1 - 1) = (fs.length : Int) - 1 - 1 := by rw [IntKind.wrap_i64]; omega
    have hml := mergeS_len fs h1
    have HML := Lib.hid hml
    clear hmg h1 hml
    refine HM.out.mono ?_
    rintro e w5 ⟨rfl, o5, m5⟩
    have P5 := Lib.hid (pairs_only P1.out o5 hbw2)
    have L5 := Lib.hid (H3.out.lo.trans (o5.below H3.out.lo.size fun k hk e => by omega))
    have M5 := Lib.hid m5
    have HI := Lib.hid H3.out.both.i
    clear o5 m5 HM H3 P1
    go_wp2_with fail
    refine (ldepth_p M5.out).mono ?_
    rintro e w6 ⟨rfl, rfl⟩
    rw [HML.out]
    go_wp2_with fail
    refine (lall_p M5.out).mono ?_
    rw [getL_merge HI.out]
    rintro e w6 ⟨v2, rfl, p6, l6⟩
    have P6 := Lib.hid p6; have P56 := Lib.hid (pairs_grow P5.out l6)
    have L6 := Lib.hid (btrans L5.out (Nat.le_refl _) l6)
    clear p6 l6 P5 L5
    go_wp2_with fail
    refine (same_any P6.out P56.out (by have := allK_len (getL fs) 12; omega)).mono ?_
    rintro e w7 ⟨rfl, l7⟩
    have L7 := Lib.hid (btrans L6.out (Nat.le_refl _) l7)
    clear l7
    go_wp2_with fail
    go_ret
    exact ⟨rfl, L7.out⟩

/-! ### forks -/
/-- two pairs of logs -/
structure Pairs (w w' : World) (b rb fb gb : Nat) (fs gs : List Frm) : Prop where
  one : Playing w w' b rb fs
  two : Both w' fb gb gs
  fl : w.heap.size ≤ fb
  gl : w.heap.size ≤ gb
  n1 : b ≠ fb
  n2 : b ≠ gb
  n3 : rb ≠ fb
  n4 : rb ≠ gb
theorem Pairs.step {w w1 w2 : World} {b rb fb gb : Nat} {fs gs gs' : List Frm} (h : Pairs w w1 b rb fb gb fs gs) (hB : Both w2 fb gb gs') (ho : Only (fun j => j = fb ∨ j = gb) w1 w2) : Pairs w w2 b rb fb gb fs gs' := by
  have n1 := h.n1; have n2 := h.n2; have n3 := h.n3; have n4 := h.n4
  have f := h.fl; have g := h.gl
  exact ⟨⟨h.one.both.strange ho h.two.odd (by simp; exact ⟨n1, n2⟩) (by simp; exact ⟨n3, n4⟩), h.one.lo.trans (ho.below h.one.lo.size fun k hk e => by rcases e with e | e <;> omega), h.one.bl, h.one.rl⟩, hB, f, g, n1, n2, n3, n4⟩
theorem Pairs.below {w w1 w2 : World} {b rb fb gb : Nat} {fs gs : List Frm} (h : Pairs w w1 b rb fb gb fs gs) (l : Below w1.heap.size w1 w2) : Pairs w w2 b rb fb gb fs gs :=
  ⟨h.one.below l, h.two.below l, h.fl, h.gl, h.n1, h.n2, h.n3, h.n4⟩
set_option maxHeartbeats 1600000 in
theorem forks_law {H : Type} (enc : TypeId × Value → H) (w : World) (a : Option Addr) (len cap : Nat) (h : Fits enc Try.prog w 22 [.slice a len cap]) (a' : Option Addr) (len' cap' : Nat) (h' : Fits enc Try.prog w 22 [.slice a' len' cap']) :
    Calls Try.prog 7 #[.slice a len cap, .slice a' len' cap'] w fun e w' => e = .returned (.bool true) ∧ Below w.heap.size w w' := by
  have HD := Lib.hid (deeds_of h)
  obtain ⟨hm, hd⟩ := deeds_of h'
  have HD2 := Lib.hid hd
  clear h h' hd
  go_enter Try.func7, Try.ntmps7
  go_wp2_with fail; refine (play_any w a len cap HD.out).mono ?_; rintro e w1 ⟨b, rb, fs, rfl, hP⟩; have H1 := Lib.hid hP; clear hP HD; go_wp2_with fail; refine (live_any _).mono ?_; rintro e w2 ⟨rfl, l2⟩; have H2 := Lib.hid (H1.out.below l2); clear l2 H1; go_wp2_with fail
  obtain ⟨xs, hx, hL⟩ := H2.out.both.l
  have HX := Lib.hid hx
  have hbw := H2.out.both.blt; have hrw := H2.out.both.r.lt
  refine (fork_any w2 b xs hL).mono ?_
  rintro e w3 ⟨rfl, h3, l3⟩
  have H3 := Lib.hid (H2.out.below l3); have F3 := Lib.hid h3
  have hsz := l3.size
  have hf3 := h3.lt
  have hw2 := H2.out.lo.size
  clear h3 l3 hL H2 hx
  go_wp2_with fail
  refine (rfork_any w3 rb _ H3.out.both.r).mono ?_
  rintro e w4 ⟨gb, rfl, hgb, h4, l4⟩
  have HP := Lib.hid (show Pairs w w4 b rb w2.heap.size gb fs fs from ⟨H3.out.below l4, ⟨⟨xs, HX.out, F3.out.below l4⟩, h4, H3.out.both.i⟩, by omega, by omega, by omega, by omega, by omega, by omega⟩)
  clear h4 l4 F3 H3 HX
  generalize w2.heap.size = fb at *
  clear hbw hrw hsz hf3 hw2 hgb
  go_wp2_with fail
  go_loopw [10] (fun i wr => ∃ (q : Nat) (gs : List Frm), i = .int .i64 q ∧ q ≤ len' ∧ q ≤ 14 ∧ Pairs w wr b rb fb gb fs gs) (fun i _ => len' - (intOf i).toNat)
  case atStart => exact ⟨0, _, rfl, Nat.zero_le _, Nat.zero_le _, HP.out⟩
  case round =>
    obtain ⟨q, gs, rfl, hq, hq6, hP⟩ := hrel
    have H := Lib.hid hP; clear hP HP
    by_cases hlt : q < len' ∧ q < 14
    · obtain ⟨hlt, h14⟩ := hlt
      obtain ⟨db, off, rfl, hc⟩ := HD2.out.resolve_left (by omega)
      obtain ⟨kd, th, v, ⟨c0, c1, c2⟩, hv⟩ := hc q hlt
      replace c0 := bkeep H.out.one.lo c0; replace c1 := bkeep H.out.one.lo c1; replace c2 := bkeep H.out.one.lo c2
      have HV := Lib.hid hv
      clear hc hv
      go_wp2_with fail
      refine (do_any _ fb gb gs H.out.two kd th v HV.out).mono ?_
      rintro e w5 ⟨rfl, ⟨gs', hB⟩, ho⟩
      have H5 := Lib.hid (H.out.step hB ho)
      clear hB ho c0 c1 c2
      go_wp2_with fail
      exact ⟨⟨q + 1, gs', by go_num, by omega, by omega, H5.out⟩, by simp [intOf]; omega⟩
    · by_cases hlt2 : q < len'
      · have h14 : ¬ ((q : Int) < 14) := by omega
        clear hlt
        go_wp2_with fail
        refine (both_same H.out.one.both).mono ?_; rintro e w5 ⟨rfl, l5⟩; have H5 := Lib.hid (H.out.below l5); clear l5 H; go_wp2_with fail; refine (both_same H5.out.two).mono ?_; rintro e w6 ⟨rfl, l6⟩; have H6 := Lib.hid (H5.out.below l6); clear l6 H5; go_wp2_with fail; go_ret; exact ⟨by simp, H6.out.one.lo⟩
      · clear hlt
        go_wp2_with fail
        refine (both_same H.out.one.both).mono ?_; rintro e w5 ⟨rfl, l5⟩; have H5 := Lib.hid (H.out.below l5); clear l5 H; go_wp2_with fail; refine (both_same H5.out.two).mono ?_; rintro e w6 ⟨rfl, l6⟩; have H6 := Lib.hid (H5.out.below l6); clear l6 H5; go_wp2_with fail; go_ret; exact ⟨by simp, H6.out.one.lo⟩
end Go.Proofs.Ytmhlemgchlencaa.Wri
