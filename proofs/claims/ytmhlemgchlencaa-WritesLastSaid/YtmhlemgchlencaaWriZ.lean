/- play, Same, same. -/
import Derived.Test.YtmhlemgchlencaaWriY
import Derived.Test.YtmhlemgchlencaaWriO
import Derived.Laws.StructEq
namespace Go.Proofs.Ytmhlemgchlencaa.Wri
open Go.RowKit
set_option linter.unusedSimpArgs false
set_option linter.unusedVariables false

def Deeds (w : World) (a : Option Addr) (len : Nat) : Prop :=
  len ≤ 9223372036854775807 ∧ (len = 0 ∨ ∃ b off, a = some ⟨b, off, none⟩ ∧ ∀ i, i < len → ∃ kd th v : Int, (w.cell? ⟨b, off + i * 3, none⟩ = some (.int .i64 kd) ∧ w.cell? ⟨b, off + i * 3 + 1, none⟩ = some (.int .i64 th) ∧ w.cell? ⟨b, off + i * 3 + 2, none⟩ = some (.int .u64 v)) ∧ 0 ≤ v ∧ v < 18446744073709551616)
theorem deeds_of {H : Type} {enc : TypeId × Value → H} {w : World} {a : Option Addr} {len cap : Nat} (h : Fits enc Try.prog w 22 [.slice a len cap]) : Deeds w a len := by
  obtain ⟨hm, hh⟩ := h.slice Try.underlying22 (by rw [cells_deed]; decide)
  refine ⟨hm, ?_⟩
  rcases hh with hh | ⟨b, off, rfl, hh⟩
  · exact .inl hh
  refine .inr ⟨b, off, rfl, fun i hi => ?_⟩
  obtain ⟨cs, hl, hc, hf⟩ := hh i hi
  obtain ⟨kd, th, v, rfl, hv⟩ := deed_of hf
  rw [cells_deed] at hc
  exact ⟨kd, th, v, ⟨hc 0 (by decide), hc 1 (by decide), hc 2 (by decide)⟩, hv⟩
/-- what play leaves -/
structure Playing (w w' : World) (b rb : Nat) (fs : List Frm) : Prop where
  both : Both w' b rb fs
  lo : Below w.heap.size w w'
  bl : w.heap.size ≤ b
  rl : w.heap.size ≤ rb
theorem Playing.step {w w1 w2 : World} {b rb : Nat} {fs fs' : List Frm} (h : Playing w w1 b rb fs) (hB : Both w2 b rb fs') (ho : Only (fun j => j = b ∨ j = rb) w1 w2) : Playing w w2 b rb fs' := by
  have hb := h.bl; have hr := h.rl
  exact ⟨hB, h.lo.trans (ho.below h.lo.size fun k hk e => by rcases e with e | e <;> omega), hb, hr⟩
theorem Playing.below {w w1 w2 : World} {b rb : Nat} {fs : List Frm} (h : Playing w w1 b rb fs) (l : Below w1.heap.size w1 w2) : Playing w w2 b rb fs :=
  ⟨h.both.below l, btrans h.lo (Nat.le_refl _) l, h.bl, h.rl⟩
def PlayPost (w : World) (e : Ending) (w' : World) : Prop := ∃ b rb fs, e = .returned (.tuple #[ptr b, ptr rb, .bool true]) ∧ Playing w w' b rb fs
theorem wellS_new : WellS [[]] := ⟨fun f hf => by rw [List.mem_singleton] at hf; subst hf; exact GoodF.nil, by decide⟩
set_option maxHeartbeats 1600000 in
theorem play_any (w : World) (a : Option Addr) (len cap : Nat) (h : Deeds w a len) : Calls Try.prog 9 #[.slice a len cap] w (PlayPost w) := by
  obtain ⟨hm, hd⟩ := h
  have HD := Lib.hid hd; clear hd
  unfold PlayPost
  go_enter Try.func9, Try.ntmps9
  go_wp2_with fail
  refine (new_any w).mono ?_
  rintro e w1 ⟨b, rfl, hbw, h1, l1⟩
  have H1 := Lib.hid h1; have L1 := Lib.hid l1; clear h1 l1
  go_wp2_with fail
  refine (rnew_any _).mono ?_
  rintro e w2 ⟨rb, rfl, hrw, h2, l2⟩
  have HP := Lib.hid (show Playing w w2 b rb [[]] from ⟨⟨⟨_, rfl, H1.out.below l2⟩, h2, wellS_new⟩, btrans L1.out (Nat.le_refl _) l2, hbw, Nat.le_trans L1.out.size hrw⟩)
  clear h2 l2 H1 L1 hbw hrw
  go_wp2_with fail
  go_loopw [7] (fun i wr => ∃ (q : Nat) (fs : List Frm), i = .int .i64 q ∧ q ≤ len ∧ q ≤ 60 ∧ Playing w wr b rb fs) (fun i _ => len - (intOf i).toNat)
  case atStart => exact ⟨0, _, rfl, Nat.zero_le _, Nat.zero_le _, HP.out⟩
  case round =>
    obtain ⟨q, fs, rfl, hq, hq6, hP⟩ := hrel
    have H := Lib.hid hP; clear hP HP
    by_cases hlt : q < len
    · by_cases h60 : q < 60
      · obtain ⟨db, off, rfl, hc⟩ := HD.out.resolve_left (by omega)
        obtain ⟨kd, th, v, ⟨c0, c1, c2⟩, hv⟩ := hc q hlt
        replace c0 := bkeep H.out.lo c0; replace c1 := bkeep H.out.lo c1; replace c2 := bkeep H.out.lo c2
        have HV := Lib.hid hv
        clear hc hv
        go_wp2_with fail
        refine (do_any _ b rb fs H.out.both kd th v HV.out).mono ?_
        rintro e w3 ⟨rfl, ⟨s', hB⟩, ho⟩
        have H3 := Lib.hid (H.out.step hB ho)
        clear hB ho c0 c1 c2
        go_wp2_with fail
        exact ⟨⟨q + 1, s', by go_num, by omega, by omega, H3.out⟩, by simp [intOf]; omega⟩
      · have h60' : ¬ ((q : Int) < 60) := by omega
        go_wp2_with fail
        go_ret3
        exact ⟨b, rb, rfl, fs, H.out⟩
    · go_wp2_with fail
      go_ret3
      exact ⟨b, rb, fs, rfl, H.out⟩
/-! ### Same, same -/
theorem pairs_cell {B : Nat} {w : World} {g cap n : Nat} {f : Frm} (h : w.ownsRow B 26 2 (.slice (some ⟨g, 0, none⟩) n cap) n (pairVals f)) {i : Nat} {p : Int × Int} (hi : f[i]? = some p) :
    w.cell? ⟨g, i * 2, none⟩ = some (.int .i64 p.1) ∧ w.cell? ⟨g, i * 2 + 1, none⟩ = some (.int .u64 p.2) := by
  obtain ⟨h0, h1⟩ := pairVals_get f i p hi
  have hc := h.cells (g := g) rfl
  have e0 := hc _ _ h0
  have e1 := hc _ _ h1
  rw [Addr.add_lit, Nat.zero_add] at e0 e1
  exact ⟨e0, e1⟩
theorem same_any {w : World} {v v' : Value} {b0 b0' n : Nat} {f : Frm} (h : w.ownsRow b0 26 2 v n (pairVals f)) (h' : w.ownsRow b0' 26 2 v' n (pairVals f)) (hn : n ≤ 1000) :
    Calls Try.prog 14 #[v, v'] w fun e w' => e = .returned (.bool true) ∧ Below w.heap.size w w' := by
  have hl : f.length = n := by have := h.1; rw [pairVals_length] at this; omega
  rcases h.2 with ⟨rfl, rfl⟩ | ⟨g, cap, cur, rfl, _⟩
  · rcases h'.2 with ⟨rfl, _⟩ | ⟨g', cap', cur', rfl, _⟩
    all_goals
      clear h h' hl
      go_enter Try.func14, Try.ntmps14
      go_wp2_with fail
      go_loopw [5] (fun i wr => i = .int .i64 0 ∧ wr = w) (fun _ _ => 0)
      case atStart => exact ⟨rfl, rfl⟩
      case round =>
        obtain ⟨rfl, rfl⟩ := hrel
        go_wp2_with fail
        go_ret
        exact ⟨rfl, Below.refl _ _⟩
  · rcases h'.2 with ⟨rfl, rfl⟩ | ⟨g', cap', cur', rfl, _⟩
    · clear h h' hl
      go_enter Try.func14, Try.ntmps14
      go_wp2_with fail
      go_loopw [5] (fun i wr => i = .int .i64 0 ∧ wr = w) (fun _ _ => 0)
      case atStart => exact ⟨rfl, rfl⟩
      case round =>
        obtain ⟨rfl, rfl⟩ := hrel
        go_wp2_with fail
        go_ret
        exact ⟨rfl, Below.refl _ _⟩
    · have hc : ∀ i, i < n → ∃ p : Int × Int, (w.cell? ⟨g, i * 2, none⟩ = some (.int .i64 p.1) ∧ w.cell? ⟨g, i * 2 + 1, none⟩ = some (.int .u64 p.2)) ∧ (w.cell? ⟨g', i * 2, none⟩ = some (.int .i64 p.1) ∧ w.cell? ⟨g', i * 2 + 1, none⟩ = some (.int .u64 p.2)) := by
        intro i hi
        have hp : f[i]? = some (f[i]'(by omega)) := List.getElem?_eq_getElem _
        exact ⟨_, pairs_cell h hp, pairs_cell h' hp⟩
      have HC := Lib.hid hc
      clear h h' hl hc
      go_enter Try.func14, Try.ntmps14
      go_wp2_with fail
      go_loopw [5] (fun i wr => ∃ k : Nat, i = .int .i64 k ∧ k ≤ n ∧ Below w.heap.size w wr) (fun i _ => n - (intOf i).toNat)
      case atStart => exact ⟨0, rfl, Nat.zero_le _, Below.refl _ _⟩
      case round =>
        obtain ⟨k, rfl, hk, hL⟩ := hrel
        have HL := Lib.hid hL; clear hL
        by_cases hlt : k < n
        · obtain ⟨⟨pt, pv⟩, ⟨c0, c1⟩, e0, e1⟩ := HC.out k hlt
          replace c0 := bkeep HL.out c0; replace c1 := bkeep HL.out c1
          replace e0 := bkeep HL.out e0; replace e1 := bkeep HL.out e1
          simp only at c0 c1 e0 e1
          go_wp2_with fail
          go_quiet (fail)
          go_wp2_with fail
          exact ⟨⟨k + 1, by go_num, by omega, below_drewN HL.out _⟩, by simp [intOf]; omega⟩
        · go_wp2_with fail
          go_ret
          exact ⟨rfl, HL.out⟩
theorem lget_p {w : World} {b : Nat} {fs : List Frm} (h : LAt w b fs) (t : Int) : Calls Try.prog 15 #[ptr b, .int .i64 t] w fun e w' => e = .returned (.tuple #[.int .u64 ((getL fs t).getD 0), .bool (getL fs t).isSome]) ∧ Below w.heap.size w w' := by
  obtain ⟨xs, rfl, h⟩ := h
  rw [← getS_eq]
  exact lget_any w b xs h t
theorem rget_p {w : World} {b : Nat} {fs : List Frm} (h : RAt w b fs) (hi : WellS fs) (t : Int) : Calls Try.prog 32 #[ptr b, .int .i64 t] w fun e w' => e = .returned (.tuple #[.int .u64 ((getL fs t).getD 0), .bool (getL fs t).isSome]) ∧ w = w' := by
  have := rget_any w b _ h t
  rw [List.reverse_reverse] at this
  have e : (if okT t then getL fs t else none) = getL fs t := by
    split
    · rfl
    · rename_i ht; rw [getL_out hi.good ht]
  rw [e] at this
  exact this
theorem lall_p {w : World} {b : Nat} {fs : List Frm} (h : LAt w b fs) : Calls Try.prog 11 #[ptr b] w (AllPost w (getL fs)) := by
  obtain ⟨xs, rfl, h⟩ := h
  rw [show getL (xs.map (·.2)) = getS xs from funext fun t => (getS_eq xs t).symm]
  exact all_any w b xs h
theorem rall_p {w : World} {b : Nat} {fs : List Frm} (h : RAt w b fs) : Calls Try.prog 33 #[ptr b] w (AllPost w (getL fs)) := by
  have := rall_any w b _ h
  rwa [List.reverse_reverse] at this
theorem ldepth_p {w : World} {b : Nat} {fs : List Frm} (h : LAt w b fs) : Calls Try.prog 18 #[ptr b] w fun e w' => e = .returned (.int .i64 ((fs.length : Int) - 1)) ∧ w = w' := by
  obtain ⟨xs, rfl, h⟩ := h
  rw [List.length_map]
  exact depth_any w b xs h
theorem rdepth_p {w : World} {b : Nat} {fs : List Frm} (h : RAt w b fs) : Calls Try.prog 34 #[ptr b] w fun e w' => e = .returned (.int .i64 ((fs.length : Int) - 1)) ∧ w = w' := by
  have := rdepth_any w b _ h
  rwa [List.length_reverse] at this
theorem llen_p {w : World} {b : Nat} {fs : List Frm} (h : LAt w b fs) : Calls Try.prog 12 #[ptr b] w fun e w' => e = .returned (.int .i64 (lenF fs : Nat)) ∧ Below w.heap.size w w' := by
  obtain ⟨xs, rfl, h⟩ := h
  rw [← lenAll_eq]
  exact len_any w b xs h
theorem rlen_p {w : World} {b : Nat} {fs : List Frm} (h : RAt w b fs) (hi : WellS fs) : Calls Try.prog 35 #[ptr b] w fun e w' => e = .returned (.int .i64 (lenF fs : Nat)) ∧ w = w' := by
  have := rlen_any w b _ h
  rwa [cntG_rev fs hi.good] at this
set_option maxHeartbeats 1600000 in
theorem both_same {w : World} {b rb : Nat} {fs : List Frm} (h : Both w b rb fs) : Calls Try.prog 16 #[ptr b, ptr rb] w fun e w' => e = .returned (.bool true) ∧ Below w.heap.size w w' := by
  have HB := Lib.hid h; clear h
  go_enter Try.func16, Try.ntmps16
  go_wp2_with fail
  go_loopw [5] (fun i wr => ∃ k : Nat, i = .int .i64 ((k : Int) - 1) ∧ k ≤ 14 ∧ Below w.heap.size w wr) (fun i _ => (13 - intOf i).toNat)
  case atStart => exact ⟨0, rfl, Nat.zero_le _, Below.refl _ _⟩
  case round =>
    obtain ⟨k, rfl, hk, hL⟩ := hrel
    have HL := Lib.hid hL; clear hL
    have HW := Lib.hid (HB.out.below HL.out)
    by_cases hlt : k < 14
    · have hle : ((k : Int) - 1 ≤ 12) := by omega
      have hw : IntKind.i64.wrap ((k : Int) - 1 + 1) = (k : Int) := by rw [IntKind.wrap_i64]; omega
      go_wp2_with fail
      refine (lget_p HW.out.l _).mono ?_
      rintro e w1 ⟨rfl, l1⟩
      have HW1 := Lib.hid (HW.out.below l1); have HL1 := Lib.hid (btrans HL.out (Nat.le_refl _) l1)
      clear l1 HW HL
      go_wp2_with fail
      refine (rget_p HW1.out.r HW1.out.i _).mono ?_
      rintro e w2 ⟨rfl, rfl⟩
      generalize getL fs ((k : Int) - 1) = g
      cases g
      all_goals
        simp only [Option.getD_none, Option.isSome_none, Option.getD_some, Option.isSome_some]
        go_wp2_with fail
        refine ⟨⟨k + 1, ?_, by omega, HL1.out⟩, ?_⟩
        · simp [hw]
        · simp only [intOf, hw]; omega
    · have hle : ¬ ((k : Int) - 1 ≤ 12) := by omega
      go_wp2_with fail
      refine (lall_p HW.out.l).mono ?_
      rintro e w1 ⟨v1, rfl, p1, l1⟩
      have HW1 := Lib.hid (HW.out.below l1); have HL1 := Lib.hid (btrans HL.out (Nat.le_refl _) l1); have P1 := Lib.hid p1
      clear l1 p1 HW HL
      go_wp2_with fail
      refine (rall_p HW1.out.r).mono ?_
      rintro e w2 ⟨v2, rfl, p2, l2⟩
      have HW2 := Lib.hid (HW1.out.below l2); have HL2 := Lib.hid (btrans HL1.out (Nat.le_refl _) l2); have P2 := Lib.hid p2; have P12 := Lib.hid (pairs_grow P1.out l2)
      clear l2 p2 HW1 HL1 P1
      go_wp2_with fail
      refine (same_any P12.out P2.out (by have := allK_len (getL fs) 12; omega)).mono ?_
      rintro e w3 ⟨rfl, l3⟩
      have HW3 := Lib.hid (HW2.out.below l3); have HL3 := Lib.hid (btrans HL2.out (Nat.le_refl _) l3)
      clear l3 HW2 HL2 P12 P2
      go_wp2_with fail
      refine (ldepth_p HW3.out.l).mono ?_
      rintro e w4 ⟨rfl, rfl⟩
      go_wp2_with fail
      refine (rdepth_p HW3.out.r).mono ?_
      rintro e w4 ⟨rfl, rfl⟩
      go_wp2_with fail
      refine (llen_p HW3.out.l).mono ?_
      rintro e w4 ⟨rfl, l4⟩
      have HW4 := Lib.hid (HW3.out.below l4); have HL4 := Lib.hid (btrans HL3.out (Nat.le_refl _) l4)
      clear l4 HW3 HL3
      go_wp2_with fail
      refine (rlen_p HW4.out.r HW4.out.i).mono ?_
      rintro e w5 ⟨rfl, rfl⟩
      go_wp2_with fail
      go_ret
      exact ⟨by simp, HL4.out⟩
end Go.Proofs.Ytmhlemgchlencaa.Wri
