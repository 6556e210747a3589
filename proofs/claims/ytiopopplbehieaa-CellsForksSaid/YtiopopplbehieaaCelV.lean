/- The statement on forks of cells. -/
import Derived.Test.YtiopopplbehieaaCelK
import Derived.Test.YtiopopplbehieaaCelW
namespace Go.Proofs.Ytiopopplbehieaa.Cel
open Go.RowKit
set_option linter.unusedSimpArgs false
set_option linter.unusedVariables false

set_option maxHeartbeats 2000000 in
theorem forks {H : Type} (enc : TypeId × Value → H) (w : World) (n : Int) (hn : (Lit.int .u8 n).wf = true) (a : Option Addr) (len cap : Nat) (h : Fits enc Try.prog w 22 [.slice a len cap])
    (a2 : Option Addr) (len2 cap2 : Nat) (h2 : Fits enc Try.prog w 22 [.slice a2 len2 cap2]) :
    Calls Try.prog 5 #[.int .u8 n, .slice a len cap, .slice a2 len2 cap2] w fun e w' => e = .returned (.bool true) ∧ Below w.heap.size w w' := by
  have HD := Lib.hid (ops_of h)
  have hd2 := ops_of h2
  have hm2 : len2 ≤ 9223372036854775807 := hd2.1
  have HD2 := Lib.hid hd2.2
  have hb := bounds_u8 hn
  clear h hn h2 hd2
  go_enter Try.func5, Try.ntmps5
  go_wp2_with fail
  refine (play_any w a len cap HD.out n hb).mono ?_
  rintro e w1 ⟨c, r, F0, G0, s0, k0, hk0, rfl, hP⟩
  have hmm : (n % 5).toNat + 1 ≤ 5 := by omega
  have hmp : 1 ≤ (n % 5).toNat + 1 := by omega
  generalize (n % 5).toNat + 1 = m at *
  have H1 := Lib.hid hP; clear hP HD
  go_wp2_with fail
  refine (live_any w1).mono ?_
  rintro e w2 ⟨rfl, o2⟩
  have H2 := Lib.hid (H1.out.below o2); clear o2 H1
  have hI0 := Lib.hid (H2.out.p.facts (by omega) (by omega))
  go_wp2_with fail
  refine (fork_any w2 c s0 hI0.out.1 H2.out.b.c).mono ?_
  rintro e w3 ⟨f, rfl, hf, l3⟩
  have HF := Lib.hid hf; have L3 := Lib.hid l3; have H3 := Lib.hid (H2.out.below l3)
  clear hf l3
  go_wp2_with fail
  refine (rfork_any w3 r s0 hI0.out.1 (by have := hI0.out.2.1; omega) H3.out.b.r).mono ?_
  rintro e w4 ⟨g, rfl, hg, l4⟩
  have HP := Lib.hid (H2.out.fork HF.out L3.out hg l4)
  have HB := Lib.hid H2.out
  clear hg l4 HF L3 H3 hI0 H2
  go_wp2_with fail
  go_loopw [12] (fun i wr => ∃ (k : Nat) (F G : Nat → Prop) (s : CSt), i = .int .i64 k ∧ k ≤ len2 ∧ k ≤ 14 ∧ Pair w2 wr m (k0 + k) f g F G s) (fun i _ => len2 - (intOf i).toNat)
  case atStart => exact ⟨0, _, _, _, rfl, Nat.zero_le _, Nat.zero_le _, HP.out⟩
  case round =>
    obtain ⟨k, F, G, s, rfl, hk, hk6, hP⟩ := hrel
    have H := Lib.hid hP; clear hP HP
    have BB := Lib.hid (HB.out.b.below H.out.lo)
    have LL := Lib.hid (HB.out.lo.trans (H.out.lo.mono HB.out.lo.size))
    by_cases hlt : k < len2
    · by_cases h60 : k < 14
      · obtain ⟨b, off, rfl, hc⟩ : ∃ b off, a2 = some ⟨b, off, none⟩ ∧ ∀ i, i < len2 → ∃ o : OpV, o.Fit ∧ w.cell? ⟨b, off + i * 4, none⟩ = some (.int .u8 o.k) ∧ w.cell? ⟨b, off + i * 4 + 1, none⟩ = some (.int .i64 o.c) ∧ w.cell? ⟨b, off + i * 4 + 2, none⟩ = some (.int .u64 o.a) ∧ w.cell? ⟨b, off + i * 4 + 3, none⟩ = some (.int .u64 o.b) :=
          HD2.out.resolve_left (by omega)
        obtain ⟨o, ho, c0, c1, c2, c3⟩ := hc k hlt
        have HO := Lib.hid ho
        have hbw : b < w.heap.size := World.block_lt_of_cell? w _ c0
        have hnF : ¬ F b := fun h => by have := H.out.f _ h; have := HB.out.lo.size; omega
        have hnG : ¬ G b := fun h => by have := H.out.g _ h; have := HB.out.lo.size; omega
        replace c0 := bkeep LL.out c0; replace c1 := bkeep LL.out c1; replace c2 := bkeep LL.out c2; replace c3 := bkeep LL.out c3
        clear hc ho
        have hI := Lib.hid (H.out.p.facts (by omega) (by omega))
        obtain ⟨ee, he⟩ : ∃ ee, s.doE o = ee := ⟨_, rfl⟩
        obtain ⟨d, hd⟩ : ∃ d, s.doD o = d := ⟨_, rfl⟩
        have HE := Lib.hid he; have HDD := Lib.hid hd; clear he hd
        go_wp2_with fail
        refine (do_to hI.out.1 (by have := hI.out.2.2; omega) H.out.b.c o HO.out HE.out HDD.out rfl).mono ?_
        rintro e w3 ⟨rfl, h3, o3⟩
        have hbl := blk_new w3 (.cells #[.int .u8 d.o.k, .int .i64 d.o.c, .int .u64 d.o.a, .int .u64 d.o.b, .int .u64 d.w, .bool d.ok] 37)
        have lb : Below w3.heap.size w3 (w3.alloc (.cells #[.int .u8 d.o.k, .int .i64 d.o.c, .int .u64 d.o.a, .int .u64 d.o.b, .int .u64 d.w, .bool d.ok] 37)) := by repeat (first | (with_reducible exact Below.refl _ _) | (with_reducible apply Below.drew) | (with_reducible refine below_drewN ?_ _) | (with_reducible refine below_alloc' ?_ ?_ _; (focus ((try simp) <;> omega))) | (with_reducible refine below_set' ?_ ?_ _; (focus ((try simp) <;> omega))))
        have hbl2 : w3.heap.size < (w3.alloc (.cells #[.int .u8 d.o.k, .int .i64 d.o.c, .int .u64 d.o.a, .int .u64 d.o.b, .int .u64 d.w, .bool d.ok] 37)).heap.size := by simp
        have s3 := o3.size
        have R3 := Lib.hid ((H.out.b.r.keep o3 H.out.b.ap.symm).below lb)
        replace c0 := bkeep lb (o3.cell c0 hnF); replace c1 := bkeep lb (o3.cell c1 hnF); replace c2 := bkeep lb (o3.cell c2 hnF); replace c3 := bkeep lb (o3.cell c3 hnF)
        have H3 := Lib.hid h3; have O3 := Lib.hid o3; have LB := Lib.hid lb; have HBL := Lib.hid hbl
        clear h3 o3 lb hbl
        go_wp2_with fail
        generalize w3.alloc (.cells #[.int .u8 d.o.k, .int .i64 d.o.c, .int .u64 d.o.a, .int .u64 d.o.b, .int .u64 d.w, .bool d.ok] 37) = w4 at *
        refine (rdo_to hI.out.1 (by have := hI.out.2.2; omega) R3.out o HO.out HE.out HDD.out rfl).mono ?_
        rintro e w5 ⟨rfl, h5, o5⟩
        have hP5 := H.out.step (by omega) (by omega) o HO.out H3.out O3.out LB.out h5 o5
        have hb5 := o5.blk HBL.out (fun h => by have := H.out.b.r.within _ h; omega)
        clear R3 h5 o5 H3 O3 LB HBL
        have x0 := blk_cell hb5 0; have x1 := blk_cell hb5 1; have x2 := blk_cell hb5 2; have x3 := blk_cell hb5 3; have x4 := blk_cell hb5 4; have x5 := blk_cell hb5 5
        simp only [List.getElem?_toArray, List.getElem?_cons_zero, List.getElem?_cons_succ] at x0 x1 x2 x3 x4 x5
        have hlt5 := blk_lt hb5
        have hne5 : w3.heap.size ≠ w5.heap.size := by omega
        have hP := Lib.hid hP5
        clear hP5 hb5 c0 c1 c2 c3 H BB LL
        go_wp2_with fail
        exact ⟨⟨k + 1, _, _, _, by go_num, by omega, by omega, by rw [show k0 + (k + 1) = k0 + k + 1 by omega]; exact hP.out.below (by repeat (first | (with_reducible exact Below.refl _ _) | (with_reducible apply Below.drew) | (with_reducible refine below_drewN ?_ _) | (with_reducible refine below_alloc' ?_ ?_ _; (focus ((try simp) <;> omega))) | (with_reducible refine below_set' ?_ ?_ _; (focus ((try simp) <;> omega)))))⟩, by simp [intOf]; omega⟩
      · have h60' : ¬ ((k : Int) < 14) := by omega
        go_wp2_with fail
        refine (same_any wr c r s0 BB.out).mono ?_
        rintro e w5 ⟨rfl, l5⟩
        have L5 := Lib.hid (btrans LL.out (Nat.le_refl _) l5); have H5 := Lib.hid (H.out.below l5)
        clear l5
        go_wp2_with fail
        refine (same_any w5 f g s H5.out.b).mono ?_
        rintro e w6 ⟨rfl, l6⟩
        have L6 := Lib.hid (btrans L5.out (Nat.le_refl _) l6)
        clear l6
        go_wp2_with fail
        go_ret
        exact ⟨rfl, L6.out⟩
    · go_wp2_with fail
      refine (same_any wr c r s0 BB.out).mono ?_
      rintro e w5 ⟨rfl, l5⟩
      have L5 := Lib.hid (btrans LL.out (Nat.le_refl _) l5); have H5 := Lib.hid (H.out.below l5)
      clear l5
      go_wp2_with fail
      refine (same_any w5 f g s H5.out.b).mono ?_
      rintro e w6 ⟨rfl, l6⟩
      have L6 := Lib.hid (btrans L5.out (Nat.le_refl _) l6)
      clear l6
      go_wp2_with fail
      go_ret
      exact ⟨rfl, L6.out⟩
end Go.Proofs.Ytiopopplbehieaa.Cel
