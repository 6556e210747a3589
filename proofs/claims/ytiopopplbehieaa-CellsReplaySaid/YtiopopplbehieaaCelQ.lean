/- 'play' of the statements on cells. -/
import Derived.Test.YtiopopplbehieaaCelP
namespace Go.Proofs.Ytiopopplbehieaa.Cel
open Go.RowKit
set_option linter.unusedSimpArgs false
set_option linter.unusedVariables false

theorem Pair.step {w0 w wa w1 w2 : World} {n k c r : Nat} {F G : Nat → Prop} {s : CSt} (h : Pair w0 w n k c r F G s) (hn : n ≤ 1000) (hk : k < 900) (o : OpV) (ho : o.Fit)
    (hc : CellsAt 66 wa c (Grow F w wa) (s.doS o)) (oc : Only F w wa) (hb : Below wa.heap.size wa w1) (hr : CellsAt 71 w2 r (Grow G w1 w2) (s.doS o)) (or' : Only G w1 w2) :
    Pair w0 w2 n (k + 1) c r (Grow F w wa) (Grow G w1 w2) (s.doS o) := by
  have hG : Within G w := h.b.r.within
  have a1 : Apart (Grow F w wa) G := h.b.ap.grow hG
  have hF1 : Within (Grow F w wa) w1 := hc.within.below hb
  have la : Below w0.heap.size w0 wa := h.lo.trans (oc.lo h.f h.lo.size)
  have l1 : Below w0.heap.size w0 w1 := la.trans (hb.mono la.size)
  have f1 := grow_lo (w := w) (w' := wa) h.f h.lo.size
  have hp := h.p.step o ho
  exact ⟨⟨(hc.below hb).keep or' a1, hr, a1.grow' hF1, (hp.facts hn (by omega)).1⟩, hp, f1, grow_lo (w := w1) (w' := w2) h.g l1.size, l1.trans (or'.lo h.g l1.size)⟩
theorem Pair.below {w0 w w' : World} {n k c r : Nat} {F G : Nat → Prop} {s : CSt} (h : Pair w0 w n k c r F G s) (hb : Below w.heap.size w w') : Pair w0 w' n k c r F G s :=
  ⟨h.b.below hb, h.p, h.f, h.g, h.lo.trans (hb.mono h.lo.size)⟩
theorem Pair.start {w0 w1 w2 : World} {n c r : Nat} (hn : n ≤ 1000) (hc : CellsAt 66 w1 c (Grow (fun _ => False) w0 w1) ⟨List.replicate n 0, []⟩) (l1 : Below w0.heap.size w0 w1)
    (hr : CellsAt 71 w2 r (Grow (fun _ => False) w1 w2) ⟨List.replicate n 0, []⟩) (l2 : Below w1.heap.size w1 w2) :
    Pair w0 w2 n 0 c r (Grow (fun _ => False) w0 w1) (Grow (fun _ => False) w1 w2) ⟨List.replicate n 0, []⟩ := by
  refine ⟨⟨hc.below l2, hr, ?_, (Played.nil.facts hn (by omega)).1⟩, Played.nil, ?_, ?_, l1.trans (l2.mono l1.size)⟩
  · rintro k (h | ⟨h1, h2⟩) (h' | ⟨h3, h4⟩)
    · exact h
    · exact h
    · exact h'
    · omega
  · exact grow_lo (fun _ h => h.elim) (Nat.le_refl _)
  · exact grow_lo (fun _ h => h.elim) l1.size

theorem play_any (w : World) (a : Option Addr) (len cap : Nat) (h : Ops w a len) (n : Int) (hn : 0 ≤ n ∧ n ≤ 255) : Calls Try.prog 10 #[.int .u8 n, .slice a len cap] w (PlayPost w n) := by
  obtain ⟨hm, hd⟩ := h
  have HD := Lib.hid hd; clear hd
  obtain ⟨m, hm1⟩ : ∃ m : Nat, (n % 5).toNat + 1 = m := ⟨_, rfl⟩
  have hmi : n % 5 + 1 = m := by omega
  have hm5 : m ≤ 5 := by omega
  have hm6 : 1 ≤ m := by omega
  unfold PlayPost
  rw [hm1]
  clear hm1
  go_enter Try.func10, Try.ntmps10
  go_wp2_with fail
  refine (new_to w m (by omega)).mono ?_
  rintro e w1 ⟨rfl, hc, l1⟩
  have HC := Lib.hid hc; have L1 := Lib.hid l1; clear hc l1
  go_wp2_with fail
  refine (rnew_to w1 m (by omega)).mono ?_
  rintro e w2 ⟨rfl, hr, l2⟩
  rw [Int.toNat_natCast] at hr
  rw [Int.toNat_natCast] at HC
  have HP := Lib.hid (Pair.start (by omega) HC.out L1.out hr l2)
  clear hr l2 HC L1
  generalize w.heap.size + 1 = c at *
  generalize w1.heap.size + 1 = r at *
  go_wp2_with fail
  go_loopw [10] (fun i wr => ∃ (k : Nat) (F G : Nat → Prop) (s : CSt), i = .int .i64 k ∧ k ≤ len ∧ k ≤ 60 ∧ Pair w wr m k c r F G s) (fun i _ => len - (intOf i).toNat)
  case atStart => exact ⟨0, _, _, _, rfl, Nat.zero_le _, Nat.zero_le _, HP.out⟩
  case round =>
    obtain ⟨k, F, G, s, rfl, hk, hk6, hP⟩ := hrel
    have H := Lib.hid hP; clear hP HP
    by_cases hlt : k < len
    · by_cases h60 : k < 60
      · obtain ⟨b, off, rfl, hc⟩ : ∃ b off, a = some ⟨b, off, none⟩ ∧ ∀ i, i < len → ∃ o : OpV, o.Fit ∧ w.cell? ⟨b, off + i * 4, none⟩ = some (.int .u8 o.k) ∧ w.cell? ⟨b, off + i * 4 + 1, none⟩ = some (.int .i64 o.c) ∧ w.cell? ⟨b, off + i * 4 + 2, none⟩ = some (.int .u64 o.a) ∧ w.cell? ⟨b, off + i * 4 + 3, none⟩ = some (.int .u64 o.b) :=
          HD.out.resolve_left (by omega)
        obtain ⟨o, ho, c0, c1, c2, c3⟩ := hc k hlt
        have HO := Lib.hid ho
        have hbw : b < w.heap.size := World.block_lt_of_cell? w _ c0
        have hnF : ¬ F b := fun h => by have := H.out.f _ h; omega
        have hnG : ¬ G b := fun h => by have := H.out.g _ h; omega
        replace c0 := bkeep H.out.lo c0; replace c1 := bkeep H.out.lo c1; replace c2 := bkeep H.out.lo c2; replace c3 := bkeep H.out.lo c3
        clear hc ho
        have hI := Lib.hid (H.out.p.facts (by omega) (by omega))
        obtain ⟨ee, he⟩ : ∃ ee, s.doE o = ee := ⟨_, rfl⟩
        obtain ⟨d, hd⟩ : ∃ d, s.doD o = d := ⟨_, rfl⟩
        have HE := Lib.hid he; have HDD := Lib.hid hd; clear he hd
        go_wp2_with fail
        refine (do_to hI.out.1 (by have := hI.out.2.2; omega) H.out.b.c o HO.out HE.out HDD.out rfl).mono ?_
        rintro e w3 ⟨rfl, h3, o3⟩
        have hbl := blk_new w3 (.cells #[.int .u8 d.o.k, .int .i64 d.o.c, .int .u64 d.o.a, .int .u64 d.o.b, .int .u64 d.w, .bool d.ok] 37)
        have lb : Below w3.heap.size w3 (w3.alloc (.cells #[.int .u8 d.o.k, .int .i64 d.o.c, .int .u64 d.o.a, .int .u64 d.o.b, .int .u64 d.w, .bool d.ok] 37)) := by repeat (first | (with_reducible exact Below.refl _ _) | (with_reducible apply Below.drew) | (with_reducible refine below_drewN ?_ _) | (with_reducible refine below_alloc' ?_ ?_ _; (focus ((try simp) <;> omega))) | (with_reducible refine below_set' ?_ ?_ _; (focus ((try simp) <;> omega))))
        have hbl2 : w3.heap.size < (w3.alloc (.cells #[.int .u8 d.o.k, .int .i64 d.o.c, .int .u64 d.o.a, .int .u64 d.o.b, .int .u64 d.w, .bool d.ok] 37)).heap.size := by simp
        have s3 := o3.size
        have R3 := Lib.hid ((H.out.b.r.keep o3 H.out.b.ap.symm).below lb)
        replace c0 := bkeep lb (o3.cell c0 hnF); replace c1 := bkeep lb (o3.cell c1 hnF); replace c2 := bkeep lb (o3.cell c2 hnF); replace c3 := bkeep lb (o3.cell c3 hnF)
        have H3 := Lib.hid h3; have O3 := Lib.hid o3; have LB := Lib.hid lb; have HBL := Lib.hid hbl
        clear h3 o3 lb hbl
        go_wp2_with fail
        generalize w3.alloc (.cells #[.int .u8 d.o.k, .int .i64 d.o.c, .int .u64 d.o.a, .int .u64 d.o.b, .int .u64 d.w, .bool d.ok] 37) = w4 at *
        refine (rdo_to hI.out.1 (by have := hI.out.2.2; omega) R3.out o HO.out HE.out HDD.out rfl).mono ?_
        rintro e w5 ⟨rfl, h5, o5⟩
        have hP5 := H.out.step (by omega) (by omega) o HO.out H3.out O3.out LB.out h5 o5
        have hb5 := o5.blk HBL.out (fun h => by have := H.out.b.r.within _ h; omega)
        clear R3 h5 o5 H3 O3 LB HBL
        have x0 := blk_cell hb5 0; have x1 := blk_cell hb5 1; have x2 := blk_cell hb5 2; have x3 := blk_cell hb5 3; have x4 := blk_cell hb5 4; have x5 := blk_cell hb5 5
        simp only [List.getElem?_toArray, List.getElem?_cons_zero, List.getElem?_cons_succ] at x0 x1 x2 x3 x4 x5
        have hlt5 := blk_lt hb5
        have hne5 : w3.heap.size ≠ w5.heap.size := by omega
        have hP := Lib.hid hP5
        clear hP5 hb5 c0 c1 c2 c3 H
        go_wp2_with fail
        exact ⟨⟨k + 1, _, _, _, by go_num, by omega, by omega, hP.out.below (by repeat (first | (with_reducible exact Below.refl _ _) | (with_reducible apply Below.drew) | (with_reducible refine below_drewN ?_ _) | (with_reducible refine below_alloc' ?_ ?_ _; (focus ((try simp) <;> omega))) | (with_reducible refine below_set' ?_ ?_ _; (focus ((try simp) <;> omega)))))⟩, by simp [intOf]; omega⟩
      · have h60' : ¬ ((k : Int) < 60) := by omega
        go_wp2_with fail
        go_ret3
        exact ⟨c, r, F, G, s, k, hk6, rfl, H.out⟩
    · go_wp2_with fail
      go_ret3
      exact ⟨c, r, F, G, s, k, hk6, rfl, H.out⟩
end Go.Proofs.Ytiopopplbehieaa.Cel
