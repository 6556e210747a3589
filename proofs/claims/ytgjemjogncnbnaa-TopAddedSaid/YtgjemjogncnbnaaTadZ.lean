/- The walk of the statement. -/
import Derived.Test.YtgjemjogncnbnaaTadY
namespace Go.Proofs.Ytgjemjogncnbnaa.Tad
open Go.RowKit
set_option linter.unusedSimpArgs false
set_option linter.unusedVariables false
set_option maxRecDepth 50000

theorem EngAt.low {lo lo' : Nat} {w : World} {eb : Nat} {B : Bk} {E : Eng} (h : EngAt lo w eb B E) (hl : lo' ≤ lo) : EngAt lo' w eb B E where
  obj := h.obj
  lock := h.lock
  linv := h.linv
  heap := h.heap
  mp := h.mp
  evs := h.evs
  kys := h.kys
  wys := h.wys
  ths := h.ths
  sep := h.sep
  sepm := h.sepm
  lo1 := by have := h.lo1; omega
  lo2 := ⟨fun k hk => Nat.le_trans hl (h.lo2.1 k hk), fun k hk => Nat.le_trans hl (h.lo2.2.1 k hk), fun k hk => Nat.le_trans hl (h.lo2.2.2 k hk)⟩
  lo3 := fun t x e => by have := h.lo3 t x e; omega
theorem cells_u8 : Try.prog.cellsOf 5 = 1 := by kernel_rfl
def Bytes (w : World) (a : Option Addr) (len : Nat) : Prop := len = 0 ∨ ∃ b off, a = some ⟨b, off, none⟩ ∧ ∀ i, i < len → ∃ x : Int, (0 ≤ x ∧ x < 256) ∧ w.cell? ⟨b, off + i, none⟩ = some (.int .u8 x)
theorem bytes_of {H : Type} {enc : TypeId × Value → H} {w : World} {a : Option Addr} {len cap : Nat} (h : Fits enc Try.prog w 22 [.slice a len cap]) : len ≤ 9223372036854775807 ∧ Bytes w a len := by
  obtain ⟨hm, hh⟩ := h.slice Try.underlying22 (by rw [cells_u8]; decide)
  refine ⟨hm, ?_⟩
  rcases hh with hh | ⟨b, off, rfl, hh⟩
  · exact .inl hh
  refine .inr ⟨b, off, rfl, fun i hi => ?_⟩
  obtain ⟨cs, hl, hc, hf⟩ := hh i hi
  obtain ⟨x, rfl, wf⟩ := hf.int (k := .u8) (by kernel_rfl)
  have hb := bounds_u8 wf
  have := hc 0 (by rw [cells_u8]; decide)
  rw [cells_u8] at this
  exact ⟨x, by omega, by simpa using this⟩
theorem good0 : Good E0 (fun _ => 0) (fun _ => 0) 0 0 where
  mi := Nat.le_refl _
  n64 := by decide
  yn := rfl
  cn := Nat.le_refl _
  di := Nat.le_refl _
  gi := fun _ => by decide
  lk := .free rfl rfl (by rw [fI_zero]; rfl)
  th := fun t x _ _ e => by cases e
set_option maxHeartbeats 12800000 in
theorem added_law {H : Type} (enc : TypeId × Value → H) (w : World) (p : Option Addr) (len cap : Nat) (h : Fits enc Try.prog w 22 [.slice p len cap]) :
    Calls Try.prog 3 #[.slice p len cap] w fun e w' => e = .returned (.bool true) ∧ Below w.heap.size w w' := by
  obtain ⟨hlen, hby⟩ := bytes_of h
  have HP := Lib.hid hby
  have l0 : Below w.heap.size w (w.alloc (.cells #[.int .u64 0, .int .u64 9221120237041090560] 26)) := by repeat (first | (with_reducible exact Below.refl _ _) | (with_reducible apply Below.drew) | (with_reducible refine below_drewN ?_ _) | (with_reducible refine below_alloc' ?_ ?_ _; (focus ((try simp) <;> omega))) | (with_reducible refine below_set' ?_ ?_ _; (focus ((try simp) <;> omega))))
  have hb0 := blk_new w (.cells #[.int .u64 0, .int .u64 9221120237041090560] 26)
  have HNW := Lib.hid (new_any _ w.heap.size 2 (blk_cell hb0 0) (blk_cell hb0 1))
  have L0 := Lib.hid l0
  clear h hby hb0 l0
  go_enter Try.func3, Try.ntmps3
  go_wp2_with fail
  refine HNW.out.mono ?_
  rintro e w1 ⟨eb, B0, rfl, hE, l1⟩
  have HE := Lib.hid (hE.low (lo' := w.heap.size) L0.out.size)
  have L1 := Lib.hid (btrans L0.out (Nat.le_refl _) l1)
  clear hE l1 HNW L0
  go_wp2_with fail
  have hL : Lw w ((w1.alloc (.cells #[.int .i64 0, .int .i64 0, .int .i64 0] 28)).alloc (.cells #[.int .u64 0, .int .u64 0, .int .u64 0] 29)) eb w1.heap.size (w1.heap.size + 1) E0 B0 (fun _ => 0) (fun _ => 0) 0 0 := by
    have lz : Below w1.heap.size w1 ((w1.alloc (.cells #[.int .i64 0, .int .i64 0, .int .i64 0] 28)).alloc (.cells #[.int .u64 0, .int .u64 0, .int .u64 0] 29)) := by repeat (first | (with_reducible exact Below.refl _ _) | (with_reducible apply Below.drew) | (with_reducible refine below_drewN ?_ _) | (with_reducible refine below_alloc' ?_ ?_ _; (focus ((try simp) <;> omega))) | (with_reducible refine below_set' ?_ ?_ _; (focus ((try simp) <;> omega))))
    have hs := L1.out.size
    refine ⟨HE.out.below lz, good0, ?_, ?_, btrans L1.out (Nat.le_refl _) lz, hs, by omega⟩
    · unfold arr3 atV; simp [↓heap_alloc_eq, ↓heap_set_eq, ↓heap_drew_eq, ↓heap_drewN_eq, setObj, size_drewN]
    · unfold arr3 gotV; rw [fI_zero]; simp [↓heap_alloc_eq, ↓heap_set_eq, ↓heap_drew_eq, ↓heap_drewN_eq, setObj, size_drewN]
  have HW := Lib.hid hL
  clear hL HE L1
  generalize ((w1.alloc (.cells #[.int .i64 0, .int .i64 0, .int .i64 0] 28)).alloc (.cells #[.int .u64 0, .int .u64 0, .int .u64 0] 29)) = w2 at *
  generalize w1.heap.size + 1 = gb at *
  generalize w1.heap.size = ab at *
  go_loopw [6, 7] (fun dv iv wr => ∃ (i done : Nat) (a g : Int → Nat) (E : Eng) (B : Bk), iv = .int .i64 i ∧ dv = .int .i64 done ∧ i ≤ len ∧ i ≤ 150 ∧ Lw w wr eb ab gb E B a g done i) (fun _ i _ => len - (intOf i).toNat)
  case atStart => exact ⟨0, 0, _, _, _, _, rfl, rfl, Nat.zero_le _, Nat.zero_le _, HW.out⟩
  case round =>
    obtain ⟨i, done, a, g, E, B, rfl, rfl, hil, hi150, hL⟩ := hrel
    have HL := Lib.hid hL
    clear hL HW
    by_cases hgo : i < len ∧ i < 150
    · obtain ⟨hlt, h150⟩ := hgo
      obtain ⟨pb, off, rfl, hc⟩ := HP.out.resolve_left (by omega)
      obtain ⟨p, ⟨hp0, hp1⟩, hp⟩ := hc i hlt
      replace hp := bkeep HL.out.lo hp
      have hx1 : IntKind.i64.wrap p = p := by rw [IntKind.wrap_i64]; omega
      obtain ⟨q, hq⟩ : ∃ q : Nat, (q : Int) = p % 3 := ⟨(p % 3).toNat, by omega⟩
      have hq3 : q < 3 := by omega
      have hx2 : p % 3 = (q : Int) := hq.symm
      have t0 : 0 ≤ (q : Int) := by omega
      have t3 : (q : Int) < 3 := by omega
      clear hc hq
      cases hth : E.th q with
      | none =>
        have HA := Lib.hid (asked_none HL.out.eng q t0 t3 hth)
        have HTH := Lib.hid hth
        clear hth
        go_wp2_with fail
        refine HA.out.mono ?_
        rintro e w3 ⟨rfl, l3⟩
        have L3 := Lib.hid l3
        clear l3 HA
        go_wp2_with fail
        obtain ⟨W, hW⟩ : ∃ W, w3.alloc (.cells #[.int .u8 0, .int .i64 0, .int .u64 0] 32) = W := ⟨_, rfl⟩
        have lW : Below w3.heap.size w3 W := by rw [← hW]; repeat (first | (with_reducible exact Below.refl _ _) | (with_reducible apply Below.drew) | (with_reducible refine below_drewN ?_ _) | (with_reducible refine below_alloc' ?_ ?_ _; (focus ((try simp) <;> omega))) | (with_reducible refine below_set' ?_ ?_ _; (focus ((try simp) <;> omega))))
        have HLW := Lib.hid (HL.out.below (btrans L3.out (Nat.le_refl _) lW))
        rw [hW]
        clear hW lW L3
        refine (attempt_none HLW.out.eng q t0 t3 HTH.out).mono ?_
        rintro e w4 ⟨rfl, rfl⟩
        go_wp2_with fail
        obtain ⟨E', v, er, hcb, her⟩ := begin_good HLW.out.eng HLW.out.lo.size HLW.out.good (by omega) q t0 t3 HTH.out
        refine hcb.mono ?_
        rintro e w5 ⟨rfl, ⟨B5, hE5⟩, o5⟩
        rcases her with ⟨rfl, G5⟩ | ⟨her, G5⟩
        · have HT := Lib.hid (HLW.out.turn hE5 o5 G5)
          have HG := Lib.hid G5.lk
          have hd151 : done < 160 := by have := G5.di; omega
          clear hE5 o5 G5 hcb HLW
          go_wp2_with fail
          refine (int_any _ done hd151).mono ?_; rintro e w6 ⟨rfl, rfl⟩; go_wp2_with fail; refine (heap_any (HT.out.1)).mono ?_; rintro e w7 ⟨hg', hc', rfl, c0, c1, l7⟩; (have HLO := Lib.hid (btrans (HT.out.2.2.2.2) (Nat.le_refl _) l7)); (have HCL := Lib.hid (clock_any ((HT.out.1).below l7))); clear l7; cases HG.out with | free ho hc hh => (rw [hc] at HCL; rw [hh] at c0; (have m1 : 2 * (done : Int) % 2 = 0 := (by omega)); (have m2 : 0 ≤ 2 * (done : Int) := (by omega)); (have m3 : IntKind.u64.wrap (done : Int) = (done : Int) := (by rw [IntKind.wrap_u64]; omega)); (have m4 : IntKind.u64.wrap (2 * (done : Int)) = 2 * (done : Int) := (by rw [IntKind.wrap_u64]; omega)); clear ho hc hh; go_wp2_with fail; refine HCL.out.mono ?_; rintro e w8 ⟨rfl, rfl⟩; go_wp2_with fail; refine HCL.out.mono ?_; rintro e w8 ⟨rfl, rfl⟩; go_wp2_with fail; go_ret; exact ⟨rfl, HLO.out⟩) | held o x ho h0 h3 hc hx st => (rw [hc] at HCL; (have m1 : (2 * (done : Int) + 1) % 2 = 1 := (by omega)); (have m2 : 0 ≤ 2 * (done : Int) + 1 := (by omega)); clear ho hc hx st; go_wp2_with fail; refine HCL.out.mono ?_; rintro e w8 ⟨rfl, rfl⟩; go_wp2_with fail; go_ret; exact ⟨rfl, HLO.out⟩)
        · have hT := HLW.out.turn hE5 o5 G5
          have hS := at_store (v := 0) hq3 hT.1 hT.2.2.1 hT.2.2.2.1 hT.2.2.2.2 HLW.out.alo
          have z1 := blk_cell hT.2.2.1 q; have z2 := blk_free hT.2.2.1 q
          rw [arr3_get _ hq3] at z1
          unfold atV at z1
          have HS := Lib.hid hS; have HT := Lib.hid hT
          clear hE5 o5 hcb HLW hS hT
          rcases her with rfl | rfl
          all_goals
            go_wp2_with fail
            exact ⟨⟨i + 1, done, _, _, _, _, by go_num, rfl, by omega, by omega, ⟨HS.out.1, HT.out.2.1, HS.out.2.1, HS.out.2.2.1, HS.out.2.2.2, HL.out.alo, HL.out.glo⟩⟩, by simp [intOf]; omega⟩
      | some x =>
        have HA := Lib.hid (asked_some HL.out.eng q t0 t3 hth)
        have HTH := Lib.hid hth
        clear hth
        by_cases hk : x.kd = 0
        · have hpl := ask_place HL.out.good q t0 t3 HTH.out hk
          rw [show (x.kd != 0) = false by simp [hk]] at HA
          have HK := Lib.hid hk; have HPL := Lib.hid hpl
          clear hk hpl
          go_wp2_with fail
          refine HA.out.mono ?_
          rintro e w3 ⟨rfl, l3⟩
          have L3 := Lib.hid l3
          clear l3 HA
          go_wp2_with fail
          obtain ⟨W, hW⟩ : ∃ W, w3.alloc (.cells #[.int .u8 x.kd, .int .i64 0, .int .u64 x.av] 32) = W := ⟨_, rfl⟩
          have lW : Below w3.heap.size w3 W := by rw [← hW]; repeat (first | (with_reducible exact Below.refl _ _) | (with_reducible apply Below.drew) | (with_reducible refine below_drewN ?_ _) | (with_reducible refine below_alloc' ?_ ?_ _; (focus ((try simp) <;> omega))) | (with_reducible refine below_set' ?_ ?_ _; (focus ((try simp) <;> omega))))
          have HLW := Lib.hid (HL.out.below (btrans L3.out (Nat.le_refl _) lW))
          rw [hW]
          clear hW lW L3
          refine (attempt_some HLW.out.eng q t0 t3 HTH.out).mono ?_
          rintro e w4 ⟨rfl, rfl⟩
          have z1 := blk_cell HLW.out.at_ q
          rw [arr3_get _ hq3] at z1
          unfold atV at z1
          have z2 := blk_cell HLW.out.got q
          rw [arr3_get _ hq3] at z2
          unfold gotV at z2
          obtain ⟨vv, hvv⟩ : ∃ vv : Int, ((fI (g q + 1) : Nat) : Int) = vv := ⟨_, rfl⟩
          have HADD := Lib.hid (add_any W (g q) (by have := HLW.out.good.gi q; omega))
          rw [hvv] at HADD
          have HVV := Lib.hid hvv
          clear hvv
          go_wp2_with fail
          refine HADD.out.mono ?_
          rintro e w4 ⟨rfl, rfl⟩
          have hab := blk_lt HLW.out.at_
          have hnab : ¬ ab = W.heap.size := by omega
          rcases HPL.out with ha | ha | ha
          · rw [ha] at z1
            (have HA := Lib.hid ha); clear ha HADD; go_wp2_with fail; (obtain ⟨W1, hW1⟩ : ∃ W1, W.alloc (.cells #[.int .u8 1, .int .i64 0, .int .u64 0, .int .u8 2, .int .i64 0, .int .u64 vv, .int .u8 6, .int .i64 0, .int .u64 0] 32) = W1 := ⟨_, rfl⟩); (have lW1 : Below W.heap.size W W1 := (by rw [← hW1]; repeat (first | (with_reducible exact Below.refl _ _) | (with_reducible apply Below.drew) | (with_reducible refine below_drewN ?_ _) | (with_reducible refine below_alloc' ?_ ?_ _; (focus ((try simp) <;> omega))) | (with_reducible refine below_set' ?_ ?_ _; (focus ((try simp) <;> omega)))))); rw [hW1]; (have HL1 := Lib.hid (HLW.out.below lW1)); clear hW1 lW1 z1 z2 hab hnab; (obtain ⟨E', hca, G'⟩ := ask_good HL1.out.eng HL1.out.good (by omega) q t0 t3 HTH.out HK.out 1 0 (.inl ⟨HA.out, rfl, rfl⟩)); rw [HA.out] at G'; refine hca.mono ?_; rintro e w5 ⟨rfl, hE5, o5⟩; (have hT := HL1.out.turn hE5 o5 G'); (have hS := at_store (v := 1) hq3 hT.1 hT.2.2.1 hT.2.2.2.1 hT.2.2.2.2 HL.out.alo); (have z1 := blk_cell hT.2.2.1 q); (have z2 := blk_free hT.2.2.1 q); rw [arr3_get _ hq3] at z1; unfold atV at z1; rw [HA.out] at z1; (have HS := Lib.hid hS); (have HT := Lib.hid hT); clear hE5 o5 hca HLW hS hT G' HL1; go_wp2_with fail; exact ⟨⟨i + 1, done, _, _, _, _, (by go_num), rfl, (by omega), (by omega), ⟨HS.out.1, HT.out.2.1, HS.out.2.1, HS.out.2.2.1, HS.out.2.2.2, HL.out.alo, HL.out.glo⟩⟩, (by simp [intOf]; omega)⟩
          · rw [ha] at z1
            (have HA := Lib.hid ha); clear ha HADD; go_wp2_with fail; (obtain ⟨W1, hW1⟩ : ∃ W1, W.alloc (.cells #[.int .u8 1, .int .i64 0, .int .u64 0, .int .u8 2, .int .i64 0, .int .u64 vv, .int .u8 6, .int .i64 0, .int .u64 0] 32) = W1 := ⟨_, rfl⟩); (have lW1 : Below W.heap.size W W1 := (by rw [← hW1]; repeat (first | (with_reducible exact Below.refl _ _) | (with_reducible apply Below.drew) | (with_reducible refine below_drewN ?_ _) | (with_reducible refine below_alloc' ?_ ?_ _; (focus ((try simp) <;> omega))) | (with_reducible refine below_set' ?_ ?_ _; (focus ((try simp) <;> omega)))))); rw [hW1]; (have HL1 := Lib.hid (HLW.out.below lW1)); clear hW1 lW1 z1 z2 hab hnab; (obtain ⟨E', hca, G'⟩ := ask_good HL1.out.eng HL1.out.good (by omega) q t0 t3 HTH.out HK.out 2 vv (.inr (.inl ⟨HA.out, rfl, HVV.out.symm⟩))); rw [HA.out] at G'; refine hca.mono ?_; rintro e w5 ⟨rfl, hE5, o5⟩; (have hT := HL1.out.turn hE5 o5 G'); (have hS := at_store (v := 2) hq3 hT.1 hT.2.2.1 hT.2.2.2.1 hT.2.2.2.2 HL.out.alo); (have z1 := blk_cell hT.2.2.1 q); (have z2 := blk_free hT.2.2.1 q); rw [arr3_get _ hq3] at z1; unfold atV at z1; rw [HA.out] at z1; (have HS := Lib.hid hS); (have HT := Lib.hid hT); clear hE5 o5 hca HLW hS hT G' HL1; go_wp2_with fail; exact ⟨⟨i + 1, done, _, _, _, _, (by go_num), rfl, (by omega), (by omega), ⟨HS.out.1, HT.out.2.1, HS.out.2.1, HS.out.2.2.1, HS.out.2.2.2, HL.out.alo, HL.out.glo⟩⟩, (by simp [intOf]; omega)⟩
          · rw [ha] at z1
            (have HA := Lib.hid ha); clear ha HADD; go_wp2_with fail; (obtain ⟨W1, hW1⟩ : ∃ W1, W.alloc (.cells #[.int .u8 1, .int .i64 0, .int .u64 0, .int .u8 2, .int .i64 0, .int .u64 vv, .int .u8 6, .int .i64 0, .int .u64 0] 32) = W1 := ⟨_, rfl⟩); (have lW1 : Below W.heap.size W W1 := (by rw [← hW1]; repeat (first | (with_reducible exact Below.refl _ _) | (with_reducible apply Below.drew) | (with_reducible refine below_drewN ?_ _) | (with_reducible refine below_alloc' ?_ ?_ _; (focus ((try simp) <;> omega))) | (with_reducible refine below_set' ?_ ?_ _; (focus ((try simp) <;> omega)))))); rw [hW1]; (have HL1 := Lib.hid (HLW.out.below lW1)); clear hW1 lW1 z1 z2 hab hnab; (obtain ⟨E', hca, G'⟩ := ask_good HL1.out.eng HL1.out.good (by omega) q t0 t3 HTH.out HK.out 6 0 (.inr (.inr ⟨HA.out, rfl, rfl⟩))); rw [HA.out] at G'; refine hca.mono ?_; rintro e w5 ⟨rfl, hE5, o5⟩; (have hT := HL1.out.turn hE5 o5 G'); (have hS := at_store (v := 3) hq3 hT.1 hT.2.2.1 hT.2.2.2.1 hT.2.2.2.2 HL.out.alo); (have z1 := blk_cell hT.2.2.1 q); (have z2 := blk_free hT.2.2.1 q); rw [arr3_get _ hq3] at z1; unfold atV at z1; rw [HA.out] at z1; (have HS := Lib.hid hS); (have HT := Lib.hid hT); clear hE5 o5 hca HLW hS hT G' HL1; go_wp2_with fail; exact ⟨⟨i + 1, done, _, _, _, _, (by go_num), rfl, (by omega), (by omega), ⟨HS.out.1, HT.out.2.1, HS.out.2.1, HS.out.2.2.1, HS.out.2.2.2, HL.out.alo, HL.out.glo⟩⟩, (by simp [intOf]; omega)⟩
        · rw [show (x.kd != 0) = true by simp [hk]] at HA
          have HK := Lib.hid hk
          clear hk
          go_wp2_with fail
          refine HA.out.mono ?_
          rintro e w3 ⟨rfl, l3⟩
          have L3 := Lib.hid l3
          clear l3 HA
          go_wp2_with fail
          obtain ⟨W, hW⟩ : ∃ W, w3.alloc (.cells #[.int .u8 x.kd, .int .i64 0, .int .u64 x.av] 32) = W := ⟨_, rfl⟩
          have lW : Below w3.heap.size w3 W := by rw [← hW]; repeat (first | (with_reducible exact Below.refl _ _) | (with_reducible apply Below.drew) | (with_reducible refine below_drewN ?_ _) | (with_reducible refine below_alloc' ?_ ?_ _; (focus ((try simp) <;> omega))) | (with_reducible refine below_set' ?_ ?_ _; (focus ((try simp) <;> omega))))
          have HLW := Lib.hid (HL.out.below (btrans L3.out (Nat.le_refl _) lW))
          rw [hW]
          clear hW lW L3
          obtain ⟨E', d, v, bb, o, en, rs, er, a', g', done', hcs, G', hO⟩ := step_good HLW.out.eng HLW.out.lo.size HLW.out.good (by omega) q t0 t3 HTH.out HK.out
          refine hcs.mono ?_
          rintro e w5 ⟨rfl, ⟨B5, hE5⟩, o5⟩
          have hT := HLW.out.turn hE5 o5 G'
          have z1 := blk_cell hT.2.2.1 q; have z2 := blk_free hT.2.2.1 q
          have z3 := blk_cell hT.2.2.2.1 q; have z4 := blk_free hT.2.2.2.1 q
          rw [arr3_get _ hq3] at z1 z3
          unfold atV at z1
          unfold gotV at z3
          have hab := blk_lt hT.2.2.1
          have hgb := blk_lt hT.2.2.2.1
          have hnab : ¬ ab = w5.heap.size := by omega
          have hngb : ¬ gb = w5.heap.size := by omega
          have HT := Lib.hid hT
          have hst : ∀ v : Nat, _ := fun v => at_store (v := v) hq3 hT.1 hT.2.2.1 hT.2.2.2.1 hT.2.2.2.2 HL.out.alo
          have hgt : ∀ v : Nat, _ := fun v => got_store (v := v) hq3 hT.1 hT.2.2.1 hT.2.2.2.1 hT.2.2.2.2 HL.out.glo
          have HST := Lib.hid hst; have HGT := Lib.hid hgt
          clear hE5 o5 hcs HLW G' hT hst hgt
          unfold reply
          cases hO with
          | com he hr =>
            subst he hr
            have hd1 : (done : Int) < 151 := by have := HL.out.good.di; omega
            have hd2 : 0 ≤ (done : Int) := by omega
            go_wp2_with fail
            exact ⟨⟨i + 1, done + 1, _, _, _, _, by go_num, by go_num, by omega, by omega, Lw.below ⟨(HST.out 0).1, HT.out.2.1, (HST.out 0).2.1, (HST.out 0).2.2.1, (HST.out 0).2.2.2, HL.out.alo, HL.out.glo⟩ ((Below.refl _ _).alloc (Nat.le_refl _) _)⟩, by simp [intOf]; omega⟩
          | cut he hr =>
            subst he hr
            go_wp2_with fail
            exact ⟨⟨i + 1, done, _, _, _, _, by go_num, by go_num, by omega, by omega, Lw.below ⟨(HST.out 0).1, HT.out.2.1, (HST.out 0).2.1, (HST.out 0).2.2.1, (HST.out 0).2.2.2, HL.out.alo, HL.out.glo⟩ ((Below.refl _ _).alloc (Nat.le_refl _) _)⟩, by simp [intOf]; omega⟩
          | got s he hd ha hv =>
            subst he hd hv
            rw [ha] at z1
            go_wp2_with fail
            exact ⟨⟨i + 1, done, _, _, _, _, by go_num, by go_num, by omega, by omega, Lw.below ⟨(HGT.out s).1, HT.out.2.1, (HGT.out s).2.1, (HGT.out s).2.2.1, (HGT.out s).2.2.2, HL.out.alo, HL.out.glo⟩ ((Below.refl _ _).alloc (Nat.le_refl _) _)⟩, by simp [intOf]; omega⟩
          | go he hd =>
            subst he
            rcases hd with rfl | hd
            · go_wp2_with fail
              exact ⟨⟨i + 1, done, _, _, _, _, by go_num, by go_num, by omega, by omega, Lw.below ⟨HT.out.1, HT.out.2.1, HT.out.2.2.1, HT.out.2.2.2.1, HT.out.2.2.2.2, HL.out.alo, HL.out.glo⟩ ((Below.refl _ _).alloc (Nat.le_refl _) _)⟩, by simp [intOf]; omega⟩
            · have hne : ¬ ((a q : Nat) : Int) = 1 := by omega
              cases d
              · go_wp2_with fail
                exact ⟨⟨i + 1, done, _, _, _, _, by go_num, by go_num, by omega, by omega, Lw.below ⟨HT.out.1, HT.out.2.1, HT.out.2.2.1, HT.out.2.2.2.1, HT.out.2.2.2.2, HL.out.alo, HL.out.glo⟩ ((Below.refl _ _).alloc (Nat.le_refl _) _)⟩, by simp [intOf]; omega⟩
              · go_wp2_with fail
                exact ⟨⟨i + 1, done, _, _, _, _, by go_num, by go_num, by omega, by omega, Lw.below ⟨HT.out.1, HT.out.2.1, HT.out.2.2.1, HT.out.2.2.2.1, HT.out.2.2.2.2, HL.out.alo, HL.out.glo⟩ ((Below.refl _ _).alloc (Nat.le_refl _) _)⟩, by simp [intOf]; omega⟩
    · have hd151 : done < 160 := by have := HL.out.good.di; omega
      have HG := Lib.hid HL.out.good.lk
      have hend : i = len ∨ (i < len ∧ i = 150) := by omega
      rcases hend with rfl | ⟨hlt, rfl⟩
      all_goals
        go_wp2_with fail
        refine (int_any _ done hd151).mono ?_; rintro e w6 ⟨rfl, rfl⟩; go_wp2_with fail; refine (heap_any (HL.out.eng)).mono ?_; rintro e w7 ⟨hg', hc', rfl, c0, c1, l7⟩; (have HLO := Lib.hid (btrans (HL.out.lo) (Nat.le_refl _) l7)); (have HCL := Lib.hid (clock_any ((HL.out.eng).below l7))); clear l7; cases HG.out with | free ho hc hh => (rw [hc] at HCL; rw [hh] at c0; (have m1 : 2 * (done : Int) % 2 = 0 := (by omega)); (have m2 : 0 ≤ 2 * (done : Int) := (by omega)); (have m3 : IntKind.u64.wrap (done : Int) = (done : Int) := (by rw [IntKind.wrap_u64]; omega)); (have m4 : IntKind.u64.wrap (2 * (done : Int)) = 2 * (done : Int) := (by rw [IntKind.wrap_u64]; omega)); clear ho hc hh; go_wp2_with fail; refine HCL.out.mono ?_; rintro e w8 ⟨rfl, rfl⟩; go_wp2_with fail; refine HCL.out.mono ?_; rintro e w8 ⟨rfl, rfl⟩; go_wp2_with fail; go_ret; exact ⟨rfl, HLO.out⟩) | held o x ho h0 h3 hc hx st => (rw [hc] at HCL; (have m1 : (2 * (done : Int) + 1) % 2 = 1 := (by omega)); (have m2 : 0 ≤ 2 * (done : Int) + 1 := (by omega)); clear ho hc hx st; go_wp2_with fail; refine HCL.out.mono ?_; rintro e w8 ⟨rfl, rfl⟩; go_wp2_with fail; go_ret; exact ⟨rfl, HLO.out⟩)
end Go.Proofs.Ytgjemjogncnbnaa.Tad
