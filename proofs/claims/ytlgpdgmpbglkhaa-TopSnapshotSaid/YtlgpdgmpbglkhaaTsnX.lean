/- The walk of the statement. -/
import Derived.Test.YtlgpdgmpbglkhaaTsnW
namespace Go.Proofs.Ytlgpdgmpbglkhaa.Tsn
open Go.RowKit
set_option linter.unusedSimpArgs false
set_option linter.unusedVariables false

theorem allRight {v0 v1 v2 v3 : Int} : ∀ i, i < 4 → rightVal (([canonVal v0, canonVal v1, canonVal v2, canonVal v3] : List Int).getD i 0) = true := by
  intro i hi
  match i, hi with
  | 0, _ => exact canon_right _
  | 1, _ => exact canon_right _
  | 2, _ => exact canon_right _
  | 3, _ => exact canon_right _
set_option maxRecDepth 50000 in
set_option maxHeartbeats 6400000 in
theorem snap_law {H : Type} (enc : TypeId × Value → H) (w : World) (c : Array Value) (h : Fits enc Try.prog w 24 c.toList) (a : Option Addr) (len cap : Nat) (h1 : Fits enc Try.prog w 25 [.slice a len cap]) (x : Int) (hx : (Lit.int .u8 x).wf = true) :
    Calls Try.prog 3 #[.agg c, .slice a len cap, .int .u8 x] w fun e w' => e = .returned (.bool true) ∧ Below w.heap.size w w' := by
  obtain ⟨i0, hi, hz0, hz1, hz2⟩ := info_parts infoV
  obtain ⟨v0, v1, v2, v3, v4, he, b0, b1, b2, b3, b4⟩ := five_of h
  obtain rfl : c = #[.int .u64 v0, .int .u64 v1, .int .u64 v2, .int .u64 v3, .int .u64 v4] := by rw [← Array.toList_inj, he]
  obtain ⟨hm, hd⟩ := bytes_of h1
  have HD := Lib.hid hd
  have hbx := bounds_u8 hx
  have hx0 : 0 ≤ x := hbx.1
  have hx1 : IntKind.i64.wrap x = x := by rw [IntKind.wrap_i64]; have := hbx.2; omega
  obtain ⟨q, hq⟩ : ∃ q : Nat, (q : Int) = x % 4 := ⟨(x % 4).toNat, by omega⟩
  have hq4 : q < 4 := by omega
  have hx2 : x % 4 = (q : Int) := hq.symm
  have lW : Below w.heap.size w (w.alloc (.cells #[.int .u64 v0, .int .u64 v1, .int .u64 v2, .int .u64 v3, .int .u64 v4] 24)) := by repeat (first | (with_reducible exact Below.refl _ _) | (with_reducible apply Below.drew) | (with_reducible refine below_drewN ?_ _) | (with_reducible refine below_alloc' ?_ ?_ _; (focus ((try simp) <;> omega))) | (with_reducible refine below_set' ?_ ?_ _; (focus ((try simp) <;> omega))))
  have hbox := blk_new w (.cells #[.int .u64 v0, .int .u64 v1, .int .u64 v2, .int .u64 v3, .int .u64 v4] 24)
  have KO := Lib.hid (show ∀ w', Below (w.alloc (.cells #[.int .u64 v0, .int .u64 v1, .int .u64 v2, .int .u64 v3, .int .u64 v4] 24)).heap.size (w.alloc (.cells #[.int .u64 v0, .int .u64 v1, .int .u64 v2, .int .u64 v3, .int .u64 v4] 24)) w' → (w'.cell? ⟨w.heap.size, 0, none⟩ = some (.int .u64 v0) ∧ w'.cell? ⟨w.heap.size, 1, none⟩ = some (.int .u64 v1) ∧ w'.cell? ⟨w.heap.size, 2, none⟩ = some (.int .u64 v2) ∧ w'.cell? ⟨w.heap.size, 3, none⟩ = some (.int .u64 v3)) from fun w' l => by
    have y := bblk l hbox
    exact ⟨blk_cell y 0, blk_cell y 1, blk_cell y 2, blk_cell y 3⟩)
  have HB0 := Lib.hid b0; have HB1 := Lib.hid b1; have HB2 := Lib.hid b2; have HB3 := Lib.hid b3; have HB4 := Lib.hid b4
  have L0 := Lib.hid lW
  clear h he h1 hd hx hbx hq b0 b1 b2 b3 b4 hbox lW
  go_enter Try.func3, Try.ntmps3
  go_wp2_with fail
  refine (Seq.new_any _).mono ?_
  rintro e w1 ⟨rfl, rfl⟩
  obtain ⟨W, hW⟩ : ∃ W, w.alloc (.cells #[.int .u64 v0, .int .u64 v1, .int .u64 v2, .int .u64 v3, .int .u64 v4] 24) = W := ⟨_, rfl⟩
  rw [hW] at KO L0 ⊢
  obtain ⟨bx, hbx⟩ : ∃ bx, w.heap.size = bx := ⟨_, rfl⟩
  have hbw : bx < W.heap.size := by rw [← hW, ← hbx]; simp
  have HBX := Lib.hid hbx
  rw [hbx] at KO
  go_wp2_with fail
  refine (Rd.new_any _).mono ?_
  rintro e w2 ⟨sb, rfl, hR, l2⟩
  have lA : Below W.heap.size W (W.alloc (.cells #[.pointer none, .int .u64 0] 48)) := by repeat (first | (with_reducible exact Below.refl _ _) | (with_reducible apply Below.drew) | (with_reducible refine below_drewN ?_ _) | (with_reducible refine below_alloc' ?_ ?_ _; (focus ((try simp) <;> omega))) | (with_reducible refine below_set' ?_ ?_ _; (focus ((try simp) <;> omega))))
  have hL : Seq.LockAt w2 W.heap.size Seq.st0 := by
    have := bblk l2 (blk_new W (.cells #[.pointer none, .int .u64 0] 48))
    exact this
  have lB := btrans lA (Nat.le_refl _) l2
  obtain ⟨F, hF⟩ : ∃ F, Grow (fun _ => False) (W.alloc (.cells #[.pointer none, .int .u64 0] 48)) w2 = F := ⟨_, rfl⟩
  have hFlo : ∀ k, F k → W.heap.size < k ∧ k < w2.heap.size := by
    rw [← hF]
    rintro k (hk | ⟨hk, hk2⟩)
    · exact hk.elim
    · simp at hk; exact ⟨by omega, hk2⟩
  rw [hF] at hR
  have LB := Lib.hid lB; have HL := Lib.hid hL; have HR := Lib.hid hR; have HFL := Lib.hid hFlo
  clear hF l2 lA lB hL hR hFlo
  obtain ⟨lb, hlb⟩ : ∃ lb, W.heap.size = lb := ⟨_, rfl⟩
  rw [hlb] at HL HFL ⊢
  go_wp2_with fail
  refine (Seq.snap_any w2 lb Seq.st0 HL.out).mono ?_
  rintro e w3 ⟨rfl, l3⟩
  rw [show Seq.st0.snapV = 0 from rfl, show Seq.st0.snapE = 0 from rfl]
  have L3 := Lib.hid (btrans LB.out (Nat.le_refl _) l3)
  have HL3 := Lib.hid (lock_below HL.out l3); have HR3 := Lib.hid (HR.out.below l3)
  have hz3 := l3.size
  have hlt2 := HL.out.lt
  clear l3 LB HL HR
  obtain ⟨vs, hvs⟩ : ∃ vs : List Int, [v0, v1, v2, v3] = vs := ⟨_, rfl⟩
  obtain ⟨hs, hhs⟩ : ∃ hs : List Int, vs.map canonVal = hs := ⟨_, rfl⟩
  have hvl : vs.length = 4 := by rw [← hvs]; rfl
  have hhl : hs.length = 4 := by rw [← hhs, List.length_map, hvl]
  have hright : ∀ i, i < 4 → rightVal (hs.getD i 0) = true := by rw [← hhs, ← hvs]; exact allRight
  have KV := Lib.hid (show ∀ w', Below W.heap.size W w' → ∀ i, i < 4 → w'.cell? ⟨bx, i, none⟩ = some (.int .u64 (vs.getD i 0)) from fun w' l i hi => by
    obtain ⟨y0, y1, y2, y3⟩ := KO.out w' l
    rw [← hvs]
    match i, hi with
    | 0, _ => exact y0
    | 1, _ => exact y1
    | 2, _ => exact y2
    | 3, _ => exact y3)
  have HU := Lib.hid (show ∀ i, i < 4 → 0 ≤ vs.getD i 0 ∧ vs.getD i 0 < 18446744073709551616 from fun i hi => by
    rw [← hvs]
    match i, hi with
    | 0, _ => exact HB0.out
    | 1, _ => exact HB1.out
    | 2, _ => exact HB2.out
    | 3, _ => exact HB3.out)
  have HCV := Lib.hid (show ∀ i, i < 4 → hs[i]? = some (canonVal (vs.getD i 0)) from fun i hi => by
    rw [← hhs, List.getElem?_map, List.getD_eq_getElem?_getD, List.getElem?_eq_getElem (by omega)]; rfl)
  have HHU := Lib.hid (show ∀ x ∈ hs, 0 ≤ x ∧ x < 18446744073709551616 from fun x hx => by
    rw [← hhs] at hx
    obtain ⟨y, hy, rfl⟩ := List.mem_map.1 hx
    obtain ⟨i, hi, rfl⟩ := List.mem_iff_getElem.1 hy
    have := HU.out i (by omega)
    rw [List.getD_eq_getElem?_getD, List.getElem?_eq_getElem hi] at this
    exact canon_u64 this)
  have HRI := Lib.hid hright; have HHL := Lib.hid hhl
  clear hvs hhs hvl hhl hright KO HB0 HB1 HB2 HB3
  go_wp2_with fail
  go_loopw [12, 13] (fun s i wr => ∃ k : Nat, i = .int .i64 k ∧ k ≤ 4 ∧ wr.ownsRow w3.heap.size 23 1 s k ((hs.take k).map fun x => .int .u64 x) ∧ Below w3.heap.size w3 wr) (fun _ i _ => 4 - (intOf i).toNat)
  case atStart => exact ⟨0, rfl, by decide, World.ownsRow_nil _ _ _ _, Below.refl _ _⟩
  case round =>
    obtain ⟨k, rfl, hk, hrow, hB⟩ := hrel
    have HB := Lib.hid hB; have HROW := Lib.hid hrow
    clear hB hrow
    by_cases hlt : k < 4
    · have hk5 : (k : Int) < 5 := by omega
      have hcell := KV.out wr (btrans L3.out (Nat.le_refl _) HB.out) k hlt
      have hcan := HCV.out k hlt
      have hT : hs.take (k + 1) = hs.take k ++ [canonVal (vs.getD k 0)] := by rw [List.take_add_one, hcan]; rfl
      have hCC := fun W' => vCanon_any W' _ (HU.out k hlt)
      have HCC := Lib.hid hCC; have HT := Lib.hid hT
      clear hcan hT hCC
      generalize canonVal (vs.getD k 0) = y1 at *
      generalize vs.getD k 0 = y0 at *
      have hsz := HB.out.size
      go_wp2_with fail
      refine (HCC.out _).mono ?_
      rintro e w0 ⟨rfl, rfl⟩
      go_wp2_with (at_builtin; refine wpList_append_own _ rfl _ _ 33 rfl w3.heap.size 23 i0 (.int .u64 0) 1 8 Try.underlying33 hi hz0 hz1 hz2 rfl (by decide) _ _ ((hs.take k).map fun x => .int .u64 x) rfl (ownsRow_only HROW.out (Only.empty ((Below.refl wr.heap.size wr).alloc (Nat.le_refl _) _) (Nat.le_refl _)) (fun _ _ h => h)) ⟨wr.heap.size, 0, none⟩ 1 1 [.int .u64 y1] rfl rfl ?c1 ?c2 ?c3 ?c4 ?c5 ?_)
      case c1 =>
        intro j v' hv
        rw [Addr.add_lit]
        have := blk_cell (blk_new wr (.cells #[.int .u64 y1] 23)) j
        rw [Nat.zero_add, this]
        simpa using hv
      case c2 => simp [Value.oneCell']
      case c3 => unfold maxLen; omega
      case c4 => omega
      case c5 => (try simp) <;> omega
      intro v' w5 hown hgr _
      have hB2 : Below w3.heap.size w3 w5 := (HB.out.alloc hsz _).grown hgr (by simp; omega) (fun k hk => (HROW.out.lt k hk).1)
      have HB2 := Lib.hid hB2
      have HP2 := Lib.hid (show w5.ownsRow w3.heap.size 23 1 v' (k + 1) ((hs.take (k + 1)).map fun x => .int .u64 x) from by rw [HT.out, List.map_append, List.map_take]; exact hown)
      clear hown hgr hB2 hcell
      go_wp2_with fail
      exact ⟨⟨k + 1, by go_num, by omega, HP2.out, HB2.out⟩, by simp [intOf]; omega⟩
    · obtain rfl : k = 4 := by omega
      have hrow := HROW.out
      rw [List.take_of_length_le (by rw [HHL.out]; exact Nat.le_refl _)] at hrow
      rcases hrow.2 with ⟨h0, h1⟩ | ⟨g, hcap, cur, rfl, hgb, hgw, _⟩
      · cases h1
      have hgl := blk_lt hgw
      have hwb := HBX.out
      have lwr := btrans L3.out (Nat.le_refl _) HB.out
      have HH := Lib.hid (show Hand w wr lb sb g hcap F [] hs Seq.st0 from
        ⟨lock_below HL3.out HB.out, HR3.out.below HB.out, ownsRow_base hrow (fun k hk => by have : g = k := (by simpa [Value.ownBlock] using hk); omega), L0.out.trans (lwr.mono L0.out.size), fun k hk => by have := HFL.out k hk; omega, fun hk => by have := HFL.out _ hk; omega, fun hk => by have := HFL.out _ hk; omega, by omega, by omega, by omega⟩)
      have L4 := Lib.hid lwr
      clear hwb hrow hgw HROW HB HL3 HR3 hgb lwr
      go_wp2_with fail
      simp only [Int.cast_ofNat_Int]
      go_loopw [14] (fun i wr => ∃ (k : Nat) (F : Nat → Prop) (es : List Rd.Ent), i = .int .i64 k ∧ k ≤ len ∧ k ≤ 8 ∧ es.length ≤ k ∧ Reads es hs ∧ Hand w wr lb sb g hcap F es hs Seq.st0) (fun i _ => len - (intOf i).toNat)
      case atStart => exact ⟨0, F, [], rfl, Nat.zero_le _, Nat.zero_le _, Nat.le_refl _, Reads.nil hs, HH.out⟩
      case round =>
        obtain ⟨k, F, es, rfl, hkl, hk8, hel, hRd, hH⟩ := hrel
        have HR := Lib.hid hRd; have H := Lib.hid hH
        clear hRd hH
        by_cases hlt : k < len ∧ k < 8
        · obtain ⟨hlt, h8⟩ := hlt
          obtain ⟨rb, roff, rfl, hc⟩ := HD.out.resolve_left (by omega)
          obtain ⟨y, c0, hy0, hy1⟩ := hc k hlt
          replace c0 := bkeep H.out.lo c0
          have hyw : IntKind.i64.wrap y = y := by rw [IntKind.wrap_i64]; omega
          obtain ⟨t, ht⟩ : ∃ t : Nat, (t : Int) = y % 4 := ⟨(y % 4).toNat, by omega⟩
          have ht4 : t < 4 := by omega
          have ht4' : (t : Int) < 4 := by omega
          have hy2 : y % 4 = (t : Int) := ht.symm
          have hHeap := H.out.h.heap HHU.out
          obtain ⟨g', off', hg', hcl⟩ := hHeap.2.1.resolve_left (by decide)
          injection hg' with hg'
          injection hg' with hg1 hg2 _
          subst hg1 hg2
          have c1 := hcl t ht4
          rw [Nat.zero_add] at c1
          have hE := add_ok HRI.out (Nat.lt_of_le_of_lt hel h8) t ht4
          have hAdd := Rd.add_any wr sb F es H.out.r t (hs.getD t 0) 0 (hHeap.2.2 t)
          rw [hE] at hAdd
          have HADD := Lib.hid hAdd
          have HR2 := Lib.hid (HR.out.add hHeap.2.2 t ht4)
          have hlen2 := addS_len es t (hs.getD t 0) 0
          clear hE hAdd hcl hc ht hHeap
          go_wp2_with fail
          refine HADD.out.mono ?_
          rintro e w6 ⟨rfl, hS6, o6⟩
          have H6 := Lib.hid (H.out.add rfl hS6 o6)
          clear hS6 o6 c0 c1 HADD
          go_wp2_with fail
          exact ⟨⟨k + 1, _, _, by go_num, by omega, by omega, by omega, HR2.out, H6.out⟩, by simp [intOf]; omega⟩
        · by_cases hlt2 : k < len
          · have h8 : ¬ ((k : Int) < 8) := by omega
            clear hlt
            go_wp2_with fail
            refine (Rd.valid_any _ sb F es H.out.r HR.out.wf (some ⟨g, 0, none⟩) 4 hcap hs (H.out.h.heap HHU.out) (by decide)).mono ?_; rw [HR.out.valid HHL.out HRI.out]; rintro e w6 ⟨rfl, l6⟩; have H6 := Lib.hid (H.out.below l6); clear l6 H; go_wp2_with fail; refine (Seq.since_any _ lb Seq.st0 H6.out.l 0).mono ?_; rw [show (Seq.st0.cnt == 0) = true from rfl]; rintro e w7 ⟨rfl, rfl⟩; go_wp2_with fail; refine (Seq.try_any _ lb Seq.st0 Seq.inv0 H6.out.l 2 0).mono ?_; rintro e w7 ⟨rfl, m7, o7⟩; rw [show Seq.st0.tryE 2 0 = 0 from rfl]; have H7 := Lib.hid (H6.out.lock (s' := ⟨some 2, 1⟩) m7 o7); clear m7 o7 H6; go_wp2_with fail; rw [hx2]; go_wp2_with fail; refine (Rd.get_any _ sb F es H7.out.r q ⟨by omega, by omega⟩).mono ?_; rintro e w8 ⟨rfl, l8⟩; have H8 := Lib.hid (H7.out.below l8); obtain ⟨z0, z1, z2, hz⟩ := Rd.ent_agg es q; rw [hz]; clear l8 H7 hz; have HBE := Lib.hid (HR.out.behind HHL.out HRI.out q hq4 (canonVal v4) (canon_right v4)); have HN9 := Lib.hid (show ∀ i, 0 ≤ (hs.set q (canonVal v4)).getD i 0 ∧ (hs.set q (canonVal v4)).getD i 0 < 18446744073709551616 from fun i => (by rw [getD_set HHL.out q hq4]; split; (exact canon_u64 HB4.out); exact (H8.out.h.heap HHU.out).2.2 i)); have c1 := hrow_cell H8.out.h q hq4; have f1 := hrow_free H8.out.h q; have hg8 := World.block_lt_of_cell? _ _ c1; have H9 := Lib.hid ((H8.out.store q hq4 (canonVal v4)).below (w2 := (w8.setCell ⟨g, q, none⟩ (.int .u64 (canonVal v4))).alloc (.cells #[.int .i64 z0, .int .u64 z1, .int .u64 z2] 37)) (by repeat (first | (with_reducible exact Below.refl _ _) | (with_reducible apply Below.drew) | (with_reducible refine below_drewN ?_ _) | (with_reducible refine below_alloc' ?_ ?_ _; (focus ((try simp) <;> omega))) | (with_reducible refine below_set' ?_ ?_ _; (focus ((try simp) <;> omega)))))); generalize (Rd.getE es (q : Int)).isSome = mine at HBE ⊢; go_wp2_with fail; refine (vCanon_any _ v4 HB4.out).mono ?_; rintro e w9 ⟨rfl, rfl⟩; go_wp2_with fail; refine (Seq.unlock_any _ lb ⟨some 2, 1⟩ (Seq.inv_try Seq.inv0 2 0) H9.out.l 2).mono ?_; rintro e w10 ⟨rfl, m10, o10⟩; rw [show (Seq.St.mk (some 2) 1).freeE 2 = 0 from rfl]; have H10 := Lib.hid (H9.out.lock (s' := ⟨none, 2⟩) m10 o10); clear m10 o10 H9 H8 c1 f1 hg8; go_wp2_with fail; refine (Seq.since_any _ lb ⟨none, 2⟩ H10.out.l 0).mono ?_; rw [show ((Seq.St.mk none 2).cnt == 0) = false from rfl]; rintro e w11 ⟨rfl, rfl⟩; go_wp2_with fail; refine (Seq.count_any _ lb ⟨none, 2⟩ H10.out.l).mono ?_; rintro e w11 ⟨rfl, rfl⟩; go_wp2_with fail; refine (Rd.valid_any _ sb F es H10.out.r HR.out.wf (some ⟨g, 0, none⟩) 4 hcap _ ⟨by rw [List.length_set, HHL.out], (hrow_heap H10.out.h), HN9.out⟩ (by decide)).mono ?_; rw [HBE.out]; rintro e w12 ⟨rfl, l12⟩; have H12 := Lib.hid (H10.out.below l12); have c2 := hrow_cell H12.out.h q hq4; rw [getD_set HHL.out q hq4, if_pos rfl] at c2; clear l12 H10; generalize canonVal v4 = cv at *; cases mine; (go_wp2_with fail; go_ret; exact ⟨by simp, H12.out.lo⟩); cases huv : (cv == hs.getD q 0); (go_wp2_with fail; go_ret; exact ⟨by simp, H12.out.lo⟩); (go_wp2_with fail; go_ret; exact ⟨by simp, H12.out.lo⟩)
          · clear hlt
            go_wp2_with fail
            refine (Rd.valid_any _ sb F es H.out.r HR.out.wf (some ⟨g, 0, none⟩) 4 hcap hs (H.out.h.heap HHU.out) (by decide)).mono ?_; rw [HR.out.valid HHL.out HRI.out]; rintro e w6 ⟨rfl, l6⟩; have H6 := Lib.hid (H.out.below l6); clear l6 H; go_wp2_with fail; refine (Seq.since_any _ lb Seq.st0 H6.out.l 0).mono ?_; rw [show (Seq.st0.cnt == 0) = true from rfl]; rintro e w7 ⟨rfl, rfl⟩; go_wp2_with fail; refine (Seq.try_any _ lb Seq.st0 Seq.inv0 H6.out.l 2 0).mono ?_; rintro e w7 ⟨rfl, m7, o7⟩; rw [show Seq.st0.tryE 2 0 = 0 from rfl]; have H7 := Lib.hid (H6.out.lock (s' := ⟨some 2, 1⟩) m7 o7); clear m7 o7 H6; go_wp2_with fail; rw [hx2]; go_wp2_with fail; refine (Rd.get_any _ sb F es H7.out.r q ⟨by omega, by omega⟩).mono ?_; rintro e w8 ⟨rfl, l8⟩; have H8 := Lib.hid (H7.out.below l8); obtain ⟨z0, z1, z2, hz⟩ := Rd.ent_agg es q; rw [hz]; clear l8 H7 hz; have HBE := Lib.hid (HR.out.behind HHL.out HRI.out q hq4 (canonVal v4) (canon_right v4)); have HN9 := Lib.hid (show ∀ i, 0 ≤ (hs.set q (canonVal v4)).getD i 0 ∧ (hs.set q (canonVal v4)).getD i 0 < 18446744073709551616 from fun i => (by rw [getD_set HHL.out q hq4]; split; (exact canon_u64 HB4.out); exact (H8.out.h.heap HHU.out).2.2 i)); have c1 := hrow_cell H8.out.h q hq4; have f1 := hrow_free H8.out.h q; have hg8 := World.block_lt_of_cell? _ _ c1; have H9 := Lib.hid ((H8.out.store q hq4 (canonVal v4)).below (w2 := (w8.setCell ⟨g, q, none⟩ (.int .u64 (canonVal v4))).alloc (.cells #[.int .i64 z0, .int .u64 z1, .int .u64 z2] 37)) (by repeat (first | (with_reducible exact Below.refl _ _) | (with_reducible apply Below.drew) | (with_reducible refine below_drewN ?_ _) | (with_reducible refine below_alloc' ?_ ?_ _; (focus ((try simp) <;> omega))) | (with_reducible refine below_set' ?_ ?_ _; (focus ((try simp) <;> omega)))))); generalize (Rd.getE es (q : Int)).isSome = mine at HBE ⊢; go_wp2_with fail; refine (vCanon_any _ v4 HB4.out).mono ?_; rintro e w9 ⟨rfl, rfl⟩; go_wp2_with fail; refine (Seq.unlock_any _ lb ⟨some 2, 1⟩ (Seq.inv_try Seq.inv0 2 0) H9.out.l 2).mono ?_; rintro e w10 ⟨rfl, m10, o10⟩; rw [show (Seq.St.mk (some 2) 1).freeE 2 = 0 from rfl]; have H10 := Lib.hid (H9.out.lock (s' := ⟨none, 2⟩) m10 o10); clear m10 o10 H9 H8 c1 f1 hg8; go_wp2_with fail; refine (Seq.since_any _ lb ⟨none, 2⟩ H10.out.l 0).mono ?_; rw [show ((Seq.St.mk none 2).cnt == 0) = false from rfl]; rintro e w11 ⟨rfl, rfl⟩; go_wp2_with fail; refine (Seq.count_any _ lb ⟨none, 2⟩ H10.out.l).mono ?_; rintro e w11 ⟨rfl, rfl⟩; go_wp2_with fail; refine (Rd.valid_any _ sb F es H10.out.r HR.out.wf (some ⟨g, 0, none⟩) 4 hcap _ ⟨by rw [List.length_set, HHL.out], (hrow_heap H10.out.h), HN9.out⟩ (by decide)).mono ?_; rw [HBE.out]; rintro e w12 ⟨rfl, l12⟩; have H12 := Lib.hid (H10.out.below l12); have c2 := hrow_cell H12.out.h q hq4; rw [getD_set HHL.out q hq4, if_pos rfl] at c2; clear l12 H10; generalize canonVal v4 = cv at *; cases mine; (go_wp2_with fail; go_ret; exact ⟨by simp, H12.out.lo⟩); cases huv : (cv == hs.getD q 0); (go_wp2_with fail; go_ret; exact ⟨by simp, H12.out.lo⟩); (go_wp2_with fail; go_ret; exact ⟨by simp, H12.out.lo⟩)
end Go.Proofs.Ytlgpdgmpbglkhaa.Tsn
