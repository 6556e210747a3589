/- Merge, All, Fork of a log. -/
import Derived.Test.YtgjemjogncnbnaaWriN
namespace Go.Proofs.Ytgjemjogncnbnaa.Wri
open Go.RowKit
set_option linter.unusedSimpArgs false
set_option linter.unusedVariables false
set_option maxRecDepth 50000

/-- a frame over another one -/
def mergeF (y x : Frm) : Frm := x.foldl (fun a p => putF a p.1 p.2) y
theorem mergeF_take (y x : Frm) (k : Nat) (p : Int × Int) (h : x[k]? = some p) : mergeF y (x.take (k + 1)) = putF (mergeF y (x.take k)) p.1 p.2 := by
  unfold mergeF
  rw [List.take_add_one, h]
  simp [List.foldl_append]
theorem mergeF_len (x : Frm) : ∀ y, (mergeF y x).length ≤ y.length + x.length := by
  induction x with
  | nil => intro y; simp [mergeF]
  | cons p x ih =>
    intro y
    have h1 := ih (putF y p.1 p.2)
    have h2 := putF_len y p.1 p.2
    show (mergeF (putF y p.1 p.2) x).length ≤ _
    rw [List.length_cons]
    omega
theorem frAt_any {w : World} {v : Value} {f : Frm} (h : FrAt w v f) : ∃ a c, v = .slice a f.length c ∧ (f ≠ [] → ∃ g, a = some ⟨g, 0, none⟩) := by
  rcases frAt_slice h with ⟨rfl, rfl⟩ | ⟨g, cap, rfl⟩
  · exact ⟨none, 0, rfl, fun h => absurd rfl h⟩
  · exact ⟨_, _, rfl, fun _ => ⟨g, rfl⟩⟩
def MergePost (w : World) (b : Nat) (xs : Frs) (e : Ending) (w' : World) : Prop :=
  if xs.length ≤ 1 then e = .returned (.int .i64 8) ∧ w = w'
  else ∃ x y r u, xs = x :: y :: r ∧ e = .returned (.int .i64 0) ∧ Only (fun k => k = b) w w' ∧ LogAt w' b ((u, mergeF y.2 x.2) :: r) ∧ (Fr w u ∨ u = y.1)
set_option maxHeartbeats 1600000 in
theorem merge_any (w : World) (b : Nat) (xs : Frs) (h : LogAt w b xs) (hx4 : ∀ x ∈ xs, x.2.length ≤ 400) : Calls Try.prog 50 #[ptr b] w (MergePost w b xs) := by
  have hP := pop_any w b xs h
  have hblt : b < w.heap.size := by obtain ⟨o, hb, _⟩ := h; exact blk_lt hb
  unfold PopPost at hP
  unfold MergePost
  by_cases h1 : xs.length ≤ 1
  · simp only [if_pos h1] at hP ⊢
    have HP := Lib.hid hP
    clear hP h h1
    go_enter Try.func50, Try.ntmps50
    go_wp2_with fail; refine (HP.out).mono ?_; rintro e w0 ⟨rfl, rfl⟩
    go_wp2_with fail
    go_ret
    exact ⟨rfl, rfl⟩
  · simp only [if_neg h1] at hP ⊢
    have HP := Lib.hid hP
    clear hP h
    go_enter Try.func50, Try.ntmps50
    go_wp2_with fail
    refine HP.out.mono ?_
    rintro e w1 ⟨x, r0, rfl, rfl, ho, hL, hfx⟩
    cases r0 with
    | nil => simp at h1
    | cons y r =>
    have hxl := hx4 x (by simp)
    have hyl := hx4 y (by simp)
    obtain ⟨xv, xf⟩ := x
    obtain ⟨yv, yf⟩ := y
    simp only at hfx hxl hyl
    obtain ⟨xa, xc, rfl, hxg⟩ := frAt_any hfx
    obtain ⟨o, hb, ⟨nb, q, e0, hnn, hfy, hfl, hrr⟩, hl1, hl5⟩ := hL
    obtain ⟨oq, rfl⟩ := hrr.isPtr
    injection e0 with e0
    subst e0
    simp only at hnn hfy
    have b0 := blk_cell hb 0
    have n0 := blk_cell hnn 0; have n1 := blk_cell hnn 1
    simp only [List.getElem?_toArray, List.getElem?_cons_zero, List.getElem?_cons_succ] at b0 n0 n1
    obtain ⟨n, hn⟩ : ∃ n, xf.length = n := ⟨_, rfl⟩
    have HN := Lib.hid hn
    rw [hn] at hxl
    have HFX := Lib.hid hfx; have HFY := Lib.hid hfy; have HB := Lib.hid hb; have HNN := Lib.hid hnn; have HRR := Lib.hid hrr; have HO := Lib.hid ho; have HXG := Lib.hid hxg
    have hb1 := blk_lt hb
    have hwr := ho.size
    rw [hn]
    clear hfx hfy hb hnn hrr ho hxg HP hn h1 hx4
    go_wp2_with fail
    go_loopw [5, 25] (fun s i wr => ∃ k : Nat, i = .int .i64 k ∧ k ≤ n ∧ FrAt wr s (mergeF yf (xf.take k)) ∧ Below w1.heap.size w1 wr ∧ (Fr w s ∨ s = yv)) (fun _ i _ => n - (intOf i).toNat)
    case atStart => exact ⟨0, rfl, Nat.zero_le _, by simpa [mergeF] using HFY.out, Below.refl _ _, .inr rfl⟩
    case round =>
      obtain ⟨k, rfl, hk, hS, hB, hFr⟩ := hrel
      have HFR := Lib.hid hFr
      clear hFr
      have HB1 := Lib.hid hB; have HS := Lib.hid hS
      by_cases hlt : k < n
      · obtain ⟨p, hp⟩ : ∃ p, xf[k]? = some p := ⟨xf[k]'(by rw [HN.out]; exact hlt), List.getElem?_eq_getElem _⟩
        obtain ⟨g, rfl⟩ := HXG.out (by rintro rfl; have := HN.out; simp at this; omega)
        obtain ⟨c0, c1⟩ := frAt_cell HFX.out hp
        replace c0 := bkeep hB c0; replace c1 := bkeep hB c1
        obtain ⟨pt, pv⟩ := p
        simp only at c0 c1
        have hmt := mergeF_take yf xf k _ hp
        have hml := mergeF_len (xf.take k) yf
        rw [List.length_take] at hml
        have lb : Below wr.heap.size wr (wr.alloc (.cells #[.int .i64 pt, .int .u64 pv] 100)) := by repeat (first | (with_reducible exact Below.refl _ _) | (with_reducible apply Below.drew) | (with_reducible refine below_drewN ?_ _) | (with_reducible refine below_alloc' ?_ ?_ _; (focus ((try simp) <;> omega))) | (with_reducible refine below_set' ?_ ?_ _; (focus ((try simp) <;> omega))))
        have hput := put_any _ _ _ (frAt_below hS lb) (by omega) pt pv
        rw [← hmt] at hput
        have HPUT := Lib.hid hput
        have HL := Lib.hid (btrans hB (Nat.le_refl _) lb)
        clear hp lb hput hmt hB hS HS HB1
        go_wp2_with fail
        refine HPUT.out.mono ?_
        rintro e w2 ⟨fa, fn, fc, rfl, hF2, l2, hfs⟩
        have HFS := Lib.hid (show Fr w (.slice fa fn fc) from fun k hk => Nat.le_trans (Nat.le_trans hwr HL.out.size) (hfs k hk))
        clear hfs
        have HF2 := Lib.hid hF2
        have HL2 := Lib.hid (btrans HL.out (Nat.le_refl _) l2)
        clear hF2 l2 HPUT HL
        go_wp2_with fail
        exact ⟨⟨k + 1, by go_num, by omega, HF2.out, HL2.out, .inl HFS.out⟩, by simp [intOf]; omega⟩
      · obtain rfl : k = n := by omega
        have hb2 := bblk hB HB.out
        have hnn2 := bblk hB HNN.out
        have hfr := blk_free hb2
        have b0 := blk_cell hb2 0
        have n1 := blk_cell hnn2 1
        simp only [List.getElem?_toArray, List.getElem?_cons_zero, List.getElem?_cons_succ] at b0 n1
        rw [List.take_of_length_le (by rw [HN.out]; exact Nat.le_refl _)] at hS
        obtain ⟨sa, sc, rfl, _⟩ := frAt_any hS
        have hml := mergeF_len xf yf
        rw [HN.out] at hml
        have HS := Lib.hid hS; have HB2 := Lib.hid hb2
        obtain ⟨z, hz⟩ : ∃ z, (mergeF yf xf).length = z := ⟨_, rfl⟩
        rw [hz] at hml ⊢
        have HZ := Lib.hid hz
        clear hS hb2 hnn2 hz
        go_wp2_with fail
        refine (push_any wr oq sa z sc).mono ?_
        rintro e w2 ⟨rfl, rfl⟩
        have lb : Below wr.heap.size wr (wr.alloc (.cells #[.slice sa z sc, .pointer oq] 127)) := by repeat (first | (with_reducible exact Below.refl _ _) | (with_reducible apply Below.drew) | (with_reducible refine below_drewN ?_ _) | (with_reducible refine below_alloc' ?_ ?_ _; (focus ((try simp) <;> omega))) | (with_reducible refine below_set' ?_ ?_ _; (focus ((try simp) <;> omega))))
        have hnew := blk_new wr (.cells #[.slice sa z sc, .pointer oq] 127)
        replace b0 := bkeep lb b0
        have hb3 := bblk lb HB2.out
        have hfr3 := blk_free hb3
        have LB := Lib.hid (btrans hB (Nat.le_refl _) lb)
        have HS3 := Lib.hid (frAt_below HS.out lb)
        have HB3 := Lib.hid hb3; have HNEW := Lib.hid hnew
        clear lb hnew hb3 hB HB1 HS
        generalize wr.alloc (.cells #[.slice sa z sc, .pointer oq] 127) = w3 at *
        go_wp2_with fail
        go_ret
        have hA := blk_set HB3.out 0 (ptr wr.heap.size)
        have hS4 : StackAt w3 (ptr wr.heap.size) ((.slice sa z sc, mergeF yf xf) :: r) := ⟨wr.heap.size, .pointer oq, rfl, HNEW.out, (show Value.slice sa (mergeF yf xf).length sc = .slice sa z sc by rw [HZ.out]) ▸ HS3.out, by show (mergeF yf xf).length ≤ 1000; have := HZ.out; omega, HRR.out.below LB.out⟩
        have hS5 := StackAt.set (i := 0) (v := ptr wr.heap.size) HB3.out hS4
        refine ⟨_, _, r, _, rfl, rfl, ?_, ⟨some ⟨wr.heap.size, 0, none⟩, ?_, hS5, by simp, by rw [List.length_cons] at hl5 ⊢; exact hl5⟩, (show Value.slice sa (mergeF yf xf).length sc = .slice sa z sc by rw [HZ.out]) ▸ HFR.out⟩
        · exact HO.out.after ((Only.of_below (S := fun k => k = b) LB.out (fun k hk h => by omega)).setCell (p := ⟨b, 0, none⟩) (.inr rfl) _) (fun i _ h => h)
        · rw [hA]; simp
/-! ### All -/
/-- what is written, of the first k variables -/
def allK (g : Int → Option Int) : Nat → Frm
  | 0 => []
  | k + 1 => allK g k ++ (match g k with | some v => [((k : Int), v)] | none => [])
theorem allK_len (g : Int → Option Int) (k : Nat) : (allK g k).length ≤ k := by
  induction k with
  | zero => simp [allK]
  | succ k ih => simp only [allK, List.length_append]; split <;> simp <;> omega
/-- a row of pairs in memory that was made since -/
abbrev PairsAt (B : Nat) (w : World) (v : Value) (f : Frm) : Prop := w.ownsRow B 100 2 v f.length (pairVals f)
def AllPost (w : World) (g : Int → Option Int) (e : Ending) (w' : World) : Prop :=
  ∃ v, e = .returned v ∧ PairsAt w.heap.size w' v (allK g 12) ∧ Below w.heap.size w w'
theorem pairs_grow {B : Nat} {w w' : World} {v : Value} {f : Frm} (h : PairsAt B w v f) (l : Below w.heap.size w w') : PairsAt B w' v f := ownsRow_only h (Only.empty l (Nat.le_refl _)) (fun _ _ h => h)
set_option maxHeartbeats 1600000 in
theorem all_any (w : World) (b : Nat) (xs : Frs) (h : LogAt w b xs) : Calls Try.prog 39 #[ptr b] w (AllPost w (getS xs)) := by
  obtain ⟨i0, hi, hz0, hz1, hz2⟩ := info_parts infoP
  have HL := Lib.hid h
  clear h
  unfold AllPost
  go_enter Try.func39, Try.ntmps39
  go_wp2_with fail
  go_loopw [3, 7] (fun s i wr => ∃ k : Nat, i = .int .i64 k ∧ PairsAt w.heap.size wr s (allK (getS xs) k) ∧ k ≤ 12 ∧ Below w.heap.size w wr) (fun _ i _ => 12 - (intOf i).toNat)
  case atStart => exact ⟨0, rfl, World.ownsRow_nil _ _ _ _, by decide, Below.refl _ _⟩
  case round =>
    obtain ⟨k, rfl, hR, hk, hB⟩ := hrel
    have HB := Lib.hid hB; have HR := Lib.hid hR
    clear hB hR
    by_cases hlt : k < 12
    · go_wp2_with fail
      refine (lget_any wr b xs (HL.out.below HB.out) k).mono ?_
      rintro e w1 ⟨rfl, l1⟩
      have HB1 := Lib.hid (btrans HB.out (Nat.le_refl _) l1)
      have HR1 := Lib.hid (pairs_grow HR.out l1)
      clear l1 HB HR
      cases hg : getS xs k with
      | none =>
        have hA : allK (getS xs) (k + 1) = allK (getS xs) k := by simp [allK, hg]
        have HA := Lib.hid hA
        clear hA hg
        simp only [Option.getD_none, Option.isSome_none]
        go_wp2_with fail
        exact ⟨⟨k + 1, by go_num, by rw [HA.out]; exact HR1.out, by omega, HB1.out⟩, by simp [intOf]; omega⟩
      | some v =>
        have hA : allK (getS xs) (k + 1) = allK (getS xs) k ++ [((k : Int), v)] := by simp [allK, hg]
        have HA := Lib.hid hA
        have hlen := allK_len (getS xs) k
        have hsz := HB1.out.size
        clear hA hg
        simp only [Option.getD_some, Option.isSome_some]
        go_wp2_with (at_builtin; refine wpList_append_own _ rfl _ _ 95 rfl w.heap.size 100 i0 (.agg #[.int .i64 0, .int .u64 0]) 2 16 Try.underlying95 hi hz0 hz1 hz2 rfl (by decide) _ _ (pairVals (allK (getS xs) k)) rfl (pairs_grow HR1.out ((Below.refl w1.heap.size w1).alloc (Nat.le_refl _) _)) ⟨w1.heap.size, 0, none⟩ 1 1 [.int .i64 k, .int .u64 v] rfl rfl ?c1 ?c2 ?c3 ?c4 ?c5 ?_)
        case c1 =>
          intro j v' hv
          rw [Addr.add_lit]
          have := blk_cell (blk_new w1 (.cells #[.int .i64 k, .int .u64 v] 100)) j
          rw [Nat.zero_add, this]
          simpa using hv
        case c2 => simp [Value.oneCell']
        case c3 => unfold maxLen; omega
        case c4 => omega
        case c5 => simp; omega
        intro v' w2 hown hgr _
        have hB2 : Below w.heap.size w w2 := (HB1.out.alloc hsz _).grown hgr (by simp; omega) (fun k hk => (HR1.out.lt k hk).1)
        have hP2 : PairsAt w.heap.size w2 v' (allK (getS xs) (k + 1)) := by
          unfold PairsAt
          rw [HA.out, pairVals_append, List.length_append]
          exact hown
        have HB2 := Lib.hid hB2; have HP2 := Lib.hid hP2
        clear hown hgr hB2 hP2
        go_wp2_with fail
        exact ⟨⟨k + 1, by go_num, HP2.out, by omega, HB2.out⟩, by simp [intOf]; omega⟩
    · obtain rfl : k = 12 := by omega
      go_wp2_with fail
      go_ret
      exact ⟨_, rfl, HR.out, HB.out⟩
/-! ### Fork -/
end Go.Proofs.Ytgjemjogncnbnaa.Wri
