/- Frames: push, get, put; right values. -/
import Derived.Test.YtgjemjogncnbnaaWriM
namespace Go.Proofs.Ytgjemjogncnbnaa.Wri
open Go.RowKit
set_option linter.unusedSimpArgs false
set_option linter.unusedVariables false
set_option maxRecDepth 50000

theorem infoP : (Try.prog.info? 100).map (fun i => (i.zero, i.size, i.bytes)) = some (some (.agg #[.int .i64 0, .int .u64 0]), 2, 16) := by kernel_rfl
theorem push_any (w : World) (o : Option Addr) (a : Option Addr) (n c : Nat) : Calls Try.prog 55 #[.pointer o, .slice a n c] w fun e w' => e = .returned (ptr w.heap.size) ∧ w' = w.alloc (.cells #[.slice a n c, .pointer o] 127) := by
  go_enter Try.func55, Try.ntmps55
  go_wp2_with fail
  go_ret
  exact ⟨rfl, rfl⟩
theorem get_any (w : World) (v : Value) (f : Frm) (h : FrAt w v f) (hl : f.length ≤ 1000) (t : Int) : Calls Try.prog 45 #[v, .int .i64 t] w fun e w' => e = .returned (.tuple #[.int .u64 ((getF f t).getD 0), .bool (getF f t).isSome]) ∧ Below w.heap.size w w' := by
  have HF := Lib.hid h
  rcases frAt_slice h with ⟨rfl, rfl⟩ | ⟨g, cap, rfl⟩
  · clear h
    go_enter Try.func45, Try.ntmps45
    go_wp2_with fail
    go_loopw [10] (fun i wr => i = .int .i64 0 ∧ wr = w) (fun i _ => 0)
    case atStart => exact ⟨rfl, rfl⟩
    case round =>
      obtain ⟨rfl, rfl⟩ := hrel
      go_wp2_with fail
      go_ret2
      exact ⟨rfl, Below.refl _ _⟩
  · clear h
    obtain ⟨n, hn⟩ : ∃ n, f.length = n := ⟨_, rfl⟩
    have HN := Lib.hid hn
    rw [hn] at hl HF
    rw [hn]
    clear hn
    go_enter Try.func45, Try.ntmps45
    go_wp2_with fail
    go_loopw [10] (fun i wr => ∃ k : Nat, i = .int .i64 k ∧ k ≤ n ∧ Below w.heap.size w wr ∧ ∀ j p, j < k → f[j]? = some p → p.1 ≠ t) (fun i _ => n - (intOf i).toNat)
    case atStart => exact ⟨0, rfl, Nat.zero_le _, Below.refl _ _, fun j p hj => by omega⟩
    case round =>
      obtain ⟨k, rfl, hk, hB, hno⟩ := hrel
      have HB := Lib.hid hB; have HNO := Lib.hid hno
      clear hB hno
      by_cases hlt : k < n
      · obtain ⟨p, hp⟩ : ∃ p, f[k]? = some p := ⟨f[k]'(by rw [HN.out]; exact hlt), List.getElem?_eq_getElem _⟩
        obtain ⟨c0, c1⟩ := frAt_cell (n := n) HF.out hp
        replace c0 := bkeep HB.out c0; replace c1 := bkeep HB.out c1
        obtain ⟨pt, pv⟩ := p
        simp only at c0 c1
        have lb : Below wr.heap.size wr (wr.alloc (.cells #[.int .i64 pt, .int .u64 pv] 100)) := by repeat (first | (with_reducible exact Below.refl _ _) | (with_reducible apply Below.drew) | (with_reducible refine below_drewN ?_ _) | (with_reducible refine below_alloc' ?_ ?_ _; (focus ((try simp) <;> omega))) | (with_reducible refine below_set' ?_ ?_ _; (focus ((try simp) <;> omega))))
        have HL := Lib.hid (btrans HB.out (Nat.le_refl _) lb)
        have HP := Lib.hid hp
        clear hp lb
        by_cases he : pt = t
        · subst he
          have hg := getF_at f k pt pv HP.out HNO.out
          have HG := Lib.hid hg
          clear hg
          go_wp2_with fail
          go_ret2
          exact ⟨by rw [HG.out]; rfl, HL.out⟩
        · have hq : (pt == t) = false := by simpa using he
          have hno' : ∀ j p, j < k + 1 → f[j]? = some p → p.1 ≠ t := fun j p hj hjp => by
            by_cases hjk : j = k
            · subst hjk; rw [HP.out] at hjp; injection hjp with e; rw [← e]; exact he
            · exact HNO.out j p (by omega) hjp
          have HNO2 := Lib.hid hno'
          clear hno' he
          go_wp2_with fail
          exact ⟨⟨k + 1, by go_num, by omega, HL.out, HNO2.out⟩, by simp [intOf]; omega⟩
      · have hg := getF_none f t (fun j p hj hjp => HNO.out j p (by have := HN.out; omega) hjp)
        have HG := Lib.hid hg
        clear hg
        go_wp2_with fail
        go_ret2
        exact ⟨by rw [HG.out]; rfl, HB.out⟩

/-! ### Clone -/
theorem cloneF_any (w : World) (v : Value) (n : Nat) (xs : List Value) (h : w.ownsRow 0 100 2 v n xs) (hn : n ≤ 1000) (h1 : ∀ u ∈ xs, u.oneCell' = true) : Calls Try.prog 70 #[v] w fun e w' =>
    ∃ v', e = .returned v' ∧ w'.ownsRow w.heap.size 100 2 v' n xs ∧ Below w.heap.size w w' := by
  obtain ⟨i0, hi, hz0, hz1, hz2⟩ := info_parts infoP
  have hnil : ∀ (a : Option Addr) (l c : Nat) (w : World), (binOp .eql 107 (.slice a l c) (.slice none 0 0)).run Try.prog w = .ok (.bool a.isNone) w := fun a l c w => Lib.run_eql_slice_nil (P := Try.prog) w 107 100 a l c 0 0 Try.underlying107
  rcases h.2 with ⟨rfl, rfl⟩ | ⟨g, cap, cur, rfl, _, hg, _⟩
  · have h0 : w.ownsRow w.heap.size 100 2 (.slice none 0 0) 0 xs := ⟨h.1, .inl ⟨rfl, rfl⟩⟩
    have H := Lib.hid h0; clear h0 h h1 hn
    go_enter Try.func70, Try.ntmps70
    go_wp2
    go_ret
    exact ⟨_, rfl, H.out, Below.refl _ _⟩
  · have hl : xs.length = n * 2 := h.1
    have hE : (w.alloc (.cells #[] 100)).ownsRow w.heap.size 100 2 (.slice (some ⟨w.heap.size, 0, none⟩) 0 0) 0 [] := by
      have := World.ownsRow_lit (base := w.heap.size) (e := 100) (size := 2) w #[] 0 (Nat.le_refl _) (by decide) (by simp)
      simpa using this
    have hs := h.cells (g := g) rfl
    have hglt := blk_lt hg
    have HS := Lib.hid hs; have H1 := Lib.hid h1; have HE := Lib.hid hE; have HL := Lib.hid hl
    clear hs h1 hE hl h hg
    go_enter Try.func70, Try.ntmps70
    go_wp2_with (at_builtin; refine wpList_append_own _ rfl _ _ 107 rfl w.heap.size 100 i0 (.agg #[.int .i64 0, .int .u64 0]) 2 16 Try.underlying107 hi hz0 hz1 hz2 rfl (by decide) _ 0 [] rfl HE.out ⟨g, 0, none⟩ n cap xs rfl HL.out ?c1 H1.out ?c3 ?c4 ?c5 ?_)
    case c1 =>
      intro j u hu
      have := HS.out j u hu
      rw [Addr.add_lit] at this ⊢
      exact bkeep ((Below.refl _ _).alloc (Nat.le_refl _) _) this
    case c3 => unfold maxLen; omega
    case c4 => omega
    case c5 => simp
    intro v' w1 hown hgr _
    have hB : Below w.heap.size w w1 := ((Below.refl _ w).alloc (Nat.le_refl _) (.cells #[] 100)).grown hgr (by simp) (by simp [Value.ownBlock])
    have hW := Lib.hid hown; have HB := Lib.hid hB
    clear hown hgr hB HS H1 HE
    go_wp2
    go_ret
    exact ⟨_, rfl, by simpa using hW.out, HB.out⟩
/-! ### put -/
theorem putF_len (f : Frm) (t v : Int) : (putF f t v).length ≤ f.length + 1 := by
  induction f with
  | nil => simp [putF]
  | cons p f ih =>
    unfold putF
    split
    · simp
    · simp; omega
theorem put_any (w : World) (v : Value) (f : Frm) (h : FrAt w v f) (hl : f.length ≤ 900) (t u : Int) : Calls Try.prog 66 #[v, .agg #[.int .i64 t, .int .u64 u]] w fun e w' =>
    ∃ a n c, e = .returned (.slice a n c) ∧ FrAt w' (.slice a n c) (putF f t u) ∧ Below w.heap.size w w' ∧ Fr w (.slice a n c) := by
  obtain ⟨i0, hi, hz0, hz1, hz2⟩ := info_parts infoP
  obtain ⟨n, hn⟩ : ∃ n, f.length = n := ⟨_, rfl⟩
  have HN := Lib.hid hn
  have HF := Lib.hid h
  have lb : Below w.heap.size w (w.alloc (.cells #[.int .i64 t, .int .u64 u] 100)) := by repeat (first | (with_reducible exact Below.refl _ _) | (with_reducible apply Below.drew) | (with_reducible refine below_drewN ?_ _) | (with_reducible refine below_alloc' ?_ ?_ _; (focus ((try simp) <;> omega))) | (with_reducible refine below_set' ?_ ?_ _; (focus ((try simp) <;> omega))))
  have hbx := blk_new w (.cells #[.int .i64 t, .int .u64 u] 100)
  have hF0 := Lib.hid (frAt_below h lb)
  have HB0 := Lib.hid lb; have HBX := Lib.hid hbx
  clear h lb hbx hn
  go_enter Try.func66, Try.ntmps66
  go_wp2_with fail
  generalize w.alloc (.cells #[.int .i64 t, .int .u64 u] 100) = w0 at *
  refine (cloneF_any w0 v _ _ hF0.out (by omega) (pairVals_one f)).mono ?_
  rintro e w1 ⟨v1, rfl, o1, l1⟩
  have hb1 := bblk l1 HBX.out
  have hsz0 := blk_lt HBX.out
  have HO := Lib.hid o1; have HL1 := Lib.hid (btrans HB0.out (Nat.le_refl _) l1)
  have b0 := blk_cell hb1 0; have b1 := blk_cell hb1 1
  simp only [List.getElem?_toArray, List.getElem?_cons_zero, List.getElem?_cons_succ] at b0 b1
  clear o1 l1 hb1 hF0 HBX HB0 HF
  -- behind the loop: nothing was found
  have HEND := Lib.hid (show (∀ j p, j < f.length → f[j]? = some p → p.1 ≠ t) → putF f t u = f ++ [(t, u)] from putF_new f t u)
  have hrow := HO.out
  rw [HN.out] at hrow
  have HROW := Lib.hid hrow
  have hle := HL1.out.size
  have hn9 : n ≤ 900 := by rw [← HN.out]; exact hl
  clear hrow HO
  rcases HROW.out.2 with ⟨rfl, rfl⟩ | ⟨g, cap, cur, rfl, hg0, hg, _⟩
  · have hf : f = [] := List.length_eq_zero_iff.1 HN.out
    subst hf
    have hE : (w1.alloc (.cells #[.int .i64 t, .int .u64 u] 100)).ownsRow w1.heap.size 100 2 (.slice none 0 0) 0 [] := World.ownsRow_nil _ _ _ _
    have HE := Lib.hid hE
    clear hE
    go_wp2_with fail
    go_loopw [11] (fun i wr => i = .int .i64 0 ∧ wr = w1) (fun i _ => 0)
    case atStart => exact ⟨rfl, rfl⟩
    case round =>
      obtain ⟨rfl, rfl⟩ := hrel
      go_wp2_with (at_builtin; refine wpList_append_own _ rfl _ _ 107 rfl wr.heap.size 100 i0 (.agg #[.int .i64 0, .int .u64 0]) 2 16 Try.underlying107 hi hz0 hz1 hz2 rfl (by decide) _ 0 [] rfl HE.out ⟨wr.heap.size, 0, none⟩ 1 1 [.int .i64 t, .int .u64 u] rfl rfl ?c1 ?c2 ?c3 ?c4 ?c5 ?_)
      case c1 =>
        intro j v hv
        rw [Addr.add_lit]
        have := blk_cell (blk_new wr (.cells #[.int .i64 t, .int .u64 u] 100)) j
        rw [Nat.zero_add, this]
        simpa using hv
      case c2 => simp [Value.oneCell']
      case c3 => unfold maxLen; omega
      case c4 => omega
      case c5 => simp
      intro v' w2 hown hgr _
      have hB : Below w.heap.size w w2 := (HL1.out.alloc hle _).grown hgr (by simp; omega) (by simp [Value.ownBlock])
      obtain ⟨g', cap', rfl⟩ := ownsRow_succ hown
      have HW := Lib.hid hown; have HB := Lib.hid hB
      clear hown hgr hB
      go_wp2_with fail
      go_ret
      exact ⟨_, _, _, rfl, ownsRow_base (base' := 0) HW.out (fun k _ => Nat.zero_le _), HB.out, fun k hk => Nat.le_trans hle (HW.out.lt k hk).1⟩
  · have hgl := blk_lt hg
    have hg1 : w.heap.size ≤ g := by omega
    have hfr := blk_free hg
    clear hg
    go_wp2_with fail
    go_loopw [11] (fun i wr => ∃ k : Nat, i = .int .i64 k ∧ k ≤ n ∧ Below w1.heap.size w1 wr ∧ ∀ j p, j < k → f[j]? = some p → p.1 ≠ t) (fun i _ => n - (intOf i).toNat)
    case atStart => exact ⟨0, rfl, Nat.zero_le _, Below.refl _ _, fun j p hj => by omega⟩
    case round =>
      obtain ⟨k, rfl, hk, hB, hno⟩ := hrel
      have HB := Lib.hid hB; have HNO := Lib.hid hno
      have HR := Lib.hid (ownsRow_only HROW.out (Only.empty hB (Nat.le_refl _)) (fun _ _ h => h))
      have hszr := hB.size
      have b0r := bkeep hB b0; have b1r := bkeep hB b1
      have hfrr : ∀ i, wr.frozen? ⟨g, i, none⟩ = false := fun i => by
        rcases HR.out.2 with ⟨h0, _⟩ | ⟨g2, cap2, cur2, he2, _, hg2, _⟩
        · cases h0
        · injection he2 with e1 _ _
          injection e1 with e1
          injection e1 with e1 _ _
          subst e1
          exact blk_free hg2 i
      clear hB hno
      by_cases hlt : k < n
      · obtain ⟨p, hp⟩ : ∃ p, f[k]? = some p := ⟨f[k]'(by rw [HN.out]; exact hlt), List.getElem?_eq_getElem _⟩
        have hFR : FrAt wr (.slice (some ⟨g, 0, none⟩) n cap) f := by
          have := ownsRow_base (base' := 0) HR.out (fun k _ => Nat.zero_le _)
          unfold FrAt
          rwa [HN.out]
        obtain ⟨c0, c1⟩ := frAt_cell hFR hp
        obtain ⟨pt, pv⟩ := p
        simp only at c0 c1
        have HP := Lib.hid hp; have HFR := Lib.hid hFR
        clear hp hFR
        by_cases he : pt = t
        · subst he
          have hq : (pt == pt) = true := by simp
          have hput := putF_at f k pt pv u HP.out HNO.out
          have hset := row_set (u := .int .u64 u) (k := k * 2 + 1) HR.out (by omega)
          rw [pairVals_set f k pt pv u HP.out] at hset
          have HPUT := Lib.hid hput; have HSET := Lib.hid hset
          clear hput hset
          go_wp2_with fail
          go_quiet (fail)
          go_wp2_with fail
          go_ret
          refine ⟨_, _, _, rfl, ?_, ?_, fun k hk => Nat.le_trans hg1 (Nat.le_of_eq (by simpa [Value.ownBlock] using hk))⟩
          · rw [HPUT.out]
            unfold FrAt
            rw [List.length_set, HN.out]
            exact ownsRow_base (base' := 0) HSET.out (fun k _ => Nat.zero_le _)
          · exact ((btrans HL1.out (Nat.le_refl _) HB.out).trans (below_drewN (Below.refl _ _) _)).setCell (p := ⟨g, k * 2 + 1, none⟩) hg1 _
        · have hq : (pt == t) = false := by simpa using he
          have hno' : ∀ j p, j < k + 1 → f[j]? = some p → p.1 ≠ t := fun j p hj hjp => by
            by_cases hjk : j = k
            · subst hjk; rw [HP.out] at hjp; injection hjp with e; rw [← e]; exact he
            · exact HNO.out j p (by omega) hjp
          have HNO2 := Lib.hid hno'
          clear hno' he
          go_wp2_with fail
          go_quiet (fail)
          go_wp2_with fail
          exact ⟨⟨k + 1, by go_num, by omega, below_drewN HB.out _, HNO2.out⟩, by simp [intOf]; omega⟩
      · have hke : k = n := by omega
        subst hke
        have hput := HEND.out (fun j p hj hjp => HNO.out j p (by rw [← HN.out]; exact hj) hjp)
        have hE : (wr.alloc (.cells #[.int .i64 t, .int .u64 u] 100)).ownsRow w0.heap.size 100 2 (.slice (some ⟨g, 0, none⟩) k cap) k (pairVals f) :=
          ownsRow_only HR.out (Only.alloc (Only.refl (fun _ => False) _) _) (fun _ _ h => h)
        have HE := Lib.hid hE; have HPUT := Lib.hid hput
        clear hE hput
        have hk9 : k ≤ 900 := by have := HN.out; omega
        go_wp2_with (at_builtin; refine wpList_append_own _ rfl _ _ 107 rfl w0.heap.size 100 i0 (.agg #[.int .i64 0, .int .u64 0]) 2 16 Try.underlying107 hi hz0 hz1 hz2 rfl (by decide) _ k (pairVals f) rfl HE.out ⟨wr.heap.size, 0, none⟩ 1 1 [.int .i64 t, .int .u64 u] rfl rfl ?c1 ?c2 ?c3 ?c4 ?c5 ?_)
        case c1 =>
          intro j v hv
          rw [Addr.add_lit]
          have := blk_cell (blk_new wr (.cells #[.int .i64 t, .int .u64 u] 100)) j
          rw [Nat.zero_add, this]
          simpa using hv
        case c2 => simp [Value.oneCell']
        case c3 => unfold maxLen; omega
        case c4 => omega
        case c5 => simp; omega
        intro v' w2 hown hgr _
        have hB : Below w.heap.size w w2 := ((btrans HL1.out (Nat.le_refl _) HB.out).alloc (by omega) _).grown hgr (by simp; omega) (by simp [Value.ownBlock]; omega)
        obtain ⟨g', cap', rfl⟩ := ownsRow_succ hown
        have HW := Lib.hid hown; have HB2 := Lib.hid hB
        clear hown hgr hB
        go_wp2_with fail
        go_ret
        refine ⟨_, _, _, rfl, ?_, HB2.out, fun k hk => Nat.le_trans (Nat.le_of_lt hsz0) (HW.out.lt k hk).1⟩
        rw [HPUT.out]
        unfold FrAt
        rw [List.length_append, HN.out, pairVals_append]
        exact ownsRow_base (base' := 0) HW.out (fun k _ => Nat.zero_le _)
end Go.Proofs.Ytgjemjogncnbnaa.Wri
