/- The other side: Fork, Sleep, Cancel. -/
import Derived.Test.YtddcpehncbcliaaWaiT
namespace Go.Proofs.Ytddcpehncbcliaa.Wai
open Go.RowKit
set_option linter.unusedSimpArgs false
set_option linter.unusedVariables false

theorem wpList_append_copy {P : Program} {ops : Array Oper} {o : Oper} {rest : List Oper} {a : Act} {w : World} {Q : Exit → Act → World → Prop}
    (hgd : o.guard = none) (s x : Operand) (t : TypeId) (hop : o.op = Op.call { callee := Callee.builtin Builtin.append, args := #[s, x], argTypes := #[t, t] })
    (base : Nat) (e : TypeId) (i : TypeInfo) (z : Value) (size bytes : Nat) (ht : P.underlying t = some (.slice e)) (hi : P.info? e = some i) (hz : i.zero = some z)
    (hsize : i.size = size) (hby : i.bytes = bytes) (hzs : z.cells.size = size) (hsz : 0 < size)
    (g : Nat) (hs : a.eval s = .slice (some ⟨g, 0, none⟩) 0 0) (hown : w.ownsRow base e size (.slice (some ⟨g, 0, none⟩) 0 0) 0 [])
    (vx : Value) (n b0 : Nat) (xs : List Value) (hx : a.eval x = vx) (hX : w.ownsRow b0 e size vx n xs) (h1 : ∀ u ∈ xs, u.oneCell' = true)
    (h63 : n ≤ maxLen) (hbytes : n * bytes ≤ 140737488355328) (hbase : base ≤ w.heap.size)
    (h : ∀ v' w', w'.ownsRow base e size v' n xs → w.grownBy w' (some g) → (v'.ownBlock = some g ∨ v'.ownBlock = some w.heap.size) → wpList P ops Q rest (a.put o.dst v') w') :
    wpList P ops Q (o :: rest) a w := by
  refine wpList_plain hgd fun K' hK' => ?_
  have h0 := step_append_copy (ops := ops) (E := True) (Q := Q) (K := K') hgd s x t hop base e i z size bytes ht hi hz hsize hby hzs hsz g hs hown vx n b0 xs hx hX h1 h63 hbytes hbase (fun v' w' a1 a2 a3 => hK' _ _ (h v' w' a1 a2 a3))
  have hw : Region.wanted o (yielded ops a.tmps) = true := by simp [Region.wanted, hgd]
  rwa [if_pos hw] at h0
set_option maxHeartbeats 1600000 in
theorem rfork_any (w : World) (b : Nat) (ws : Ws) (h : RAt w b ws) : Calls Try.prog 23 #[ptr b] w fun e w' => ∃ b', e = .returned (ptr b') ∧ w.heap.size ≤ b' ∧ RAt w' b' ws ∧ Below w.heap.size w w' ∧ ∀ v k, w'.cell? ⟨b', 0, none⟩ = some v → v.ownBlock = some k → w.heap.size ≤ k := by
  obtain ⟨i0, hi, hz0, hz1, hz2⟩ := info_parts infoO
  obtain ⟨la, lc, hb, ho, hwf⟩ := h
  have hlen := hwf.len
  have hblt := blk_lt hb
  have b0 := blk_cell hb 0
  simp only [List.getElem?_toArray, List.getElem?_cons_zero, List.getElem?_cons_succ] at b0
  have HOA := Lib.hid (ownsRow_only ho (Only.empty (show Below w.heap.size w (w.alloc (.cells #[] 76)) from by repeat (first | (with_reducible exact Below.refl _ _) | (with_reducible apply Below.drew) | (with_reducible refine below_drewN ?_ _) | (with_reducible refine below_alloc' ?_ ?_ _; (focus ((try simp) <;> omega))) | (with_reducible refine below_set' ?_ ?_ _; (focus ((try simp) <;> omega))))) (Nat.le_refl _)) (fun _ _ h => h))
  have HWF := Lib.hid hwf
  clear hb ho hwf
  go_enter Try.func23, Try.ntmps23
  go_wp2_with (at_builtin; refine wpList_append_copy rfl (.tmp 5) (.tmp 9) 69 rfl w.heap.size 76 i0 (.agg (rcW ⟨0, 0, false⟩).toArray) 14 24 Try.underlying69 hi hz0 hz1 hz2 zO (by decide) w.heap.size rfl (empty_row w 76 14 w.heap.size (Nat.le_refl _)) (.slice la ws.length lc) ws.length 0 (rowW ws) rfl HOA.out (rowW_one ws) (by unfold maxLen; omega) (by omega) (by simp) ?_)
  intro v' w1 hown hgr hat
  have hB1 : Below w.heap.size w w1 := ((Below.refl _ w).alloc (Nat.le_refl _) (.cells #[] 76)).grown hgr (by simp) (fun k hk => by injection hk with hk; omega)
  obtain ⟨va, vc, rfl⟩ := ownsRow_slice hown
  have HOWN := Lib.hid hown; have HB1 := Lib.hid hB1
  clear hown hgr hB1 b0 hat
  go_wp2
  go_ret
  have lb : Below w1.heap.size w1 (w1.alloc (.cells #[.slice va ws.length vc] 71)) := by repeat (first | (with_reducible exact Below.refl _ _) | (with_reducible apply Below.drew) | (with_reducible refine below_drewN ?_ _) | (with_reducible refine below_alloc' ?_ ?_ _; (focus ((try simp) <;> omega))) | (with_reducible refine below_set' ?_ ?_ _; (focus ((try simp) <;> omega))))
  refine ⟨w1.heap.size, rfl, HB1.out.size, ⟨va, vc, blk_new _ _, ?_, HWF.out⟩, btrans HB1.out (Nat.le_refl _) lb, ?_⟩
  · exact ownsRow_only (ownsRow_base HOWN.out (fun _ _ => Nat.zero_le _)) (Only.empty lb (Nat.le_refl _)) (fun _ _ h => h)
  · intro u k hu hk
    have hc := blk_cell (blk_new w1 (.cells #[.slice va ws.length vc] 71)) 0
    rw [hc] at hu
    simp only [List.getElem?_toArray, List.getElem?_cons_zero] at hu
    injection hu with hu
    subst hu
    exact (World.ownsRow.lt HOWN.out k hk).1
/-! ### Sleep -/
theorem rcW_bed (x : Wt) : (rcW x).set 13 (.bool true) = rcW { x with sl := true } := by
  unfold rcW
  rw [List.set_cons_succ, List.set_append_right _ _ (by simp)]
  simp
theorem rowW_set (ws : Ws) (i : Nat) (x : Wt) (h : ws[i]? = some x) : (rowW ws).set (i * 14 + 13) (.bool true) = rowW (ws.set i { x with sl := true }) := by
  apply List.ext_getElem?
  intro j
  obtain ⟨k, r, hr, rfl⟩ : ∃ k r, r < 14 ∧ j = k * 14 + r := ⟨j / 14, j % 14, by omega, by omega⟩
  have hi : i < ws.length := (List.getElem?_eq_some_iff.1 h).1
  rw [rowW_get _ _ _ hr, List.getElem?_set, List.getElem?_set]
  by_cases hk : i = k
  · subst hk
    rw [if_pos rfl, if_pos hi, Option.bind_some, ← rcW_bed, List.getElem?_set]
    by_cases h13 : 13 = r
    · subst h13
      rw [if_pos rfl, if_pos rfl, if_pos (by rw [rowW_len]; omega), if_pos (by rw [rcW_len]; omega)]
    · rw [if_neg (by omega), if_neg h13, rowW_get _ _ _ hr, h]; rfl
  · rw [if_neg (by omega), if_neg hk, rowW_get _ _ _ hr]
theorem nodup_inj {l : List Int} (h : l.Nodup) : ∀ {i j : Nat} {t : Int}, l[i]? = some t → l[j]? = some t → i = j := by
  induction l with
  | nil => intro i j t hi; simp at hi
  | cons x l ih =>
    rw [List.nodup_cons] at h
    intro i j t hi hj
    cases i with
    | zero =>
      cases j with
      | zero => rfl
      | succ j =>
        simp at hi hj
        subst hi
        exact absurd (List.mem_of_getElem? hj) h.1
    | succ i =>
      cases j with
      | zero =>
        simp at hi hj
        subst hj
        exact absurd (List.mem_of_getElem? hi) h.1
      | succ j =>
        have := ih h.2 (i := i) (j := j) (t := t) (by simpa using hi) (by simpa using hj)
        rw [this]
theorem bedded_at {ws : Ws} (h : (ths ws).Nodup) {i : Nat} {x : Wt} (hx : ws[i]? = some x) : ws.set i { x with sl := true } = bedded ws x.th := by
  apply List.ext_getElem?
  intro j
  unfold bedded
  rw [List.getElem?_set, List.getElem?_map]
  have hi : i < ws.length := (List.getElem?_eq_some_iff.1 hx).1
  by_cases hj : i = j
  · subst hj
    rw [if_pos rfl, if_pos hi, hx]
    simp
  · rw [if_neg hj]
    cases hy : ws[j]? with
    | none => rfl
    | some y =>
      have hne : y.th ≠ x.th := by
        intro e
        have h1 : (ths ws)[j]? = some x.th := by simp [ths, hy, e]
        have h2 : (ths ws)[i]? = some x.th := by simp [ths, hx]
        have hjl : j < (ths ws).length := (List.getElem?_eq_some_iff.1 h1).1
        exact hj (nodup_inj h h2 h1)
      simp [hne]
set_option maxHeartbeats 1600000 in
theorem rsleep_any (w : World) (b : Nat) (ws : Ws) (h : RAt w b ws) (th : Int) : Calls Try.prog 41 #[ptr b, .int .i64 th] w (ROpPost w b (sleepE ws th) (sleepS ws th)) := by
  obtain ⟨i0, hi, hz0, hz1, hz2⟩ := info_parts infoO
  have H := Lib.hid h
  have HMAY := Lib.hid (rmay_any w b th)
  have HRAT := Lib.hid (rat_any w b ws h th)
  unfold ROpPost
  by_cases ht : okTh th
  · have hg : getEr th = 0 := by unfold getEr; rw [if_pos ht]
    rw [hg] at HMAY
    have HE := Lib.hid (show sleepE ws th = match findW ws th with | none => 8 | some x => if x.sl then 8 else 0 by unfold sleepE; rw [if_neg (by simpa using ht)]; cases findW ws th <;> rfl)
    have HS := Lib.hid (show sleepS ws th = if sleepE ws th = 0 then bedded ws th else ws from rfl)
    have HWF := Lib.hid (h.wf.bedded th)
    generalize sleepE ws th = er at *
    generalize sleepS ws th = ws' at *
    obtain ⟨la, lc, hb, ho, hwf⟩ := h
    have hlen := hwf.len
    have hblt := blk_lt hb
    have b0 := blk_cell hb 0
    simp only [List.getElem?_toArray, List.getElem?_cons_zero, List.getElem?_cons_succ] at b0
    have HB := Lib.hid hb; have HO := Lib.hid ho; have HND := Lib.hid hwf.nodup
    have HOA := Lib.hid (ownsRow_only ho (Only.empty (show Below w.heap.size w (w.alloc (.cells #[] 76)) from by repeat (first | (with_reducible exact Below.refl _ _) | (with_reducible apply Below.drew) | (with_reducible refine below_drewN ?_ _) | (with_reducible refine below_alloc' ?_ ?_ _; (focus ((try simp) <;> omega))) | (with_reducible refine below_set' ?_ ?_ _; (focus ((try simp) <;> omega))))) (Nat.le_refl _)) (fun _ _ h => h))
    clear hb ho hwf hg ht
    go_enter Try.func41, Try.ntmps41
    go_wp2_with fail; refine (HMAY.out).mono ?_; rintro e w0 ⟨rfl, rfl⟩
    go_wp2_with fail
    refine HRAT.out.mono ?_
    rintro e w0 ⟨rfl, ⟨hf, rfl⟩ | ⟨k, x, hx, hf, rfl⟩⟩
    · have HER := Lib.hid (show er = 8 by rw [HE.out, hf])
      have HSR := Lib.hid (show ws' = ws by rw [HS.out, HER.out]; rfl)
      clear hf
      go_wp2_with fail
      go_ret
      rw [HER.out, HSR.out]
      exact ⟨rfl, Only.refl _ _, H.out, Fresh.refl _ _⟩
    · have hkl : k < ws.length := (List.getElem?_eq_some_iff.1 hx).1
      rcases HO.out.2 with ⟨h0, h1⟩ | ⟨g, cap, cur, h0, _⟩
      · omega
      injection h0 with h0 hmid h2
      clear hmid
      subst h0 h2
      obtain ⟨_, _, c13⟩ := row_at HO.out hx
      have hkl' : (k : Int) < ws.length := by omega
      have hxt := (findW_some hf).2
      cases hs : x.sl
      · rw [hs] at c13
        have HER := Lib.hid (show er = 0 by rw [HE.out, hf]; simp [hs])
        have HSR := Lib.hid (show ws' = ws.set k { x with sl := true } by rw [HS.out, HER.out, bedded_at HND.out hx, hxt]; rfl)
        have HWF2 := Lib.hid (show WfW (ws.set k { x with sl := true }) by rw [bedded_at HND.out hx, hxt]; exact HWF.out)
        have HX := Lib.hid hx
        clear hf hx hs hxt
        go_wp2_with (at_builtin; refine wpList_append_copy rfl (.tmp 29) (.tmp 33) 69 rfl w.heap.size 76 i0 (.agg (rcW ⟨0, 0, false⟩).toArray) 14 24 Try.underlying69 hi hz0 hz1 hz2 zO (by decide) w.heap.size rfl (empty_row w 76 14 w.heap.size (Nat.le_refl _)) (.slice (some ⟨g, 0, none⟩) ws.length lc) ws.length 0 (rowW ws) rfl HOA.out (rowW_one ws) (by unfold maxLen; omega) (by omega) (by simp) ?_)
        intro v' w1 hown hgr hat
        have hB1 : Below w.heap.size w w1 := ((Below.refl _ w).alloc (Nat.le_refl _) (.cells #[] 76)).grown hgr (by simp) (fun k hk => by injection hk with hk; omega)
        rcases hown.2 with ⟨rfl, hn0⟩ | ⟨g', cap', cur', rfl, hg1, hg2, _⟩
        · omega
        have hb1 := bblk hB1 HB.out
        have b01 := blk_cell hb1 0; have bf1 := blk_free hb1 0
        simp only [List.getElem?_toArray, List.getElem?_cons_zero, List.getElem?_cons_succ] at b01
        obtain ⟨_, _, d13⟩ := row_at (ws := ws) (ownsRow_base (base' := 0) hown (fun _ _ => Nat.zero_le _)) HX.out
        have df := blk_free hg2 (k * 14 + 13)
        have hgb : ¬ g' = b := by omega
        have hgb2 : ¬ b = g' := by omega
        have hset := row_set hown (k := k * 14 + 13) (by omega) (u := .bool true)
        rw [rowW_set ws k x HX.out] at hset
        have hbs := blk_other hb1 (p := ⟨g', k * 14 + 13, none⟩) hgb2 (.bool true)
        have HSET := Lib.hid hset; have HB1 := Lib.hid hB1; have HBS := Lib.hid hbs
        clear hown hgr hat hg2 hb1 hset hbs hB1 b0 c13
        go_wp2_with fail
        go_ret
        rw [HER.out, HSR.out]
        have hnd := row_end (w := w) (ws := ws.set k { x with sl := true }) HB.out (HB1.out.setCell (p := ⟨g', k * 14 + 13, none⟩) hg1 _) HSET.out (by rw [List.length_set]) HWF2.out
        exact ⟨rfl, hnd.1, hnd.2⟩
      · rw [hs] at c13
        have HER := Lib.hid (show er = 8 by rw [HE.out, hf]; simp [hs])
        have HSR := Lib.hid (show ws' = ws by rw [HS.out, HER.out]; rfl)
        clear hf hx hs hxt
        go_wp2_with fail
        go_ret
        rw [HER.out, HSR.out]
        exact ⟨rfl, Only.refl _ _, H.out, Fresh.refl _ _⟩
  · have hg : getEr th = 2 := by unfold getEr; rw [if_neg ht]
    have hE : sleepE ws th = 2 := by unfold sleepE; rw [if_pos ht]
    have hS : sleepS ws th = ws := by unfold sleepS; rw [hE]; rfl
    rw [hg] at HMAY
    rw [hE, hS]
    clear hg hE hS h ht
    go_enter Try.func41, Try.ntmps41
    go_wp2_with fail; refine (HMAY.out).mono ?_; rintro e w0 ⟨rfl, rfl⟩
    go_wp2_with fail
    go_ret
    exact ⟨rfl, Only.refl _ _, H.out, Fresh.refl _ _⟩
/-! ### Cancel -/
theorem without_at {ws : Ws} (h : (ths ws).Nodup) {i : Nat} {x : Wt} (hx : ws[i]? = some x) : without ws x.th = ws.take i ++ ws.drop (i + 1) := by
  have hi : i < ws.length := (List.getElem?_eq_some_iff.1 hx).1
  have e : ws = ws.take i ++ x :: ws.drop (i + 1) := by
    have : ws[i] = x := by rw [List.getElem?_eq_getElem hi] at hx; injection hx
    rw [← this, ← List.drop_eq_getElem_cons hi, List.take_append_drop]
  have hne : ∀ (j : Nat) y, ws[j]? = some y → j ≠ i → y.th ≠ x.th := fun j y hy hji e => hji (nodup_inj h (t := x.th) (by simp [ths, hy, e]) (by simp [ths, hx]))
  unfold without
  conv => lhs; rw [e]
  rw [List.filter_append, List.filter_cons_of_neg (by simp)]
  congr 1
  · refine List.filter_eq_self.2 fun y hy => ?_
    obtain ⟨j, hj⟩ := List.mem_iff_getElem?.1 hy
    rw [List.getElem?_take] at hj
    split at hj
    · rename_i hlt
      simpa using hne j y hj (by omega)
    · cases hj
  · refine List.filter_eq_self.2 fun y hy => ?_
    obtain ⟨j, hj⟩ := List.mem_iff_getElem?.1 hy
    rw [List.getElem?_drop] at hj
    simpa using hne _ y hj (by omega)
theorem rowW_take (ws : Ws) (m : Nat) : rowW (ws.take m) = (rowW ws).take (m * 14) := by
  induction ws generalizing m with
  | nil => simp [rowW]
  | cons f ws ih =>
    cases m with
    | zero => simp [rowW]
    | succ m =>
      have e : rowW (f :: ws) = rcW f ++ rowW ws := rfl
      have e2 : rowW (f :: ws.take m) = rcW f ++ rowW (ws.take m) := rfl
      rw [List.take_succ_cons, e, e2, ih, List.take_append, rcW_len, List.take_of_length_le (l := rcW f) (by rw [rcW_len]; omega), show (m + 1) * 14 - 14 = m * 14 by omega]
theorem rowW_drop (ws : Ws) (m : Nat) : rowW (ws.drop m) = (rowW ws).drop (m * 14) := by
  induction ws generalizing m with
  | nil => simp [rowW]
  | cons f ws ih =>
    cases m with
    | zero => simp
    | succ m =>
      have e : rowW (f :: ws) = rcW f ++ rowW ws := rfl
      rw [List.drop_succ_cons, ih, e, show (m + 1) * 14 = (rcW f).length + m * 14 by rw [rcW_len]; omega, List.drop_append]
      simp
set_option maxRecDepth 50000 in
set_option maxHeartbeats 3200000 in
theorem rcanc_any (w : World) (b : Nat) (ws : Ws) (h : RAt w b ws) (th : Int) : Calls Try.prog 42 #[ptr b, .int .i64 th] w (ROpPost w b (cancE ws th) (cancS ws th)) := by
  obtain ⟨i0, hi, hz0, hz1, hz2⟩ := info_parts infoO
  have H := Lib.hid h
  have HMAY := Lib.hid (rmay_any w b th)
  have HRAT := Lib.hid (rat_any w b ws h th)
  unfold ROpPost
  by_cases ht : okTh th
  · have hg : getEr th = 0 := by unfold getEr; rw [if_pos ht]
    rw [hg] at HMAY
    have HE := Lib.hid (show cancE ws th = if (findW ws th).isSome then 0 else 5 by unfold cancE; rw [if_neg (by simpa using ht)])
    have HS := Lib.hid (show cancS ws th = if cancE ws th = 0 then without ws th else ws from rfl)
    have HWF := Lib.hid (h.wf.without th)
    generalize cancE ws th = er at *
    generalize cancS ws th = ws' at *
    obtain ⟨la, lc, hb, ho, hwf⟩ := h
    have hlen := hwf.len
    have hblt := blk_lt hb
    have b0 := blk_cell hb 0
    simp only [List.getElem?_toArray, List.getElem?_cons_zero, List.getElem?_cons_succ] at b0
    have HB := Lib.hid hb; have HO := Lib.hid ho; have HND := Lib.hid hwf.nodup
    clear hb ho hwf hg ht
    go_enter Try.func42, Try.ntmps42
    go_wp2_with fail; refine (HMAY.out).mono ?_; rintro e w0 ⟨rfl, rfl⟩
    go_wp2_with fail
    refine HRAT.out.mono ?_
    rintro e w0 ⟨rfl, ⟨hf, rfl⟩ | ⟨k, x, hx, hf, rfl⟩⟩
    · have HER := Lib.hid (show er = 5 by rw [HE.out, hf]; rfl)
      have HSR := Lib.hid (show ws' = ws by rw [HS.out, HER.out]; rfl)
      clear hf
      go_wp2_with fail
      go_ret
      rw [HER.out, HSR.out]
      exact ⟨rfl, Only.refl _ _, H.out, Fresh.refl _ _⟩
    · have hkl : k < ws.length := (List.getElem?_eq_some_iff.1 hx).1
      have hxt := (findW_some hf).2
      have HER := Lib.hid (show er = 0 by rw [HE.out, hf]; rfl)
      have HSR := Lib.hid (show ws' = ws.take k ++ ws.drop (k + 1) by rw [HS.out, HER.out, ← without_at HND.out hx, hxt]; rfl)
      have HWF2 := Lib.hid (show WfW (ws.take k ++ ws.drop (k + 1)) by rw [← without_at HND.out hx, hxt]; exact HWF.out)
      obtain ⟨n, hn⟩ : ∃ n, ws.length = n := ⟨_, rfl⟩
      have HN := Lib.hid hn
      rw [hn] at HB HO hlen hkl b0
      rcases HO.out.2 with ⟨h0, h1⟩ | ⟨g, cap, cur, h0, _, _, hcp, _⟩
      · omega
      injection h0 with h0 hmid h2
      clear hmid
      subst h0 h2
      have hkc : (k : Int) ≤ lc := by omega
      have hk1n : (k : Int) + 1 ≤ n := by omega
      have hnc : (n : Int) ≤ lc := by omega
      have KW := Lib.hid (show ∀ W, Below w.heap.size w W → W.cell? ⟨b, 0, none⟩ = some (.slice (some ⟨g, 0, none⟩) n lc) from fun W l => blk_cell (bblk l HB.out) 0)
      have KF := Lib.hid (show ∀ W, Below w.heap.size w W → W.frozen? ⟨b, 0, none⟩ = false from fun W l => blk_free (bblk l HB.out) 0)
      have KC := Lib.hid (show ∀ W, Below w.heap.size w W → ∀ j u, (rowW ws)[j]? = some u → W.cell? ⟨g, j, none⟩ = some u from fun W l j u hu => by
        have := HO.out.cells (g := g) rfl j u hu
        rw [Addr.add_lit, Nat.zero_add] at this
        exact bkeep l this)
      clear hf hx hxt hn
      have hw1 : IntKind.i64.wrap ((k : Int) + 1) = (k : Int) + 1 := by rw [IntKind.wrap_i64]; omega
      have htn : ((k : Int) + 1).toNat = k + 1 := by omega
      have hn1 : n - (k + 1) ≤ 4 := by omega
      have hka : (k : Int) ≤ (k : Int) + 1 := by omega
      have hkb : (0 : Int) ≤ (k : Int) + 1 := by omega
      have hkc0 : (0 : Int) ≤ (k : Int) := by omega
      by_cases hlc : lc = k + 1
      · subst hlc
        have hz : n - (k + 1) = 0 := by omega
        have HSRC := Lib.hid (show ∀ W, Below w.heap.size w W → ∀ j u, (rowW (ws.drop (k + 1)))[j]? = some u → W.cell? ((⟨g, 0, none⟩ : Addr).add j) = some u from fun W l j u hu => by
          have hd : ws.drop (k + 1) = [] := List.drop_eq_nil_of_le (by rw [HN.out]; omega)
          rw [hd] at hu
          simp [rowW] at hu)
        go_wp2_with fail
        have hS0 : Below w.heap.size w w.drew := (Below.refl _ _).drew; refine wp_region_F (fun w' => Below w.heap.size w w') 19 (by kernel_rfl) ?_; refine wpAnyF_take (i := 0) (v := ?_) rfl (by kernel_rfl) (by kernel_rfl) (by kernel_rfl) (by kernel_rfl) (fun _ _ _ h => h) (Or.inl ⟨by rfl, ?_⟩) (by assumption) ?_; rotate_left; (focus (intro w hSw; (skip); (first | (go_simp; done) | (go_simp; with_reducible rfl)))); (try simp only [Act.put, List.setIfInBounds_toArray, List.set_cons_zero, List.set_cons_succ]); refine wpAnyF_take (i := 2) (v := ?_) rfl (by kernel_rfl) (by kernel_rfl) (by kernel_rfl) (by kernel_rfl) (fun _ _ _ h => h) (Or.inl ⟨by rfl, ?_⟩) (by assumption) ?_; rotate_left; (focus (intro w hSw; (skip); (first | (go_simp; done) | (go_simp; with_reducible rfl)))); (try simp only [Act.put, List.setIfInBounds_toArray, List.set_cons_zero, List.set_cons_succ]); refine wpAnyF_take (i := 3) (v := ?_) rfl (by kernel_rfl) (by kernel_rfl) (by kernel_rfl) (by kernel_rfl) (fun _ _ _ h => h) (Or.inl ⟨by rfl, ?_⟩) (by assumption) ?_; rotate_left; (focus (intro w hSw; (skip); (first | (go_simp; done) | (go_simp; with_reducible rfl)))); (try simp only [Act.put, List.setIfInBounds_toArray, List.set_cons_zero, List.set_cons_succ]); refine wpAnyF_take (i := 4) (v := ?_) rfl (by kernel_rfl) (by kernel_rfl) (by kernel_rfl) (by kernel_rfl) (fun _ _ _ h => h) (Or.inl ⟨by rfl, ?_⟩) (by assumption) ?_; rotate_left; (focus (intro w hSw; (skip); (first | (go_simp; done) | (go_simp; with_reducible rfl)))); (try simp only [Act.put, List.setIfInBounds_toArray, List.set_cons_zero, List.set_cons_succ]); refine wpAnyF_take (i := 5) (v := ?_) rfl (by kernel_rfl) (by kernel_rfl) (by kernel_rfl) (by kernel_rfl) (fun _ _ _ h => h) (Or.inl ⟨by rfl, ?_⟩) (by assumption) ?_; rotate_left; (focus (intro w hSw; (have q0 := KW.out _ hSw); (first | (go_simp; done) | (go_simp; with_reducible rfl)))); (try simp only [Act.put, List.setIfInBounds_toArray, List.set_cons_zero, List.set_cons_succ]); refine wpAnyF_take (i := 6) (v := ?_) rfl (by kernel_rfl) (by kernel_rfl) (by kernel_rfl) (by kernel_rfl) (fun _ _ _ h => h) (Or.inl ⟨by rfl, ?_⟩) (by assumption) ?_; rotate_left; (focus (intro w hSw; (skip); (first | (go_simp; done) | (go_simp; with_reducible rfl)))); (try simp only [Act.put, List.setIfInBounds_toArray, List.set_cons_zero, List.set_cons_succ]); refine wpAnyF_take (i := 7) (v := ?_) rfl (by kernel_rfl) (by kernel_rfl) (by kernel_rfl) (by kernel_rfl) (fun _ _ _ h => h) (Or.inl ⟨by rfl, ?_⟩) (by assumption) ?_; rotate_left; (focus (intro w hSw; (skip); (first | (go_simp; done) | (go_simp; with_reducible rfl)))); (try simp only [Act.put, List.setIfInBounds_toArray, List.set_cons_zero, List.set_cons_succ]); refine wpAnyF_take (i := 9) (v := ?_) rfl (by kernel_rfl) (by kernel_rfl) (by kernel_rfl) (by kernel_rfl) (fun _ _ _ h => h) (Or.inl ⟨by rfl, ?_⟩) (by assumption) ?_; rotate_left; (focus (intro w hSw; (skip); (first | (go_simp; done) | (go_simp; with_reducible rfl)))); (try simp only [Act.put, List.setIfInBounds_toArray, List.set_cons_zero, List.set_cons_succ]); refine wpAnyF_take (i := 10) (v := ?_) rfl (by kernel_rfl) (by kernel_rfl) (by kernel_rfl) (by kernel_rfl) (fun _ _ _ h => h) (Or.inl ⟨by rfl, ?_⟩) (by assumption) ?_; rotate_left; (focus (intro w hSw; (skip); (first | (go_simp; done) | (go_simp; with_reducible rfl)))); (try simp only [Act.put, List.setIfInBounds_toArray, List.set_cons_zero, List.set_cons_succ]); refine wpAnyF_take (i := 11) (v := ?_) rfl (by kernel_rfl) (by kernel_rfl) (by kernel_rfl) (by kernel_rfl) (fun _ _ _ h => h) (Or.inl ⟨by rfl, ?_⟩) (by assumption) ?_; rotate_left; (focus (intro w hSw; (skip); (first | (go_simp; done) | (go_simp; with_reducible rfl)))); (try simp only [Act.put, List.setIfInBounds_toArray, List.set_cons_zero, List.set_cons_succ]); refine wpAnyF_take (i := 12) (v := ?_) rfl (by kernel_rfl) (by kernel_rfl) (by kernel_rfl) (by kernel_rfl) (fun _ _ _ h => h) (Or.inl ⟨by rfl, ?_⟩) (by assumption) ?_; rotate_left; (focus (intro w hSw; (have q0 := KW.out _ hSw); (first | (go_simp; done) | (go_simp; with_reducible rfl)))); (try simp only [Act.put, List.setIfInBounds_toArray, List.set_cons_zero, List.set_cons_succ]); refine wpAnyF_take (i := 13) (v := ?_) rfl (by kernel_rfl) (by kernel_rfl) (by kernel_rfl) (by kernel_rfl) (fun _ _ _ h => h) (Or.inl ⟨by rfl, ?_⟩) (by assumption) ?_; rotate_left; (focus (intro w hSw; (skip); (first | (go_simp; done) | (go_simp; with_reducible rfl)))); (try simp only [Act.put, List.setIfInBounds_toArray, List.set_cons_zero, List.set_cons_succ]); refine wpAnyF_take (i := 14) (v := ?_) rfl (by kernel_rfl) (by kernel_rfl) (by kernel_rfl) (by kernel_rfl) (fun _ _ _ h => h) (Or.inl ⟨by rfl, ?_⟩) (by assumption) ?_; rotate_left; (focus (intro w hSw; (skip); (first | (go_simp; done) | (go_simp; with_reducible rfl)))); (try simp only [Act.put, List.setIfInBounds_toArray, List.set_cons_zero, List.set_cons_succ]); refine wpAnyF_take (i := 15) (v := ?_) rfl (by kernel_rfl) (by kernel_rfl) (by kernel_rfl) (by kernel_rfl) (fun _ _ _ h => h) (Or.inl ⟨by rfl, ?_⟩) (by assumption) ?_; rotate_left; (focus (intro w hSw; (skip); (first | (go_simp; done) | (go_simp; with_reducible rfl)))); (try simp only [Act.put, List.setIfInBounds_toArray, List.set_cons_zero, List.set_cons_succ]); refine wpAnyF_ready (rs := [1]) (by kernel_rfl) (by simp) ?_; refine AllF.cons rfl (fun K hK => ?_) AllF.nil; go_simp; have lA : Below w.heap.size w (w.drew.alloc (.cells #[] 76)) := (by repeat (first | (with_reducible exact Below.refl _ _) | (with_reducible apply Below.drew) | (with_reducible refine below_drewN ?_ _) | (with_reducible refine below_alloc' ?_ ?_ _; (focus ((try simp) <;> omega))) | (with_reducible refine below_set' ?_ ?_ _; (focus ((try simp) <;> omega))))); refine hK.out _ _ (fun _ => lA) ?_; clear hK K; (try simp only [Act.put, List.setIfInBounds_toArray, List.set_cons_zero, List.set_cons_succ]); refine wpAnyF_ready (rs := [8]) (by kernel_rfl) (by simp) ?_; refine AllF.cons rfl (fun K hK => ?_) AllF.nil; refine step_append_own rfl (.tmp 19) (.tmp 25) 69 rfl w.heap.size 76 i0 (.agg (rcW ⟨0, 0, false⟩).toArray) 14 24 Try.underlying69 hi hz0 hz1 hz2 zO (by decide) (.slice (some ⟨w.heap.size, 0, none⟩) 0 0) 0 [] rfl (empty_row w.drew 76 14 w.heap.size (Nat.le_refl _)) ⟨g, 0, none⟩ k (k + 1) (rowW (ws.take k)) rfl (by rw [rowW_len, List.length_take, HN.out]; omega) (fun j u hu => (by rw [Addr.add_lit, Nat.zero_add]; refine KC.out _ lA j u ?_; rw [rowW_take, List.getElem?_take] at hu; split at hu; (exact hu); cases hu)) (rowW_one _) (by unfold maxLen; omega) (by omega) lA.size ?_; intro v1 w2 hown1 hgr1 hat1; obtain ⟨v1a, v1c, rfl⟩ := ownsRow_slice hown1; have lC : Below w.heap.size w w2 := lA.grown hgr1 lA.size (fun q hq => by have hq' : w.heap.size = q := Option.some.inj hq; omega); refine hK.out _ _ (fun _ => lC) ?_; clear hK K; (try simp only [Act.put, List.setIfInBounds_toArray, List.set_cons_zero, List.set_cons_succ]); refine wpAnyF_ready (rs := [16]) (by kernel_rfl) (by simp) ?_; refine AllF.cons rfl (fun K hK => ?_) AllF.nil; refine step_append_own rfl (.tmp 26) (.tmp 33) 69 rfl w.heap.size 76 i0 (.agg (rcW ⟨0, 0, false⟩).toArray) 14 24 Try.underlying69 hi hz0 hz1 hz2 zO (by decide) (.slice v1a (0 + k) v1c) (0 + k) ([] ++ rowW (ws.take k)) rfl hown1 ⟨g, 0, none⟩ (0) (0) (rowW (ws.drop (k + 1))) rfl (by rw [rowW_len, List.length_drop, HN.out] <;> omega) (HSRC.out _ lC) (rowW_one _) (by unfold maxLen; omega) (by omega) lC.size ?_; intro v2 w3 hown2 hgr2 hat2; obtain ⟨v2a, v2c, rfl⟩ := ownsRow_slice hown2; have lD : Below w.heap.size w w3 := lC.grown hgr2 lC.size (fun q hq => (hown1.lt q hq).1); refine hK.out _ _ (fun _ => lD) ?_; clear hK K; (try simp only [Act.put, List.setIfInBounds_toArray, List.set_cons_zero, List.set_cons_succ]); refine wpAnyF_ready (rs := [17]) (by kernel_rfl) (by simp) ?_; refine AllF.cons rfl (fun K hK => ?_) AllF.nil; go_simp; refine hK.out _ _ (fun _ => lD) ?_; clear hK K; (try simp only [Act.put, List.setIfInBounds_toArray, List.set_cons_zero, List.set_cons_succ]); refine wpAnyF_ready (rs := [18]) (by kernel_rfl) (by simp) ?_; refine AllF.cons rfl (fun K hK => ?_) AllF.nil; go_simp; refine hK.out _ _ (fun _ => lD) ?_; clear hK K; (try simp only [Act.put, List.setIfInBounds_toArray, List.set_cons_zero, List.set_cons_succ]); refine wpAnyF_ready (rs := [19]) (by kernel_rfl) (by simp) ?_; refine AllF.cons rfl (fun K hK => ?_) AllF.nil; have q0 := KW.out _ lD; have qf := KF.out _ lD; go_simp; refine hK.out _ _ (fun h => absurd rfl h) ?_; clear hK K; (try simp only [Act.put, List.setIfInBounds_toArray, List.set_cons_zero, List.set_cons_succ]); refine wpAnyF_done (by kernel_rfl) ?_ _; simp only [Nat.zero_add, List.nil_append] at hown2; have HO2 := Lib.hid hown2; have LD := Lib.hid lD; clear hown1 hgr1 hat1 hgr2 hat2 hown2 lD; go_wp2_with fail; go_ret; rw [HER.out, HSR.out]; have hnd := row_end (ws := ws.take k ++ ws.drop (k + 1)) HB.out LD.out (by rw [rowW_append]; exact HO2.out) (by rw [List.length_append, List.length_take, List.length_drop, HN.out]; omega) HWF2.out; exact ⟨rfl, hnd.1, hnd.2⟩
      · have HSRC := Lib.hid (show ∀ W, Below w.heap.size w W → ∀ j u, (rowW (ws.drop (k + 1)))[j]? = some u → W.cell? ((⟨g, (k + 1) * 14, none⟩ : Addr).add j) = some u from fun W l j u hu => by
          rw [rowW_drop, List.getElem?_drop] at hu
          rw [Addr.add_lit]
          exact KC.out W l _ u hu)
        go_wp2_with fail
        have hS0 : Below w.heap.size w w.drew := (Below.refl _ _).drew; refine wp_region_F (fun w' => Below w.heap.size w w') 19 (by kernel_rfl) ?_; refine wpAnyF_take (i := 0) (v := ?_) rfl (by kernel_rfl) (by kernel_rfl) (by kernel_rfl) (by kernel_rfl) (fun _ _ _ h => h) (Or.inl ⟨by rfl, ?_⟩) (by assumption) ?_; rotate_left; (focus (intro w hSw; (skip); (first | (go_simp; done) | (go_simp; with_reducible rfl)))); (try simp only [Act.put, List.setIfInBounds_toArray, List.set_cons_zero, List.set_cons_succ]); refine wpAnyF_take (i := 2) (v := ?_) rfl (by kernel_rfl) (by kernel_rfl) (by kernel_rfl) (by kernel_rfl) (fun _ _ _ h => h) (Or.inl ⟨by rfl, ?_⟩) (by assumption) ?_; rotate_left; (focus (intro w hSw; (skip); (first | (go_simp; done) | (go_simp; with_reducible rfl)))); (try simp only [Act.put, List.setIfInBounds_toArray, List.set_cons_zero, List.set_cons_succ]); refine wpAnyF_take (i := 3) (v := ?_) rfl (by kernel_rfl) (by kernel_rfl) (by kernel_rfl) (by kernel_rfl) (fun _ _ _ h => h) (Or.inl ⟨by rfl, ?_⟩) (by assumption) ?_; rotate_left; (focus (intro w hSw; (skip); (first | (go_simp; done) | (go_simp; with_reducible rfl)))); (try simp only [Act.put, List.setIfInBounds_toArray, List.set_cons_zero, List.set_cons_succ]); refine wpAnyF_take (i := 4) (v := ?_) rfl (by kernel_rfl) (by kernel_rfl) (by kernel_rfl) (by kernel_rfl) (fun _ _ _ h => h) (Or.inl ⟨by rfl, ?_⟩) (by assumption) ?_; rotate_left; (focus (intro w hSw; (skip); (first | (go_simp; done) | (go_simp; with_reducible rfl)))); (try simp only [Act.put, List.setIfInBounds_toArray, List.set_cons_zero, List.set_cons_succ]); refine wpAnyF_take (i := 5) (v := ?_) rfl (by kernel_rfl) (by kernel_rfl) (by kernel_rfl) (by kernel_rfl) (fun _ _ _ h => h) (Or.inl ⟨by rfl, ?_⟩) (by assumption) ?_; rotate_left; (focus (intro w hSw; (have q0 := KW.out _ hSw); (first | (go_simp; done) | (go_simp; with_reducible rfl)))); (try simp only [Act.put, List.setIfInBounds_toArray, List.set_cons_zero, List.set_cons_succ]); refine wpAnyF_take (i := 6) (v := ?_) rfl (by kernel_rfl) (by kernel_rfl) (by kernel_rfl) (by kernel_rfl) (fun _ _ _ h => h) (Or.inl ⟨by rfl, ?_⟩) (by assumption) ?_; rotate_left; (focus (intro w hSw; (skip); (first | (go_simp; done) | (go_simp; with_reducible rfl)))); (try simp only [Act.put, List.setIfInBounds_toArray, List.set_cons_zero, List.set_cons_succ]); refine wpAnyF_take (i := 7) (v := ?_) rfl (by kernel_rfl) (by kernel_rfl) (by kernel_rfl) (by kernel_rfl) (fun _ _ _ h => h) (Or.inl ⟨by rfl, ?_⟩) (by assumption) ?_; rotate_left; (focus (intro w hSw; (skip); (first | (go_simp; done) | (go_simp; with_reducible rfl)))); (try simp only [Act.put, List.setIfInBounds_toArray, List.set_cons_zero, List.set_cons_succ]); refine wpAnyF_take (i := 9) (v := ?_) rfl (by kernel_rfl) (by kernel_rfl) (by kernel_rfl) (by kernel_rfl) (fun _ _ _ h => h) (Or.inl ⟨by rfl, ?_⟩) (by assumption) ?_; rotate_left; (focus (intro w hSw; (skip); (first | (go_simp; done) | (go_simp; with_reducible rfl)))); (try simp only [Act.put, List.setIfInBounds_toArray, List.set_cons_zero, List.set_cons_succ]); refine wpAnyF_take (i := 10) (v := ?_) rfl (by kernel_rfl) (by kernel_rfl) (by kernel_rfl) (by kernel_rfl) (fun _ _ _ h => h) (Or.inl ⟨by rfl, ?_⟩) (by assumption) ?_; rotate_left; (focus (intro w hSw; (skip); (first | (go_simp; done) | (go_simp; with_reducible rfl)))); (try simp only [Act.put, List.setIfInBounds_toArray, List.set_cons_zero, List.set_cons_succ]); refine wpAnyF_take (i := 11) (v := ?_) rfl (by kernel_rfl) (by kernel_rfl) (by kernel_rfl) (by kernel_rfl) (fun _ _ _ h => h) (Or.inl ⟨by rfl, ?_⟩) (by assumption) ?_; rotate_left; (focus (intro w hSw; (skip); (first | (go_simp; done) | (go_simp; with_reducible rfl)))); (try simp only [Act.put, List.setIfInBounds_toArray, List.set_cons_zero, List.set_cons_succ]); refine wpAnyF_take (i := 12) (v := ?_) rfl (by kernel_rfl) (by kernel_rfl) (by kernel_rfl) (by kernel_rfl) (fun _ _ _ h => h) (Or.inl ⟨by rfl, ?_⟩) (by assumption) ?_; rotate_left; (focus (intro w hSw; (have q0 := KW.out _ hSw); (first | (go_simp; done) | (go_simp; with_reducible rfl)))); (try simp only [Act.put, List.setIfInBounds_toArray, List.set_cons_zero, List.set_cons_succ]); refine wpAnyF_take (i := 13) (v := ?_) rfl (by kernel_rfl) (by kernel_rfl) (by kernel_rfl) (by kernel_rfl) (fun _ _ _ h => h) (Or.inl ⟨by rfl, ?_⟩) (by assumption) ?_; rotate_left; (focus (intro w hSw; (skip); (first | (go_simp; done) | (go_simp; with_reducible rfl)))); (try simp only [Act.put, List.setIfInBounds_toArray, List.set_cons_zero, List.set_cons_succ]); refine wpAnyF_take (i := 14) (v := ?_) rfl (by kernel_rfl) (by kernel_rfl) (by kernel_rfl) (by kernel_rfl) (fun _ _ _ h => h) (Or.inl ⟨by rfl, ?_⟩) (by assumption) ?_; rotate_left; (focus (intro w hSw; (skip); (first | (go_simp; done) | (go_simp; with_reducible rfl)))); (try simp only [Act.put, List.setIfInBounds_toArray, List.set_cons_zero, List.set_cons_succ]); refine wpAnyF_take (i := 15) (v := ?_) rfl (by kernel_rfl) (by kernel_rfl) (by kernel_rfl) (by kernel_rfl) (fun _ _ _ h => h) (Or.inl ⟨by rfl, ?_⟩) (by assumption) ?_; rotate_left; (focus (intro w hSw; (skip); (first | (go_simp; done) | (go_simp; with_reducible rfl)))); (try simp only [Act.put, List.setIfInBounds_toArray, List.set_cons_zero, List.set_cons_succ]); refine wpAnyF_ready (rs := [1]) (by kernel_rfl) (by simp) ?_; refine AllF.cons rfl (fun K hK => ?_) AllF.nil; go_simp; have lA : Below w.heap.size w (w.drew.alloc (.cells #[] 76)) := (by repeat (first | (with_reducible exact Below.refl _ _) | (with_reducible apply Below.drew) | (with_reducible refine below_drewN ?_ _) | (with_reducible refine below_alloc' ?_ ?_ _; (focus ((try simp) <;> omega))) | (with_reducible refine below_set' ?_ ?_ _; (focus ((try simp) <;> omega))))); refine hK.out _ _ (fun _ => lA) ?_; clear hK K; (try simp only [Act.put, List.setIfInBounds_toArray, List.set_cons_zero, List.set_cons_succ]); refine wpAnyF_ready (rs := [8]) (by kernel_rfl) (by simp) ?_; refine AllF.cons rfl (fun K hK => ?_) AllF.nil; refine step_append_own rfl (.tmp 19) (.tmp 25) 69 rfl w.heap.size 76 i0 (.agg (rcW ⟨0, 0, false⟩).toArray) 14 24 Try.underlying69 hi hz0 hz1 hz2 zO (by decide) (.slice (some ⟨w.heap.size, 0, none⟩) 0 0) 0 [] rfl (empty_row w.drew 76 14 w.heap.size (Nat.le_refl _)) ⟨g, 0, none⟩ k (lc) (rowW (ws.take k)) rfl (by rw [rowW_len, List.length_take, HN.out]; omega) (fun j u hu => (by rw [Addr.add_lit, Nat.zero_add]; refine KC.out _ lA j u ?_; rw [rowW_take, List.getElem?_take] at hu; split at hu; (exact hu); cases hu)) (rowW_one _) (by unfold maxLen; omega) (by omega) lA.size ?_; intro v1 w2 hown1 hgr1 hat1; obtain ⟨v1a, v1c, rfl⟩ := ownsRow_slice hown1; have lC : Below w.heap.size w w2 := lA.grown hgr1 lA.size (fun q hq => by have hq' : w.heap.size = q := Option.some.inj hq; omega); refine hK.out _ _ (fun _ => lC) ?_; clear hK K; (try simp only [Act.put, List.setIfInBounds_toArray, List.set_cons_zero, List.set_cons_succ]); refine wpAnyF_ready (rs := [16]) (by kernel_rfl) (by simp) ?_; refine AllF.cons rfl (fun K hK => ?_) AllF.nil; refine step_append_own rfl (.tmp 26) (.tmp 33) 69 rfl w.heap.size 76 i0 (.agg (rcW ⟨0, 0, false⟩).toArray) 14 24 Try.underlying69 hi hz0 hz1 hz2 zO (by decide) (.slice v1a (0 + k) v1c) (0 + k) ([] ++ rowW (ws.take k)) rfl hown1 ⟨g, (k + 1) * 14, none⟩ (n - (k + 1)) (lc - (k + 1)) (rowW (ws.drop (k + 1))) rfl (by rw [rowW_len, List.length_drop, HN.out] <;> omega) (HSRC.out _ lC) (rowW_one _) (by unfold maxLen; omega) (by omega) lC.size ?_; intro v2 w3 hown2 hgr2 hat2; obtain ⟨v2a, v2c, rfl⟩ := ownsRow_slice hown2; have lD : Below w.heap.size w w3 := lC.grown hgr2 lC.size (fun q hq => (hown1.lt q hq).1); refine hK.out _ _ (fun _ => lD) ?_; clear hK K; (try simp only [Act.put, List.setIfInBounds_toArray, List.set_cons_zero, List.set_cons_succ]); refine wpAnyF_ready (rs := [17]) (by kernel_rfl) (by simp) ?_; refine AllF.cons rfl (fun K hK => ?_) AllF.nil; go_simp; refine hK.out _ _ (fun _ => lD) ?_; clear hK K; (try simp only [Act.put, List.setIfInBounds_toArray, List.set_cons_zero, List.set_cons_succ]); refine wpAnyF_ready (rs := [18]) (by kernel_rfl) (by simp) ?_; refine AllF.cons rfl (fun K hK => ?_) AllF.nil; go_simp; refine hK.out _ _ (fun _ => lD) ?_; clear hK K; (try simp only [Act.put, List.setIfInBounds_toArray, List.set_cons_zero, List.set_cons_succ]); refine wpAnyF_ready (rs := [19]) (by kernel_rfl) (by simp) ?_; refine AllF.cons rfl (fun K hK => ?_) AllF.nil; have q0 := KW.out _ lD; have qf := KF.out _ lD; go_simp; refine hK.out _ _ (fun h => absurd rfl h) ?_; clear hK K; (try simp only [Act.put, List.setIfInBounds_toArray, List.set_cons_zero, List.set_cons_succ]); refine wpAnyF_done (by kernel_rfl) ?_ _; simp only [Nat.zero_add, List.nil_append] at hown2; have HO2 := Lib.hid hown2; have LD := Lib.hid lD; clear hown1 hgr1 hat1 hgr2 hat2 hown2 lD; go_wp2_with fail; go_ret; rw [HER.out, HSR.out]; have hnd := row_end (ws := ws.take k ++ ws.drop (k + 1)) HB.out LD.out (by rw [rowW_append]; exact HO2.out) (by rw [List.length_append, List.length_take, List.length_drop, HN.out]; omega) HWF2.out; exact ⟨rfl, hnd.1, hnd.2⟩
  · have hg : getEr th = 2 := by unfold getEr; rw [if_neg ht]
    have hE : cancE ws th = 2 := by unfold cancE; rw [if_pos ht]
    have hS : cancS ws th = ws := by unfold cancS; rw [hE]; rfl
    rw [hg] at HMAY
    rw [hE, hS]
    clear hg hE hS h ht
    go_enter Try.func42, Try.ntmps42
    go_wp2_with fail; refine (HMAY.out).mono ?_; rintro e w0 ⟨rfl, rfl⟩
    go_wp2_with fail
    go_ret
    exact ⟨rfl, Only.refl _ _, H.out, Fresh.refl _ _⟩
end Go.Proofs.Ytddcpehncbcliaa.Wai
