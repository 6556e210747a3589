/- The document's side: attempts in an order over a heap. -/
import Derived.Test.YtganmdbhmihjpaaGreatOpaAD
import Derived.Test.YtganmdbhmihjpaaGreatOpaR
namespace Go.Proofs.YtganmdbhmihjpaaGreat.Opa
open Go.RowKit Go.Proofs.YtganmdbhmihjpaaGreat.Wri Go.Proofs.YtganmdbhmihjpaaGreat.His
set_option linter.unusedSimpArgs false
set_option linter.unusedVariables false
set_option maxRecDepth 50000

def RunPost (w : World) (R : Int × Int × List Int) (e : Ending) (w' : World) : Prop :=
  Below w.heap.size w w' ∧ ((R.2.1 ≠ 0 ∧ e = .returned (.tuple #[.int .i64 R.1, .int .i64 R.2.1, .slice none 0 0])) ∨ (R.2.1 = 0 ∧ ∃ v, e = .returned (.tuple #[.int .i64 0, .int .i64 0, v]) ∧ ValsAt 0 w' v R.2.2))
theorem RunPost.bad {w w' : World} {R : Int × Int × List Int} {i x : Int} {vs : List Int} (hx : x ≠ 0) (hR : R = (i, x, vs)) (l : Below w.heap.size w w') : RunPost w R (.returned (.tuple #[.int .i64 i, .int .i64 x, .slice none 0 0])) w' := by
  subst hR
  exact ⟨l, .inl ⟨hx, rfl⟩⟩
theorem RunPost.good {w w' : World} {R : Int × Int × List Int} {v : Value} {vs : List Int} (hR : R = (0, 0, vs)) (l : Below w.heap.size w w') (h : ValsAt 0 w' v vs) : RunPost w R (.returned (.tuple #[.int .i64 0, .int .i64 0, v])) w' := by
  subst hR
  exact ⟨l, .inr ⟨rfl, v, rfl, h⟩⟩
/-- append(an own row, a slice, nil or not) -/
theorem wpList_append_vals {P : Program} (w : World) {ops : Array Oper} {rest : List Oper} {o : Oper} {a : Act} {Q : Exit → Act → World → Prop} (hgd : o.guard = none) (s x : Operand) (t : TypeId)
    (ho : o.op = .call { callee := .builtin .append, args := #[s, x], argTypes := #[t, t] })
    (base : Nat) (e : TypeId) (i : TypeInfo) (z : Value) (size bytes : Nat) (ht : P.underlying t = some (.slice e)) (hi : P.info? e = some i) (hz : i.zero = some z)
    (hsize : i.size = size) (hby : i.bytes = bytes) (hzs : z.cells.size = size) (hsz : 0 < size)
    (v : Value) (n : Nat) (xs : List Value) (hs : a.eval s = v) (hown : w.ownsRow base e size v n xs)
    (ad : Option Addr) (m c : Nat) (ys : List Value) (hx : a.eval x = .slice ad m c) (hl : ys.length = m * size) (hnil : ad = none → m = 0 ∧ c = 0) (hnews : ∀ p, ad = some p → ∀ j u, ys[j]? = some u → w.cell? (p.add j) = some u) (h1 : ∀ u ∈ ys, u.oneCell' = true)
    (h63 : n + m ≤ maxLen) (hbytes : (n + m) * bytes ≤ 140737488355328) (hbase : base ≤ w.heap.size)
    (h : ∀ v' w', w'.ownsRow base e size v' (n + m) (xs ++ ys) → w.grownBy w' v.ownBlock → wpList P ops Q rest (a.put o.dst v') w') : wpList P ops Q (o :: rest) a w := by
  cases ad with
  | none =>
    obtain ⟨rfl, rfl⟩ := hnil rfl
    have hys : ys = [] := List.eq_nil_of_length_eq_zero (by simpa using hl)
    subst hys
    refine wpList_plain hgd fun K hK => ?_
    have hr := run_append_none hown t o.type i ht hi
    unfold Oper.wp execOp
    simp only [ho, resolve, invoke, builtin, Sem.run_bind, Sem.run_pure, Result.andThen_ok, List.map_toArray, List.map_cons, List.map_nil, hs, hx, hr]
    exact hK _ _ (h v w (by simpa using hown) ⟨rfl, rfl, rfl, Nat.le_refl _, fun _ _ _ => rfl⟩)
  | some p => exact wpList_append_own_at w hgd s x t ho base e i z size bytes ht hi hz hsize hby hzs hsz v n xs hs hown p m c ys hx hl (hnews p rfl) h1 h63 hbytes hbase fun v' w' h2 h3 _ _ => h v' w' h2 h3
set_option maxHeartbeats 12800000 in
theorem rrun_any {w : World} {p : Option Addr} {n c : Nat} {l : List Ev} {a : Option Addr} {m d : Nat} {vs : List Int} {a2 : Option Addr} {m2 d2 : Nat} {C : List Int} (h : Asked w p n c l a m d vs a2 m2 d2 C) (hm2 : m2 ≤ 1000000)
    (hok1 : ∀ t, OneOk (oneOf l C t)) (a1 : Option Addr) (m1 d1 : Nat) (order : List Int) (ho : IntsIn w a1 m1 order) (hm1 : m1 ≤ 1000) :
    Calls Tryz.prog 24 #[.slice p n c, .slice a m d, .slice a1 m1 d1, .slice a2 m2 d2] w (RunPost w (firstL l (oneOf l C) order 0 vs)) := by
  obtain ⟨i0, hi, hz0, hz1, hz2⟩ := info_parts infoV
  obtain ⟨R, hR⟩ : ∃ R, firstL l (oneOf l C) order 0 vs = R := ⟨_, rfl⟩
  rw [hR]
  have HR := Lib.hid hR; have H := Lib.hid h; have HO := Lib.hid ho; have HK := Lib.hid hok1
  have hm := h.hm
  have hOK : ∀ x ∈ l, 0 ≤ x.v ∧ x.v < 18446744073709551616 := fun x hx => (h.ok x hx).2
  have HOK := Lib.hid hOK
  have HN := Lib.hid (show n ≤ 1000000 by have := h.hn; omega)
  have HVL := Lib.hid h.vals.1
  have hE : (w.alloc (.cells #[] 58)).ownsRow w.heap.size 58 1 (.slice (some ⟨w.heap.size, 0, none⟩) 0 0) 0 [] := by
    have := World.ownsRow_lit (base := w.heap.size) (e := 58) (size := 1) w #[] 0 (Nat.le_refl _) (by decide) (by simp)
    simpa using this
  have HE := Lib.hid hE
  have HVAL := Lib.hid h.vals; have HZ := Lib.hid h.hz
  clear hR h ho hok1 hOK hE
  go_enter Tryz.func24, Tryz.ntmps24
  go_wp2_with (at_builtin; refine wpList_append_vals (w.alloc (.cells #[] 58)) rfl _ _ 23 rfl w.heap.size 58 i0 (.int .u64 0) 1 8 Tryz.underlying23 hi hz0 hz1 hz2 rfl (by decide) _ 0 [] rfl HE.out a m d (valVals vs) rfl ?c0 HZ.out ?c1 (valVals_one _) ?c3 ?c4 ?c5 ?_)
  case c0 => exact (by rw [List.length_map, HVL.out, Nat.mul_one])
  case c1 =>
    intro pa hpa j u hu
    subst hpa
    have hj : j < m := by
      have := (List.getElem?_eq_some_iff.1 hu).1
      rw [List.length_map, HVL.out] at this
      exact this
    rcases HVAL.out.2 with h0 | ⟨b, off, e, hc⟩
    · omega
    · injection e with e
      subst e
      rw [valVals_get vs j (by rw [HVL.out]; exact hj)] at hu
      injection hu with hu
      rw [Addr.add_lit, ← hu]
      exact bkeep ((Below.refl _ _).alloc (Nat.le_refl _) _) (hc j hj)
  case c3 => unfold maxLen; omega
  case c4 => omega
  case c5 => simp
  intro hv w1 hown hgr
  have hB : Below w.heap.size w w1 := ((Below.refl _ w).alloc (Nat.le_refl _) (.cells #[] 58)).grown hgr (by simp) (by simp [Value.ownBlock])
  obtain ⟨ha, hc, rfl⟩ := ownsRow_slice hown
  have HV := Lib.hid (show w1.ownsRow w.heap.size 58 1 (.slice ha (0 + m) hc) (0 + m) (valVals vs) from by simpa using hown)
  rw [Nat.zero_add] at HV
  (try simp only [Nat.zero_add])
  have HB := Lib.hid hB
  clear hown hgr hB HE HVAL
  go_wp2_with fail
  go_loopw [12] (fun i wr => ∃ (k : Nat) (vs' : List Int), i = .int .i64 k ∧ k ≤ m1 ∧ wr.ownsRow w.heap.size 58 1 (.slice ha m hc) m (valVals vs') ∧ vs'.length = m ∧ firstL l (oneOf l C) (order.drop k) k vs' = R ∧ Below w.heap.size w wr) (fun i _ => m1 - (intOf i).toNat)
  case atStart => exact ⟨0, vs, rfl, Nat.zero_le _, HV.out, HVL.out, by simpa using HR.out, HB.out⟩
  case round =>
    obtain ⟨k, vs', rfl, hk, hV, hvl, hF, hB⟩ := hrel
    obtain ⟨wo, rfl⟩ : ∃ wo, wo = wr := ⟨wr, rfl⟩
    have HV := Lib.hid hV; have HB := Lib.hid hB; have HF := Lib.hid hF; have HL := Lib.hid hvl
    clear hV hB hF hvl
    by_cases hlt : k < m1
    · obtain ⟨b, off, rfl, hcc⟩ := HO.out.2.resolve_left (by omega)
      have c0 := bkeep HB.out (hcc k hlt)
      have hdk : order.drop k = order.getD k 0 :: order.drop (k + 1) := by
        rw [List.drop_eq_getElem_cons (by rw [HO.out.1]; exact hlt), List.getD_eq_getElem?_getD, List.getElem?_eq_getElem (by rw [HO.out.1]; exact hlt)]
        rfl
      obtain ⟨t, ht⟩ : ∃ t, order.getD k 0 = t := ⟨_, rfl⟩
      rw [ht] at c0 hdk
      have HF2 := Lib.hid (show (if (order.drop (k + 1)).any (fun m => beforeL m t l false) = true then ((k : Int), (8 : Int), vs') else if fitsB (oneOf l C t) vs' = true then firstL l (oneOf l C) (order.drop (k + 1)) (k + 1) (layL (oneOf l C t) vs') else ((k : Int), (9 : Int), vs')) = R by
        rw [← HF.out, hdk, firstL])
      have hkn : (k : Int) < m1 := by omega
      have hw1 : IntKind.i64.wrap ((k : Int) + 1) = ((k + 1 : Nat) : Int) := by rw [IntKind.wrap_i64]; omega
      have HCC := Lib.hid hcc
      have HC0 := Lib.hid c0
      clear hdk ht HF hcc
      go_wp2_with fail
      try rw [hw1]
      go_loopw [13] (fun i wr => ∃ j : Nat, i = .int .i64 j ∧ k + 1 ≤ j ∧ j ≤ m1 ∧ (∀ y ∈ (order.take j).drop (k + 1), beforeL y t l false = false) ∧ Below wo.heap.size wo wr) (fun i _ => m1 - (intOf i).toNat)
      case atStart => exact ⟨k + 1, rfl, Nat.le_refl _, by omega, by rw [List.drop_eq_nil_of_le (by rw [List.length_take]; omega)]; simp, Below.refl _ _⟩
      case round =>
        obtain ⟨j, rfl, hj1, hj, hno, hB2⟩ := hrel
        have HNO := Lib.hid hno; have HB2 := Lib.hid hB2
        clear hno hB2
        by_cases hlt2 : j < m1
        · have HBW := Lib.hid (btrans HB.out (Nat.le_refl _) HB2.out)
          have d0 := bkeep HBW.out (HCC.out j hlt2)
          have e0 := bkeep HB2.out HC0.out
          have hT := take_snoc order j (by rw [HO.out.1]; exact hlt2)
          have hmem : order.getD j 0 ∈ order.drop (k + 1) := by
            rw [List.getD_eq_getElem?_getD, List.getElem?_eq_getElem (by rw [HO.out.1]; exact hlt2)]
            refine List.mem_iff_getElem?.2 ⟨j - (k + 1), ?_⟩
            rw [List.getElem?_drop, show k + 1 + (j - (k + 1)) = j by omega, List.getElem?_eq_getElem (by rw [HO.out.1]; exact hlt2)]
            rfl
          obtain ⟨y, hy⟩ : ∃ y, order.getD j 0 = y := ⟨_, rfl⟩
          rw [hy] at d0 hT hmem
          have HT := Lib.hid (show (order.take (j + 1)).drop (k + 1) = (order.take j).drop (k + 1) ++ [y] by
            rw [hT, List.drop_append_of_le_length (by rw [List.length_take, HO.out.1]; omega)])
          have HMEM := Lib.hid hmem
          have HBF := Lib.hid (rbefore_any wr.drew p n c l (H.out.evs.below HBW.out.drew) HN.out y t)
          have hjn : (j : Int) < m1 := by omega
          have hw2 : IntKind.i64.wrap ((j : Int) + 1) = (j : Int) + 1 := by rw [IntKind.wrap_i64]; omega
          have Q0 : wr.drew.cell? ⟨b, off + j, none⟩ = some (.int .i64 y) ∧ wr.drew.cell? ⟨b, off + k, none⟩ = some (.int .i64 t) := ⟨d0, e0⟩
          obtain ⟨bb, hbb⟩ : ∃ bb, beforeL y t l false = bb := ⟨_, rfl⟩
          rw [hbb] at HBF
          have HBB := Lib.hid hbb
          clear hT hmem hy hbb d0 e0
          go_wp2_with fail
          refine wp_region_held_drew (S := fun w' => w'.cell? ⟨b, off + j, none⟩ = some (.int .i64 y) ∧ w'.cell? ⟨b, off + k, none⟩ = some (.int .i64 t)) (by kernel_rfl) Q0 (fun hS9 => ?_)
          refine wpAnyH_take2 (i := 0) (v := ?_) rfl (by kernel_rfl) (by kernel_rfl) (by kernel_rfl) (fun _ _ _ h => h) (Or.inl ⟨by rfl, ?_⟩) (by assumption) ?_; rotate_left; (focus (intro w hSw; (skip); (first | (go_simp; done) | (go_simp; with_reducible rfl)))); (try simp only [Act.put, List.setIfInBounds_toArray, List.set_cons_zero, List.set_cons_succ])
          refine wpAnyH_take2 (i := 1) (v := ?_) rfl (by kernel_rfl) (by kernel_rfl) (by kernel_rfl) (fun _ _ _ h => h) (Or.inl ⟨by rfl, ?_⟩) (by assumption) ?_; rotate_left; (focus (intro w hSw; (skip); (first | (go_simp; done) | (go_simp; with_reducible rfl)))); (try simp only [Act.put, List.setIfInBounds_toArray, List.set_cons_zero, List.set_cons_succ])
          refine wpAnyH_take2 (i := 2) (v := ?_) rfl (by kernel_rfl) (by kernel_rfl) (by kernel_rfl) (fun _ _ _ h => h) (Or.inl ⟨by rfl, ?_⟩) (by assumption) ?_; rotate_left; (focus (intro w hSw; (skip); (first | (go_simp; done) | (go_simp; with_reducible rfl)))); (try simp only [Act.put, List.setIfInBounds_toArray, List.set_cons_zero, List.set_cons_succ])
          refine wpAnyH_take2 (i := 3) (v := ?_) rfl (by kernel_rfl) (by kernel_rfl) (by kernel_rfl) (fun _ _ _ h => h) (Or.inl ⟨by rfl, ?_⟩) (by assumption) ?_; rotate_left; (focus (intro w hSw; (skip); (first | (go_simp; done) | (go_simp; with_reducible rfl)))); (try simp only [Act.put, List.setIfInBounds_toArray, List.set_cons_zero, List.set_cons_succ])
          refine wpAnyH_take2 (i := 4) (v := ?_) rfl (by kernel_rfl) (by kernel_rfl) (by kernel_rfl) (fun _ _ _ h => h) (Or.inl ⟨by rfl, ?_⟩) (by assumption) ?_; rotate_left; (focus (intro w hSw; (obtain ⟨q0, q1⟩ := hSw); (first | (go_simp; done) | (go_simp; with_reducible rfl)))); (try simp only [Act.put, List.setIfInBounds_toArray, List.set_cons_zero, List.set_cons_succ])
          refine wpAnyH_take2 (i := 5) (v := ?_) rfl (by kernel_rfl) (by kernel_rfl) (by kernel_rfl) (fun _ _ _ h => h) (Or.inl ⟨by rfl, ?_⟩) (by assumption) ?_; rotate_left; (focus (intro w hSw; (skip); (first | (go_simp; done) | (go_simp; with_reducible rfl)))); (try simp only [Act.put, List.setIfInBounds_toArray, List.set_cons_zero, List.set_cons_succ])
          refine wpAnyH_take2 (i := 6) (v := ?_) rfl (by kernel_rfl) (by kernel_rfl) (by kernel_rfl) (fun _ _ _ h => h) (Or.inl ⟨by rfl, ?_⟩) (by assumption) ?_; rotate_left; (focus (intro w hSw; (skip); (first | (go_simp; done) | (go_simp; with_reducible rfl)))); (try simp only [Act.put, List.setIfInBounds_toArray, List.set_cons_zero, List.set_cons_succ])
          refine wpAnyH_take2 (i := 7) (v := ?_) rfl (by kernel_rfl) (by kernel_rfl) (by kernel_rfl) (fun _ _ _ h => h) (Or.inl ⟨by rfl, ?_⟩) (by assumption) ?_; rotate_left; (focus (intro w hSw; (skip); (first | (go_simp; done) | (go_simp; with_reducible rfl)))); (try simp only [Act.put, List.setIfInBounds_toArray, List.set_cons_zero, List.set_cons_succ])
          refine wpAnyH_take2 (i := 8) (v := ?_) rfl (by kernel_rfl) (by kernel_rfl) (by kernel_rfl) (fun _ _ _ h => h) (Or.inl ⟨by rfl, ?_⟩) (by assumption) ?_; rotate_left; (focus (intro w hSw; (obtain ⟨q0, q1⟩ := hSw); (first | (go_simp; done) | (go_simp; with_reducible rfl)))); (try simp only [Act.put, List.setIfInBounds_toArray, List.set_cons_zero, List.set_cons_succ])
          refine wpAnyH_ready (rs := [9]) (by kernel_rfl) (by simp) ?_; refine AllReadyH_cons2 rfl (fun K hK => ?_) AllReadyH.nil
          go_simp
          refine HBF.out.mono ?_
          rintro e w3 ⟨rfl, rfl⟩
          dsimp only
          refine hK.out _ _ Q0 (fun hS9 => ?_); clear hK K; (try simp only [Act.put, List.setIfInBounds_toArray, List.set_cons_zero, List.set_cons_succ])
          refine wpAnyH_done (by kernel_rfl) ?_ _
          cases bb with
          | true =>
            have hx : R = ((k : Int), 8, vs') := by
              rw [← HF2.out, if_pos (List.any_eq_true.2 ⟨y, HMEM.out, HBB.out⟩)]
            go_wp2_with fail
            refine bodyPost_ret (v := .tuple #[.int .i64 k, .int .i64 8, .slice none 0 0]) ?_ rfl ?_; (focus (simp [results, Tryz.results24, go_sem, Nat.zero_le]; done))
            exact .bad (by decide) hx HBW.out.drew
          | false =>
            have HN2 := Lib.hid (show ∀ y ∈ (order.take (j + 1)).drop (k + 1), beforeL y t l false = false by
              intro z hz
              rw [HT.out, List.mem_append, List.mem_singleton] at hz
              rcases hz with hz | hz
              · exact HNO.out z hz
              · rw [hz]; exact HBB.out)
            go_wp2_with fail
            exact ⟨⟨j + 1, by go_num, by omega, by omega, HN2.out, HB2.out.drew⟩, by simp [intOf]; omega⟩
        · obtain rfl : j = m1 := by omega
          have hany : (order.drop (k + 1)).any (fun m => beforeL m t l false) = false := by
            rw [Bool.eq_false_iff]
            intro hh
            obtain ⟨y, hy, hb⟩ := List.any_eq_true.1 hh
            have := HNO.out y (by rw [List.take_of_length_le (by rw [HO.out.1]; exact Nat.le_refl _)]; exact hy)
            rw [this] at hb
            cases hb
          have HF3 := Lib.hid (show (if fitsB (oneOf l C t) vs' = true then firstL l (oneOf l C) (order.drop (k + 1)) (k + 1) (layL (oneOf l C t) vs') else ((k : Int), (9 : Int), vs')) = R by
            rw [← HF2.out, hany]
            exact (if_neg (show ¬ (false = true) by decide)).symm)
          have HBW := Lib.hid (btrans HB.out (Nat.le_refl _) HB2.out)
          have c1 := bkeep HB2.out HC0.out
          have HST := Lib.hid (rstate_any wr p n c l (H.out.evs.below HBW.out) HN.out t)
          have HIN := Lib.hid (rin_o wr a2 m2 d2 C t (H.out.com.below HBW.out) hm2)
          have HVR := Lib.hid (ownsRow_only HV.out (Only.empty HB2.out (Nat.le_refl _)) fun _ _ h => h)
          have HONE := Lib.hid (rone_any (w := wr) (p := p) (n := n) (c := c) (l := l) (hv := .slice ha m hc) (vs := vs') (fun W o => H.out.evs.below (HBW.out.trans (o.below HBW.out.size fun k hk e => absurd (World.ownsRow.lt HVR.out k e).1 (Nat.not_le.2 hk)))) HOK.out HN.out (by unfold ValsAt; rw [HL.out]; exact ownsRow_base HVR.out fun _ _ => Nat.zero_le _) (by rw [HL.out]; exact hm) t ((stateL l t == 3) || decide (t ∈ C)) (oneOf l C t) rfl (HK.out t))
          obtain ⟨st, hst⟩ : ∃ st, stateL l t = st := ⟨_, rfl⟩
          rw [hst] at HST HONE
          clear hany HF2 HNO hst
          have fin : True := trivial
          cases hs3 : (st == 3) with
          | true =>
            rw [hs3, Bool.true_or] at HONE
            go_wp2_with fail
            refine HST.out.mono ?_
            rintro e w3 ⟨rfl, rfl⟩
            go_wp2_with fail
            refine HONE.out.mono ?_
            rintro e w4 ⟨rfl, hl, o4⟩
            have L4 := Lib.hid (HBW.out.trans (o4.below HBW.out.size fun k hk e => absurd (World.ownsRow.lt HVR.out k e).1 (Nat.not_le.2 hk)))
            have HLL := Lib.hid hl
            clear hl o4 hs3
            cases hfb : fitsB (oneOf l C t) vs' with
            | false =>
              have hx : R = ((k : Int), 9, vs') := by rw [← HF3.out, hfb, if_neg (by decide)]
              go_wp2_with fail
              refine bodyPost_ret (v := .tuple #[.int .i64 k, .int .i64 9, .slice none 0 0]) ?_ rfl ?_; (focus (simp [results, Tryz.results24, go_sem, Nat.zero_le]; done))
              exact .bad (by decide) hx L4.out
            | true =>
              have HF4 := Lib.hid (show firstL l (oneOf l C) (order.drop (k + 1)) ((k + 1 : Nat) : Int) (layL (oneOf l C t) vs') = R by rw [← HF3.out, hfb, if_pos rfl]; rfl)
              have HVN := Lib.hid (show w4.ownsRow w.heap.size 58 1 (.slice ha m hc) m (valVals (layL (oneOf l C t) vs')) from by
                have h1 := HLL.out hfb
                unfold ValsAt at h1
                rw [layL_len, HL.out] at h1
                exact ownsRow_base h1 fun k hk => (World.ownsRow.lt HVR.out k hk).1)
              clear hfb
              go_wp2_with fail
              exact ⟨⟨k + 1, _, by first | rfl | rw [hw1] | go_num, by omega, HVN.out, by rw [layL_len, HL.out], HF4.out, L4.out⟩, by simp [intOf]; omega⟩
          | false =>
            rw [hs3, Bool.false_or] at HONE
            go_wp2_with fail
            refine HST.out.mono ?_
            rintro e w3 ⟨rfl, rfl⟩
            go_wp2_with fail
            refine HIN.out.mono ?_
            rintro e w3 ⟨rfl, rfl⟩
            go_wp2_with fail
            refine HONE.out.mono ?_
            rintro e w4 ⟨rfl, hl, o4⟩
            have L4 := Lib.hid (HBW.out.trans (o4.below HBW.out.size fun k hk e => absurd (World.ownsRow.lt HVR.out k e).1 (Nat.not_le.2 hk)))
            have HLL := Lib.hid hl
            clear hl o4 hs3
            cases hfb : fitsB (oneOf l C t) vs' with
            | false =>
              have hx : R = ((k : Int), 9, vs') := by rw [← HF3.out, hfb, if_neg (by decide)]
              go_wp2_with fail
              refine bodyPost_ret (v := .tuple #[.int .i64 k, .int .i64 9, .slice none 0 0]) ?_ rfl ?_; (focus (simp [results, Tryz.results24, go_sem, Nat.zero_le]; done))
              exact .bad (by decide) hx L4.out
            | true =>
              have HF4 := Lib.hid (show firstL l (oneOf l C) (order.drop (k + 1)) ((k + 1 : Nat) : Int) (layL (oneOf l C t) vs') = R by rw [← HF3.out, hfb, if_pos rfl]; rfl)
              have HVN := Lib.hid (show w4.ownsRow w.heap.size 58 1 (.slice ha m hc) m (valVals (layL (oneOf l C t) vs')) from by
                have h1 := HLL.out hfb
                unfold ValsAt at h1
                rw [layL_len, HL.out] at h1
                exact ownsRow_base h1 fun k hk => (World.ownsRow.lt HVR.out k hk).1)
              clear hfb
              go_wp2_with fail
              exact ⟨⟨k + 1, _, by first | rfl | rw [hw1] | go_num, by omega, HVN.out, by rw [layL_len, HL.out], HF4.out, L4.out⟩, by simp [intOf]; omega⟩
    · obtain rfl : k = m1 := by omega
      have hf := HF.out
      rw [List.drop_eq_nil_of_le (by rw [HO.out.1]; exact Nat.le_refl _), firstL] at hf
      have HF2 := Lib.hid hf.symm
      have HVV := Lib.hid (show ValsAt 0 wo (.slice ha m hc) vs' by
        unfold ValsAt
        rw [HL.out]
        exact ownsRow_base HV.out fun _ _ => Nat.zero_le _)
      clear hf
      go_wp2_with fail
      refine bodyPost_ret (v := .tuple #[.int .i64 0, .int .i64 0, .slice ha m hc]) ?_ rfl ?_; (focus (simp [results, Tryz.results24, go_sem, Nat.zero_le]; done))
      exact .good HF2.out HB.out HVV.out
end Go.Proofs.YtganmdbhmihjpaaGreat.Opa
