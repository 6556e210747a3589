/- What Do of package cells answers and leaves. -/
import Derived.Test.YtiopopplbehieaaCelB
import Derived.Deep.RegionLaw
namespace Go.Proofs.Ytiopopplbehieaa.Cel
open Go.RowKit
set_option linter.unusedSimpArgs false
set_option linter.unusedVariables false

theorem CellsAt.mono {T : TypeId} {w : World} {b : Nat} {F G : Nat → Prop} {s : CSt} (h : CellsAt T w b F s) (hs : ∀ k, F k → G k) (hG : Within G w) : CellsAt T w b G s := by
  obtain ⟨wb, wcap, v, h, f1, f2, f3, _⟩ := h
  exact ⟨wb, wcap, v, h, hs _ f1, hs _ f2, fun k hk => hs _ (f3 k hk), hG⟩
theorem CellsAt.grow {T : TypeId} {w w' : World} {b : Nat} {F : Nat → Prop} {s : CSt} (h : CellsAt T w b F s) (hb : Below w.heap.size w w') : CellsAt T w' b (Grow F w w') s :=
  (h.below hb).mono (fun k hk => .inl hk) (h.within.grow hb.size)

def opv (o : OpV) : Value := .agg #[.int .u8 o.k, .int .i64 o.c, .int .u64 o.a, .int .u64 o.b]
def dnv (d : Dn) : Value := .agg #[.int .u8 d.o.k, .int .i64 d.o.c, .int .u64 d.o.a, .int .u64 d.o.b, .int .u64 d.w, .bool d.ok]
def DoPost (T : TypeId) (w : World) (b : Nat) (F : Nat → Prop) (s : CSt) (o : OpV) (e : Ending) (w' : World) : Prop :=
  e = .returned (.tuple #[dnv (s.doD o), .int .i64 (s.doE o)]) ∧ CellsAt T w' b (Grow F w w') (s.doS o) ∧ Only F w w'

/-- the ways on which nothing becomes of it -/
theorem DoPost.err {T : TypeId} {w w' : World} {b : Nat} {F : Nat → Prop} {s : CSt} {o : OpV} (h : CellsAt T w b F s) (hb : Below w.heap.size w w') (he : s.doE o ≠ 0) :
    DoPost T w b F s o (.returned (.tuple #[dnv noDn, .int .i64 (s.doE o)])) w' := by
  refine ⟨by simp [CSt.doD, he], ?_, Only.of_below hb fun k hk h => by omega⟩
  have e : s.doS o = s := by simp [CSt.doS, he]
  rw [e]
  exact h.grow hb

theorem do_nil (w : World) (o : OpV) : Calls Try.prog 13 #[.pointer none, .agg #[.int .u8 o.k, .int .i64 o.c, .int .u64 o.a, .int .u64 o.b]] w fun e w' =>
    e = .returned (.tuple #[dnv noDn, .int .i64 1]) ∧ Below w.heap.size w w' := by
  go_enter Try.func13, Try.ntmps13
  go_wp2
  refine bodyPost_ret (v := .tuple #[dnv noDn, .int .i64 1]) (by simp [results, Try.results13, go_sem, dnv, noDn]) rfl ⟨rfl, ?_⟩
  repeat (first | (with_reducible exact Below.refl _ _) | (with_reducible apply Below.drew) | (with_reducible refine below_drewN ?_ _) | (with_reducible refine below_alloc' ?_ ?_ _; (focus ((try simp) <;> omega))) | (with_reducible refine below_set' ?_ ?_ _; (focus ((try simp) <;> omega))))

theorem do_range {F : Nat → Prop} (w : World) (b : Nat) (s : CSt) (h : CellsAt 66 w b F s) (o : OpV) (hr : s.inr o.c = false) :
    Calls Try.prog 13 #[ptr b, .agg #[.int .u8 o.k, .int .i64 o.c, .int .u64 o.a, .int .u64 o.b]] w (DoPost 66 w b F s o) := by
  have hE : s.doE o = 2 := by simp [CSt.doE, hr]
  have HE := Lib.hid (fun w' (hb : Below w.heap.size w w') => DoPost.err (o := o) h hb (by omega))
  rw [hE] at HE
  obtain ⟨wb, wcap, v, h, _⟩ := h
  have h0 := blk_cell h.obj 0
  have hlt := h.lt.1
  simp only [List.getElem?_toArray, List.getElem?_cons_zero] at h0
  obtain ⟨k, c, a, b'⟩ := o
  simp only [CSt.inr] at hr
  clear hE h
  by_cases h1 : c < 0
  · have hd : decide (c < 0) = true := by simpa using h1
    clear hr
    go_enter Try.func13, Try.ntmps13
    go_wp2_with fail
    go_quiet (fail)
    go_wp2_with fail
    refine bodyPost_ret (v := .tuple #[dnv noDn, .int .i64 2]) ?_ rfl ?_; (focus (simp [results, Try.results13, go_sem, dnv, noDn]; done))
    refine HE.out _ ?_
    repeat (first | (with_reducible exact Below.refl _ _) | (with_reducible apply Below.drew) | (with_reducible refine below_drewN ?_ _) | (with_reducible refine below_alloc' ?_ ?_ _; (focus ((try simp) <;> omega))) | (with_reducible refine below_set' ?_ ?_ _; (focus ((try simp) <;> omega))))
  · have hd : decide (c < 0) = false := by simpa using h1
    have hge : ((s.ws.length : Nat) : Int) ≤ c := by simp at hr; omega
    clear hr
    generalize s.ws.length = n at *
    go_enter Try.func13, Try.ntmps13
    go_wp2_with fail
    go_quiet (fail)
    go_wp2_with fail
    refine bodyPost_ret (v := .tuple #[dnv noDn, .int .i64 2]) ?_ rfl ?_; (focus (simp [results, Try.results13, go_sem, dnv, noDn]; done))
    refine HE.out _ ?_
    repeat (first | (with_reducible exact Below.refl _ _) | (with_reducible apply Below.drew) | (with_reducible refine below_drewN ?_ _) | (with_reducible refine below_alloc' ?_ ?_ _; (focus ((try simp) <;> omega))) | (with_reducible refine below_set' ?_ ?_ _; (focus ((try simp) <;> omega))))

theorem do_bad {F : Nat → Prop} (w : World) (b : Nat) (s : CSt) (hI : s.Inv) (h : CellsAt 66 w b F s) (o : OpV) (ho : o.Fit) (hr : s.inr o.c = true) (hb : (becV o (s.at o.c)).2.2 ≠ 0) :
    Calls Try.prog 13 #[ptr b, .agg #[.int .u8 o.k, .int .i64 o.c, .int .u64 o.a, .int .u64 o.b]] w (DoPost 66 w b F s o) := by
  have hE : s.doE o = (becV o (s.at o.c)).2.2 := by simp [CSt.doE, hr]
  have HE := Lib.hid (fun w' (hb' : Below w.heap.size w w') => DoPost.err (o := o) h hb' (by rw [hE]; exact hb))
  have HB := Lib.hid (fun W => become_any W o ho (s.at o.c) (CSt.at_fit hI _))
  rw [hE] at HE
  obtain ⟨wb, wcap, v, h, _⟩ := h
  have h0 := blk_cell h.obj 0
  have hlt := h.lt.1
  have hwlt := h.lt.2
  simp only [List.getElem?_toArray, List.getElem?_cons_zero] at h0
  obtain ⟨k, c, a, b'⟩ := o
  simp only [CSt.inr, decide_eq_true_eq] at hr
  obtain ⟨hr0, hr1⟩ := hr
  obtain ⟨m, rfl⟩ := Int.eq_ofNat_of_zero_le hr0
  have hml : m < s.ws.length := by omega
  have hc := h.cell m hml
  have hat : s.at (m : Int) = s.ws.getD m 0 := by simp [CSt.at]
  rw [hat] at HE HB hb
  generalize hr : becV ⟨k, m, a, b'⟩ (s.ws.getD m 0) = r at *
  clear hr hE h hat
  have hm32 := hI.small
  clear hI ho hr0 hr1
  generalize s.ws.length = n at *
  generalize s.ws.getD m 0 = x at *
  obtain ⟨r1, r2, r3⟩ := r
  have hd : decide ((m : Int) < 0) = false := by simp
  have hd2 : (r3 != 0) = true := by simpa using hb
  clear hb
  go_enter Try.func13, Try.ntmps13
  go_wp2_with fail
  go_quiet (fail)
  go_wp2_with fail
  go_quiet (fail)
  go_wp2_with fail
  refine (HB.out _).mono ?_
  rintro e w1 ⟨rfl, hw1⟩
  have hB := bblk hw1 (b := w.heap.size + 1) (o := .cells #[.int .u8 0, .int .i64 0, .int .u64 0, .int .u64 0, .int .u64 0, .bool false] 37) (by simp [↓heap_alloc_eq, ↓heap_set_eq, ↓heap_drew_eq, ↓heap_drewN_eq, setObj, size_drewN])
  have hL : Below w.heap.size w w1 := Below.trans (by repeat (first | (with_reducible exact Below.refl _ _) | (with_reducible apply Below.drew) | (with_reducible refine below_drewN ?_ _) | (with_reducible refine below_alloc' ?_ ?_ _; (focus ((try simp) <;> omega))) | (with_reducible refine below_set' ?_ ?_ _; (focus ((try simp) <;> omega))))) (hw1.mono (by simp [size_drewN]; omega))
  have c0 := blk_cell hB 0; have c1 := blk_cell hB 1; have c2 := blk_cell hB 2; have c3 := blk_cell hB 3; have c4 := blk_cell hB 4; have c5 := blk_cell hB 5
  have hf := blk_free hB
  simp only [List.getElem?_toArray, List.getElem?_cons_zero, List.getElem?_cons_succ] at c0 c1 c2 c3 c4 c5
  clear hB hw1 HB h0 hc
  go_wp2_with fail
  refine bodyPost_ret (v := .tuple #[dnv noDn, .int .i64 r3]) ?_ rfl ?_; (focus (simp [results, Try.results13, go_sem, dnv, noDn, c0, c1, c2, c3, c4, c5]; done))
  refine HE.out _ ?_
  repeat (first | (with_reducible exact hL) | (with_reducible refine below_set' ?_ ?_ _; (focus ((try simp) <;> omega))))

theorem Raw.store {T : TypeId} {w : World} {b wb wcap : Nat} {v : Value} {s : CSt} (h : Raw T w b wb wcap v s) (i : Nat) (x : Int) : Raw T (w.setCell ⟨wb, i, none⟩ (.int .u64 x)) b wb wcap v ⟨s.ws.set i x, s.log⟩ := by
  have h2 := h.ws.stored i (.int .u64 x)
  have e : (wordVals s.ws).set i (.int .u64 x) = wordVals (s.ws.set i x) := by simp [wordVals, List.map_set]
  rw [e] at h2
  have ho : Only (fun k => k = wb) w (w.setCell ⟨wb, i, none⟩ (.int .u64 x)) := (Only.refl (fun k => k = wb) w).setCell (.inr rfl) _
  refine ⟨?_, ?_, ownsRow_only h.log ho (fun k hk hk' => h.n3 (by rw [hk, hk'])), h.n1, h.n2, h.n3⟩
  · have := ho.blk h.obj h.n1
    simpa using this
  · simpa using h2.1

theorem ok_fin {T : TypeId} {W w' : World} {b wb wcap : Nat} {v v' : Value} {s : CSt} (hR : Raw T W b wb wcap v s) (hg : W.grownBy w' v.ownBlock) {n : Nat} {xs : List Value}
    (hown : w'.ownsRow 0 37 6 v' (s.log.length + 1) (logVals s.log ++ xs)) (hat : v'.ownBlock = v.ownBlock ∨ v'.ownBlock = some W.heap.size) {d : Dn} (hx : xs = d.vals) :
    Raw T (w'.setCell ⟨b, 1, none⟩ v') b wb wcap v' ⟨s.ws, s.log ++ [d]⟩ := by
  have ho : Only (fun k => v.ownBlock = some k) W w' := Only.of_grown hg fun _ h => h
  have hs : Only (fun k => k = b) w' (w'.setCell ⟨b, 1, none⟩ v') := (Only.refl (fun k => k = b) w').setCell (.inr rfl) _
  have hb := blk_lt hR.obj
  have hwb : wb < W.heap.size := ownsRow_lt hR.ws rfl
  have e1 : v'.ownBlock ≠ some b := by
    rcases hat with h | h <;> rw [h]
    · exact hR.n2
    · intro h; injection h with h; omega
  have e2 : v'.ownBlock ≠ some wb := by
    rcases hat with h | h <;> rw [h]
    · exact hR.n3
    · intro h; injection h with h; omega
  have hws := ownsRow_only (ownsRow_only hR.ws ho (fun k hk h => by
    injection hk with hk
    subst hk
    exact hR.n3 h)) hs (fun k hk h => hR.n1 (by
    injection hk with hk
    rw [← h]
    exact hk.symm))
  refine ⟨?_, hws, ?_, hR.n1, e1, e2⟩
  · have := blk_set (ho.blk hR.obj hR.n2) 1 v'
    simpa using this
  · have := ownsRow_only hown hs (fun k hk h => e1 (by rw [hk, h]))
    rw [logVals_snoc, ← hx]
    simpa using this

theorem do_fin {T : TypeId} {w W4 W' : World} {b wb wcap : Nat} {v' : Value} {F : Nat → Prop} {s' : CSt} (r : Nat) (hR : Raw T W4 b wb wcap v' s') (hO : Only F w W4) (hx : Only (fun k => k = r) W4 W') (hr : w.heap.size ≤ r) (hrv : v'.ownBlock ≠ some r)
    (f1 : F b) (f2 : F wb) (f3 : ∀ k, v'.ownBlock = some k → F k ∨ w.heap.size ≤ k) (hw : Within F w) : CellsAt T W' b (Grow F w W') s' ∧ Only F w W' := by
  have b1 := hw _ f1
  have b2 := hw _ f2
  have hR' := hR.keep hx (by omega) (by omega) (fun k hk h => hrv (by rw [hk, h]))
  refine ⟨⟨wb, wcap, v', hR', .inl f1, .inl f2, ?_, hw.grow (Nat.le_trans hO.size hx.size)⟩, hO.after hx fun k hk h => by omega⟩
  intro k hk
  rcases f3 k hk with h | h
  · exact .inl h
  · exact .inr ⟨h, ownsRow_lt hR'.log hk⟩
theorem do_ok {F : Nat → Prop} (w : World) (b : Nat) (s : CSt) (hI : s.Inv) (hl : s.log.length < 1000) (h : CellsAt 66 w b F s) (o : OpV) (ho : o.Fit) (hr : s.inr o.c = true) (hb : (becV o (s.at o.c)).2.2 = 0) :
    Calls Try.prog 13 #[ptr b, .agg #[.int .u8 o.k, .int .i64 o.c, .int .u64 o.a, .int .u64 o.b]] w (DoPost 66 w b F s o) := by
  have hE : s.doE o = 0 := by simp [CSt.doE, hr, hb]
  have HB := Lib.hid (fun W => become_any W o ho (s.at o.c) (CSt.at_fit hI _))
  have HS := Lib.hid (show s.doS o = ⟨s.ws.set o.c.toNat (becV o (s.at o.c)).1, s.log ++ [s.doD o]⟩ by simp [CSt.doS, hE])
  have HD := Lib.hid (show s.doD o = ⟨o, s.at o.c, (becV o (s.at o.c)).2.1⟩ by simp [CSt.doD, hE])
  obtain ⟨wb, wcap, v, h, hF⟩ := h
  have HF := Lib.hid hF; clear hF
  have H := Lib.hid h
  have h0 := blk_cell h.obj 0
  have hlt := h.lt.1
  have hwlt := h.lt.2
  simp only [List.getElem?_toArray, List.getElem?_cons_zero] at h0
  obtain ⟨k, c, a, b'⟩ := o
  simp only [CSt.inr, decide_eq_true_eq] at hr
  obtain ⟨hr0, hr1⟩ := hr
  obtain ⟨m, rfl⟩ := Int.eq_ofNat_of_zero_le hr0
  have hml : m < s.ws.length := by omega
  have hc := h.cell m hml
  have hat : s.at (m : Int) = s.ws.getD m 0 := by simp [CSt.at]
  rw [hat] at HB hb HS HD
  generalize hr : becV ⟨k, m, a, b'⟩ (s.ws.getD m 0) = r at *
  clear hr h hat
  have hm32 := hI.small
  clear hI ho hr0 hr1
  obtain ⟨n, hn⟩ : ∃ n, s.ws.length = n := ⟨_, rfl⟩
  have HN := Lib.hid hn
  rw [hn] at h0 hml hm32
  clear hn
  obtain ⟨x, hx⟩ : ∃ x, s.ws.getD m 0 = x := ⟨_, rfl⟩
  have HX := Lib.hid hx
  rw [hx] at hc HB HD
  clear hx
  obtain ⟨r1, r2, r3⟩ := r
  obtain rfl : r3 = 0 := hb
  have hd : decide ((m : Int) < 0) = false := by simp
  go_enter Try.func13, Try.ntmps13
  go_wp2_with fail
  go_quiet (fail)
  go_wp2_with fail
  go_quiet (fail)
  go_wp2_with fail
  refine (HB.out _).mono ?_
  rintro e w1 ⟨rfl, hw1⟩
  have hA := bblk hw1 (b := w.heap.size) (o := .cells #[.int .u8 k, .int .i64 m, .int .u64 a, .int .u64 b'] 35) (by simp [↓heap_alloc_eq, ↓heap_set_eq, ↓heap_drew_eq, ↓heap_drewN_eq, setObj, size_drewN])
  have hB := bblk hw1 (b := w.heap.size + 1) (o := .cells #[.int .u8 0, .int .i64 0, .int .u64 0, .int .u64 0, .int .u64 0, .bool false] 37) (by simp [↓heap_alloc_eq, ↓heap_set_eq, ↓heap_drew_eq, ↓heap_drewN_eq, setObj, size_drewN])
  have hL : Below w.heap.size w w1 := Below.trans (by repeat (first | (with_reducible exact Below.refl _ _) | (with_reducible apply Below.drew) | (with_reducible refine below_drewN ?_ _) | (with_reducible refine below_alloc' ?_ ?_ _; (focus ((try simp) <;> omega))) | (with_reducible refine below_set' ?_ ?_ _; (focus ((try simp) <;> omega))))) (hw1.mono (by simp [size_drewN]; omega))
  have hN := H.out.keep (Only.empty hL (Nat.le_refl _)) (fun h => h) (fun h => h) (fun _ _ h => h)
  have h0 := blk_cell hN.obj 0; have h1 := blk_cell hN.obj 1
  have a0 := blk_cell hA 0; have a1 := blk_cell hA 1; have a2 := blk_cell hA 2; have a3 := blk_cell hA 3
  have hc := hN.cell m (by rw [HN.out]; exact hml)
  have fw := hN.free
  simp only [List.getElem?_toArray, List.getElem?_cons_zero, List.getElem?_cons_succ] at h0 h1 a0 a1 a2 a3
  rw [HN.out] at h0
  rw [HX.out] at hc
  have hsz := hL.size
  have hlt1 : b < w1.heap.size := hN.lt.1
  have hwlt1 : wb < w1.heap.size := hN.lt.2
  have hn1 := hN.n1
  have hA1 := blk_lt hA
  have hB1 := blk_lt hB
  have HNN := Lib.hid hN; have HA := Lib.hid hA; have HBB := Lib.hid hB; have HL := Lib.hid hL
  have HVL := Lib.hid (fun k hk => ownsRow_lt H.out.log (k := k) hk)
  clear hw1 HB hN hA hB hL H
  go_wp2_with fail
  refine wp_region_tail 8 (by kernel_rfl) (by kernel_rfl) ?_; simp only [List.take_succ_cons, List.take_zero, List.drop_succ_cons, List.drop_zero]
  repeat (first | (with_reducible refine wpStill_skip ?_ ?_; (focus (simp [Region.wanted, yielded]; done)); simp only [Act.put, List.setIfInBounds_toArray, List.set_cons_succ, List.set_cons_zero]) | (with_reducible refine wpStill_step (fun KK hKK => ?_); go_simp; refine hKK _ ?_; clear hKK KK))
  with_reducible refine wpStill_nil ?_
  go_wp2_with fail
  obtain ⟨i0, hi, hz0, hz1, hz2⟩ := info_parts infoL
  have hR := (HNN.out.store m r1).keep (Only.empty (((Below.refl _ _).alloc (Nat.le_refl _) (.cells #[.int .u8 k, .int .i64 m, .int .u64 a, .int .u64 b', .int .u64 x, .bool r2] 37)).drew) (Nat.le_refl _)) (fun h => h) (fun h => h) (fun _ _ h => h)
  have hD := blk_new (w1.setCell ⟨wb, m, none⟩ (.int .u64 r1)) (.cells #[.int .u8 k, .int .i64 m, .int .u64 a, .int .u64 b', .int .u64 x, .bool r2] 37)
  simp only [World.size_setCell] at hD
  have hO : Only (fun k => k = wb) w1 ((w1.setCell ⟨wb, m, none⟩ (.int .u64 r1)).alloc (.cells #[.int .u8 k, .int .i64 m, .int .u64 a, .int .u64 b', .int .u64 x, .bool r2] 37)).drew := by repeat (first | (with_reducible exact Only.refl _ _) | (with_reducible apply Only.drew) | (with_reducible apply Only.drewN) | (with_reducible apply Only.alloc) | (with_reducible refine only_set' ?_ ?_ _; (focus ((try simp) <;> omega))))
  replace hD := blk_drew hD
  generalize ((w1.setCell ⟨wb, m, none⟩ (.int .u64 r1)).alloc (.cells #[.int .u8 k, .int .i64 m, .int .u64 a, .int .u64 b', .int .u64 x, .bool r2] 37)).drew = W2 at *
  have e1 : W2.cell? ⟨b, 1, none⟩ = some v := blk_cell hR.obj 1
  have d0 := blk_cell hD 0; have d1 := blk_cell hD 1; have d2 := blk_cell hD 2; have d3 := blk_cell hD 3; have d4 := blk_cell hD 4; have d5 := blk_cell hD 5
  have fb := blk_free hR.obj
  simp only [List.getElem?_toArray, List.getElem?_cons_zero, List.getElem?_cons_succ] at d0 d1 d2 d3 d4 d5
  have hDlt := blk_lt hD
  have hblt := blk_lt hR.obj
  have hbD : b ≠ w1.heap.size := by omega
  obtain ⟨W3, hW3⟩ : ∃ W3, W2.drew.alloc (.cells #[.int .u8 k, .int .i64 m, .int .u64 a, .int .u64 b', .int .u64 x, .bool r2] 37) = W3 := ⟨_, rfl⟩
  have hB3 : Below W2.heap.size W2 W3 := by rw [← hW3]; exact ((Below.refl _ _).drew).alloc (Nat.le_refl _) _
  have hR3 : Raw 66 W3 b wb wcap v ⟨s.ws.set m r1, s.log⟩ := hR.keep (Only.empty hB3 (Nat.le_refl _)) (fun h => h) (fun h => h) (fun _ _ h => h)
  have hD3 := bblk hB3 hD
  have hv : v.ownBlock ≠ some b := hR.n2
  have hvD : v.ownBlock ≠ some w1.heap.size := by
    intro h
    have := ownsRow_lt HNN.out.log h
    omega
  have e3 : W3.cell? ⟨b, 1, none⟩ = some v := blk_cell hR3.obj 1
  have f3 : ∀ i, W3.frozen? ⟨b, i, none⟩ = false := blk_free hR3.obj
  have KB : ∀ w', W3.grownBy w' v.ownBlock → w'.frozen? ⟨b, 1, none⟩ = false ∧ w'.cell? ⟨w1.heap.size, 0, none⟩ = some (.int .u8 k) ∧ w'.cell? ⟨w1.heap.size, 1, none⟩ = some (.int .i64 m) ∧ w'.cell? ⟨w1.heap.size, 2, none⟩ = some (.int .u64 a) ∧ w'.cell? ⟨w1.heap.size, 3, none⟩ = some (.int .u64 b') ∧ w'.cell? ⟨w1.heap.size, 4, none⟩ = some (.int .u64 x) ∧ w'.cell? ⟨w1.heap.size, 5, none⟩ = some (.bool r2) := by
    intro w' hg
    have ho : Only (fun k => v.ownBlock = some k) W3 w' := Only.of_grown hg fun _ h => h
    have hd := ho.blk hD3 hvD
    have d0 := blk_cell hd 0; have d1 := blk_cell hd 1; have d2 := blk_cell hd 2; have d3 := blk_cell hd 3; have d4 := blk_cell hd 4; have d5 := blk_cell hd 5
    simp only [List.getElem?_toArray, List.getElem?_cons_zero, List.getElem?_cons_succ] at d0 d1 d2 d3 d4 d5
    exact ⟨blk_free (ho.blk hR3.obj hv) 1, d0, d1, d2, d3, d4, d5⟩
  have KC : ∀ w', W3.grownBy w' v.ownBlock → w'.cell? ⟨b, 1, none⟩ = some v := fun w' hg => blk_cell ((Only.of_grown (S := fun k => v.ownBlock = some k) hg fun _ h => h).blk hR3.obj hv) 1
  have HKC := Lib.hid KC; clear KC
  have K3 := KB W3 ⟨rfl, rfl, rfl, Nat.le_refl _, fun _ _ _ => rfl⟩
  have KS : ∀ w' u, W3.grownBy w' v.ownBlock → (w'.setCell ⟨b, 1, none⟩ u).frozen? ⟨b, 1, none⟩ = false ∧ (w'.setCell ⟨b, 1, none⟩ u).cell? ⟨w1.heap.size, 0, none⟩ = some (.int .u8 k) ∧ (w'.setCell ⟨b, 1, none⟩ u).cell? ⟨w1.heap.size, 1, none⟩ = some (.int .i64 m) ∧ (w'.setCell ⟨b, 1, none⟩ u).cell? ⟨w1.heap.size, 2, none⟩ = some (.int .u64 a) ∧ (w'.setCell ⟨b, 1, none⟩ u).cell? ⟨w1.heap.size, 3, none⟩ = some (.int .u64 b') ∧ (w'.setCell ⟨b, 1, none⟩ u).cell? ⟨w1.heap.size, 4, none⟩ = some (.int .u64 x) ∧ (w'.setCell ⟨b, 1, none⟩ u).cell? ⟨w1.heap.size, 5, none⟩ = some (.bool r2) := by
    intro w' u hg
    have ho : Only (fun k => v.ownBlock = some k) W3 w' := Only.of_grown hg fun _ h => h
    have ho' : Only (fun k => v.ownBlock = some k ∨ k = b) W3 (w'.setCell ⟨b, 1, none⟩ u) := (ho.mono (fun _ _ h => .inl h)).setCell (.inr (.inr rfl)) u
    have hd := ho'.blk hD3 (by rintro (h | h); exact hvD h; omega)
    have hb := blk_set (ho.blk hR3.obj hv) 1 u
    have d0 := blk_cell hd 0; have d1 := blk_cell hd 1; have d2 := blk_cell hd 2; have d3 := blk_cell hd 3; have d4 := blk_cell hd 4; have d5 := blk_cell hd 5
    simp only [List.getElem?_toArray, List.getElem?_cons_zero, List.getElem?_cons_succ] at d0 d1 d2 d3 d4 d5
    exact ⟨blk_free hb 1, d0, d1, d2, d3, d4, d5⟩
  have hown3 := hR3.log
  have hnews : ∀ j u, ([.int .u8 k, .int .i64 m, .int .u64 a, .int .u64 b', .int .u64 x, .bool r2] : List Value)[j]? = some u → W3.cell? ((⟨W2.heap.size, 0, none⟩ : Addr).add j) = some u := by
    intro j u hu
    rw [Addr.add_lit, Nat.zero_add, ← hW3]
    have := blk_cell (blk_new W2.drew (.cells #[.int .u8 k, .int .i64 m, .int .u64 a, .int .u64 b', .int .u64 x, .bool r2] 37)) j
    rw [show W2.drew.heap.size = W2.heap.size from rfl] at this
    rw [this]
    simpa using hu
  have hone : ∀ u ∈ ([.int .u8 k, .int .i64 m, .int .u64 a, .int .u64 b', .int .u64 x, .bool r2] : List Value), u.oneCell' = true := by exact logVals_one [⟨⟨k, m, a, b'⟩, x, r2⟩]
  have hW3sz : 0 ≤ W3.heap.size := Nat.zero_le _
  have hlm : s.log.length + 1 ≤ maxLen := by unfold maxLen; omega
  have hlb : (s.log.length + 1) * 48 ≤ 140737488355328 := by omega
  have HR2 := Lib.hid hR3; have HO2 := Lib.hid hO; have HD2 := Lib.hid hD3; have HB3 := Lib.hid hB3
  have HKB := Lib.hid KB; have HKS := Lib.hid KS; have Hnews := Lib.hid hnews; have Hone := Lib.hid hone; have Hown := Lib.hid hown3
  clear a0 a1 a2 a3 hc fw h0 h1 hR hO hD KB KS hnews hone hown3 hR3 hD3 hB3
  obtain ⟨g0, y0, y1, y2, y3, y4, y5⟩ := K3
  go_region_law (first | (refine step_append_own rfl (.tmp 63) (.tmp 65) 48 rfl 0 37 i0 (.agg #[.int .u8 0, .int .i64 0, .int .u64 0, .int .u64 0, .int .u64 0, .bool false]) 6 48 Try.underlying48 hi hz0 hz1 hz2 rfl (by decide) v s.log.length (logVals s.log) rfl Hown.out ⟨W2.heap.size, 0, none⟩ 1 1 [.int .u8 k, .int .i64 m, .int .u64 a, .int .u64 b', .int .u64 x, .bool r2] rfl rfl Hnews.out Hone.out hlm hlb hW3sz ?_; intro v' w' hown hgr hat; have hgr' := Lib.hid hgr; obtain ⟨va, vc, rfl⟩ := ownsRow_slice hown; have hcell := HKC.out w' hgr; have hfrz := (HKB.out w' hgr).1))
  all_goals (
    have ho3 : Only (fun k => v.ownBlock = some k) W3 _ := Only.of_grown hgr fun _ h => h
    have hnew : ∀ k, v.ownBlock = some k → k < w.heap.size := fun k hk => by have := hsz; have := HNN.out.log; exact HVL.out k hk
    have hO4 := (((HO2.out.mono (T := fun k => k = wb ∨ k = b ∨ v.ownBlock = some k) (fun _ _ h => .inl h)).after (Only.empty HB3.out (Nat.le_refl _)) (fun _ _ h => h.elim)).after ho3 (fun k _ h => .inr (.inr h))).setCell (p := ⟨b, 1, none⟩) (.inr (.inr (.inl rfl))) (.slice va (s.log.length + 1) vc)
    have hBx := hO4.blk HBB.out (fun h => h.elim (fun h => by omega) (fun h => h.elim (fun h => by omega) (fun h => by have := hnew _ h; omega)))
    have ⟨_, c0, c1, c2, c3, c4, c5⟩ := HKS.out _ (.slice va (s.log.length + 1) vc) hgr
    have x0 := blk_cell hBx 0; have x1 := blk_cell hBx 1; have x2 := blk_cell hBx 2; have x3 := blk_cell hBx 3; have x4 := blk_cell hBx 4; have x5 := blk_cell hBx 5
    have fx := blk_free hBx
    simp only [List.getElem?_toArray, List.getElem?_cons_zero, List.getElem?_cons_succ] at x0 x1 x2 x3 x4 x5
    go_wp2_with fail
    refine bodyPost_ret (v := .tuple #[dnv ⟨⟨k, m, a, b'⟩, x, r2⟩, .int .i64 0]) ?_ rfl ?_; (focus (simp [results, Try.results13, go_sem, dnv, x0, x1, x2, x3, x4, x5, c0, c1, c2, c3, c4, c5]; done))
    obtain ⟨hF1, hF2, hF3, hF4⟩ := HF.out
    have e1 := HD.out
    have hRf := ok_fin HR2.out hgr (n := 0) hown hat (d := ⟨⟨k, m, a, b'⟩, x, r2⟩) rfl
    have hs3 := HB3.out.size
    have hOF := Only.after (S := F) (Only.of_below HL.out fun k hk h => by omega) hO4 (fun k _ h => h.elim (fun h => h ▸ hF2) (fun h => h.elim (fun h => h ▸ hF1) (fun h => hF3 _ h)))
    have hfin := fun W' hW' => do_fin (W' := W') (w.heap.size + 1) hRf hOF hW' (by omega) (by
      rcases hat with h | h <;> rw [h]
      · intro h; have := hnew _ h; omega
      · intro h; injection h with h; omega) hF1 hF2 (by
      intro k hk
      rcases hat with h | h <;> rw [h] at hk
      · exact .inl (hF3 _ hk)
      · injection hk with hk
        exact .inr (by omega)) hF4
    rw [DoPost, HD.out, hE, HS.out, HD.out]
    refine ⟨rfl, hfin _ ?_⟩
    repeat (first | (with_reducible exact Only.refl _ _) | (with_reducible apply Only.drew) | (with_reducible apply Only.drewN) | (with_reducible apply Only.alloc) | (with_reducible refine only_set' ?_ ?_ _; (focus ((try simp) <;> omega)))))

theorem do_any {F : Nat → Prop} (w : World) (b : Nat) (s : CSt) (hI : s.Inv) (hl : s.log.length < 1000) (h : CellsAt 66 w b F s) (o : OpV) (ho : o.Fit) :
    Calls Try.prog 13 #[ptr b, opv o] w (DoPost 66 w b F s o) := by
  cases hr : s.inr o.c with
  | false => exact do_range w b s h o hr
  | true =>
    by_cases hb : (becV o (s.at o.c)).2.2 = 0
    · exact do_ok w b s hI hl h o ho hr hb
    · exact do_bad w b s hI h o ho hr hb
end Go.Proofs.Ytiopopplbehieaa.Cel
