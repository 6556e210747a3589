/- The real side: play, for whatever function it tells. -/
import Derived.Test.YtfpiecnbnoinnaaHisL
import Derived.Test.YtfpiecnbnoinnaaHisD
namespace Go.Proofs.Ytfpiecnbnoinnaa.His
open Go.RowKit Go.Proofs.Ytfpiecnbnoinnaa.Wri
set_option linter.unusedSimpArgs false
set_option linter.unusedVariables false
set_option maxRecDepth 50000

def ownS (p : List Ev) : List Frm := p.foldl actS [[]]
theorem ownS_snoc (p : List Ev) (x : Ev) : ownS (p ++ [x]) = actS (ownS p) x := by simp [ownS]
theorem ownS_cut (l : List Ev) (n : Int) : ownS (cutL l n) = ownL l n := rfl
/-- what a told function does: I says what it has come to behind a beginning of the events; S are the blocks that it changes -/
structure Told (w : World) (f : FuncId) (cap : Array Value) (S : Nat → Prop) (I : List Ev → World → Prop) (L : List Ev) : Prop where
  ini : I [] w
  fn : ∀ args W, (callFunc f args).run Try.prog W = .ok (.enter f args) W
  lo : ∀ k, S k → k < w.heap.size
  odd : ∀ p W, I p W → Strange W S
  below : ∀ p W W', I p W → Below W.heap.size W W' → I p W'
  turn : ∀ p W W' q, I p W → Only (fun k => k = q) W W' → (∃ cs, W.heap[q]? = some (.cells cs 79 (0, 0))) → w.heap.size ≤ q → I p W'
  skip : ∀ p x W, I p W → x.k ≠ 2 → I (p ++ [x]) W
  call : ∀ p x W, I p W → x.k = 2 → (∃ r, p ++ x :: r = L) → w.heap.size ≤ W.heap.size → Calls Try.prog f (#[evV x, .int .u64 ((getL (ownS p) x.t).getD 0), .bool (getL (ownS p) x.t).isSome] ++ cap) W fun e W' => e = .returned (.tuple #[]) ∧ I (p ++ [x]) W' ∧ Only S W W'
theorem lget_p {w : World} {q : Nat} {fs : List Frm} (h : LAt w q fs) (t : Int) : Calls Try.prog 52 #[ptr q, .int .i64 t] w fun e w' => e = .returned (.tuple #[.int .u64 ((getL fs t).getD 0), .bool (getL fs t).isSome]) ∧ Below w.heap.size w w' := by
  obtain ⟨xs, rfl, hl⟩ := h
  have := lget_any w q xs hl t
  rw [getS_eq] at this
  exact this
theorem EvsAt.in' {B : Nat} {w : World} {a : Option Addr} {n c : Nat} {L : List Ev} (h : EvsAt B w (.slice a n c) L) : EvsIn w a n L := by
  obtain ⟨a', c', e, hi⟩ := EvsAt.open h
  injection e with e1 e2 e3
  subst e1 e2
  exact hi
theorem take_eq {L : List Ev} {k : Nat} {x : Ev} (h : L[k]? = some x) : ∃ r, L.take k ++ x :: r = L := ⟨L.drop (k + 1), by rw [← drop_at h, List.take_append_drop]⟩
def PlayPost (w : World) (S : Nat → Prop) (I : List Ev → World → Prop) (l : List Ev) (t : Int) (e : Ending) (w' : World) : Prop :=
  ∃ q, e = .returned (ptr q) ∧ LAt w' q (ownL l t) ∧ I (cutL l t) w' ∧ Only S w w'
set_option maxHeartbeats 3200000 in
theorem play_any (w : World) (a : Option Addr) (n c : Nat) (l : List Ev) (h : EvsIn w a n l) (hok : ∀ x ∈ l, 0 ≤ x.v ∧ x.v < 18446744073709551616) (hn : n ≤ 1000000) (t : Int) (f : FuncId) (cap : Array Value) (S : Nat → Prop) (I : List Ev → World → Prop) (hT : Told w f cap S I (cutL l t)) :
    Calls Try.prog 38 #[.slice a n c, .int .i64 t, .func (.func f) #[] cap] w (PlayPost w S I l t) := by
  have H := Lib.hid h; have HT := Lib.hid hT; have HOK := Lib.hid (show ∀ x ∈ cutL l t, 0 ≤ x.v ∧ x.v < 18446744073709551616 from fun x hx => hok x (List.mem_filter.1 hx).1)
  have hLn : (cutL l t).length ≤ n := by
    have := cutL_len l t n
    rw [← h.1] at this ⊢
    rwa [List.take_length] at this
  unfold PlayPost
  rw [← ownS_cut]
  obtain ⟨L, hL⟩ : ∃ L, cutL l t = L := ⟨_, rfl⟩
  have HC := Lib.hid (fun w1 (l1 : Below w.heap.size w w1) => cut_any w1 a n c l (h.below l1) hn t)
  rw [hL] at HT HOK HC hLn ⊢
  clear h hT hok hL
  go_enter Try.func38, Try.ntmps38
  go_wp2_with fail
  refine (new_any _).mono ?_
  rintro e w1 ⟨q, rfl, hq, hl1, l1⟩
  have HL1 := Lib.hid hl1; have L1 := Lib.hid l1
  have hs1 := l1.size
  clear hl1 l1
  go_wp2_with fail
  obtain ⟨W2, hW2⟩ : ∃ W2, w1.alloc (.cells #[ptr q, .bool false, .bool false] 93) = W2 := ⟨_, rfl⟩
  have l12 : Below w1.heap.size w1 W2 := by rw [← hW2]; repeat (first | (with_reducible exact Below.refl _ _) | (with_reducible apply Below.drew) | (with_reducible refine below_drewN ?_ _) | (with_reducible refine below_alloc' ?_ ?_ _; (focus ((try simp) <;> omega))) | (with_reducible refine below_set' ?_ ?_ _; (focus ((try simp) <;> omega))))
  have hb2 : W2.heap[w1.heap.size]? = some (.cells #[ptr q, .bool false, .bool false] 93 (0, 0)) := by rw [← hW2]; simp [↓heap_alloc_eq, ↓heap_set_eq, ↓heap_drew_eq, ↓heap_drewN_eq, setObj, size_drewN]
  have hat2 : AttAt W2 w1.heap.size q ⟨[[]], false, false⟩ := ⟨hb2, LAt.below ⟨_, rfl, HL1.out⟩ l12, WellS.one⟩
  have l2 : Below w.heap.size w W2 := btrans L1.out (Nat.le_refl _) l12
  have HC2 := Lib.hid (HC.out _ l2)
  rw [hW2]
  clear hb2 hW2
  obtain ⟨p, hp⟩ : ∃ p, w1.heap.size = p := ⟨_, rfl⟩
  have hpw : w.heap.size ≤ p := by omega
  rw [hp] at hat2 ⊢
  have HAT2 := Lib.hid hat2; have L2 := Lib.hid l2
  clear hat2 l2 l12 hp
  refine HC2.out.mono ?_
  rintro e w3 ⟨v, rfl, hv, l3⟩
  obtain ⟨va, vc, rfl, hvi⟩ := EvsAt.open hv
  obtain ⟨m, hm⟩ : ∃ m, L.length = m := ⟨_, rfl⟩
  have HM := Lib.hid hm
  have hvb := ownsRow_base hv (base' := w.heap.size) (fun k hk => Nat.le_trans L2.out.size (hv.lt k hk).1)
  unfold EvsAt at hvb
  rw [hm] at hvb hLn ⊢
  have HV3 := Lib.hid (show EvsAt w.heap.size w3 (.slice va m vc) L by unfold EvsAt; rw [HM.out]; exact hvb)
  have HAT3 := Lib.hid (HAT2.out.below l3)
  have L3 := Lib.hid (btrans L2.out (Nat.le_refl _) l3)
  clear hv hvi hvb l3 hm HC HC2 HL1 L1
  go_wp2_with fail
  go_loopw [19] (fun i wr => ∃ k : Nat, i = .int .i64 k ∧ k ≤ m ∧ AttAt wr p q ⟨ownS (L.take k), false, false⟩ ∧ EvsAt w.heap.size wr (.slice va m vc) L ∧ I (L.take k) wr ∧ Only S w wr ∧ w.heap.size ≤ wr.heap.size) (fun i _ => m - (intOf i).toNat)
  case atStart => exact ⟨0, rfl, Nat.zero_le _, HAT3.out, HV3.out, by rw [List.take_zero]; exact HT.out.below _ _ _ HT.out.ini L3.out, Only.of_below L3.out (fun k hk h => absurd hk (Nat.not_lt.2 h)), L3.out.size⟩
  case round =>
    obtain ⟨k, rfl, hk, hat, hV, hI, hO, hsz⟩ := hrel
    by_cases hlt : k < m
    · obtain ⟨g, off, rfl, hc⟩ := (EvsAt.in' hV).2.resolve_left (by omega)
      obtain ⟨x, hx, c0, c1, c2, c3⟩ := hc k hlt
      have hw1 : IntKind.i64.wrap ((k : Int) + 1) = (k : Int) + 1 := by rw [IntKind.wrap_i64]; omega
      obtain ⟨xk, xa, xt, xv⟩ := x
      simp only at c0 c1 c2 c3
      obtain ⟨W, hW⟩ : ∃ W, wr.alloc (.cells #[.int .u8 xk, .int .i64 xa, .int .i64 xt, .int .u64 xv] 52) = W := ⟨_, rfl⟩
      have lX : Below wr.heap.size wr W := by rw [← hW]; repeat (first | (with_reducible exact Below.refl _ _) | (with_reducible apply Below.drew) | (with_reducible refine below_drewN ?_ _) | (with_reducible refine below_alloc' ?_ ?_ _; (focus ((try simp) <;> omega))) | (with_reducible refine below_set' ?_ ?_ _; (focus ((try simp) <;> omega))))
      have hbX : W.heap[wr.heap.size]? = some (.cells #[.int .u8 xk, .int .i64 xa, .int .i64 xt, .int .u64 xv] 52 (0, 0)) := by rw [← hW]; simp [↓heap_alloc_eq, ↓heap_set_eq, ↓heap_drew_eq, ↓heap_drewN_eq, setObj, size_drewN]
      have HX := Lib.hid hx; have HWD := Lib.hid hW; have HBX := Lib.hid hbX
      have HAT := Lib.hid (hat.below lX)
      have HV := Lib.hid (show EvsAt w.heap.size W _ L from ownsRow_only hV (Only.empty lX (Nat.le_refl _)) (fun _ _ h => h))
      have HI := Lib.hid (HT.out.below _ _ _ hI lX)
      have HO := Lib.hid (hO.trans (Only.of_below lX (fun k hk h => absurd hk (Nat.not_lt.2 h))))
      have hsz2 := lX.size
      have b0 := blk_cell HAT.out.blk 0
      have x0 := blk_cell hbX 0; have x1 := blk_cell hbX 1; have x2 := blk_cell hbX 2; have x3 := blk_cell hbX 3
      simp only [List.getElem?_toArray, List.getElem?_cons_zero, List.getElem?_cons_succ] at b0 x0 x1 x2 x3
      clear hc hx hW lX hbX hat hV hI hO
      have STEP := Lib.hid (fun (W' : World) (A' : AttAt W' p q ⟨ownS (L.take k), false, false⟩) (V' : EvsAt w.heap.size W' (.slice (some ⟨g, off, none⟩) m vc) L) (I' : I (L.take k ++ [⟨xk, xa, xt, xv⟩]) W') (O' : Only S w W') =>
        (hact_any W' p q _ ⟨xk, xa, xt, xv⟩ A' (HOK.out _ (List.mem_of_getElem? HX.out))).mono (R' := fun e w5 => (∃ z, e = .returned (.int .i64 z)) ∧ AttAt w5 p q ⟨ownS (L.take (k + 1)), false, false⟩ ∧ EvsAt w.heap.size w5 (.slice (some ⟨g, off, none⟩) m vc) L ∧ I (L.take (k + 1)) w5 ∧ Only S w w5 ∧ w.heap.size ≤ w5.heap.size) (fun e w5 hp => by
          obtain ⟨rfl, h1, h2⟩ := hp
          obtain ⟨cs, hc⟩ := LAt.blk A'.log
          refine ⟨⟨_, rfl⟩, ?_, ?_, ?_, ?_, ?_⟩
          · rw [take_at HX.out, ownS_snoc]; exact h1
          · exact ownsRow_only V' h2 (fun j hj e => by subst e; exact row_ne V' hc (by decide) hj)
          · rw [take_at HX.out]; exact HT.out.turn _ _ _ q I' h2 ⟨cs, hc⟩ hq
          · exact O'.after h2 (fun j hj e => by omega)
          · exact Nat.le_trans O'.size h2.size))
      by_cases hk2 : xk = 2
      · subst hk2
        have HATd := Lib.hid (HAT.out.below (Below.refl W.heap.size W).drew)
        have HVd := Lib.hid (show EvsAt w.heap.size W.drew (.slice (some ⟨g, off, none⟩) m vc) L from ownsRow_only HV.out (Only.empty (Below.refl W.heap.size W).drew (Nat.le_refl _)) (fun _ _ h => h))
        have HId := Lib.hid (HT.out.below _ _ _ HI.out (Below.refl W.heap.size W).drew)
        have HOd := Lib.hid (show Only S w W.drew from HO.out.drew)
        have hszd : w.heap.size ≤ W.drew.heap.size := by show w.heap.size ≤ W.heap.size; omega
        have KO := Lib.hid (show ∀ w', Below W.drew.heap.size W.drew w' → (w'.cell? ⟨p, 0, none⟩ = some (ptr q) ∧ w'.cell? ⟨wr.heap.size, 2, none⟩ = some (.int .i64 xt)) from fun w' l => ⟨bkeep l b0, bkeep l x2⟩)
        have QA := KO.out W.drew (Below.refl _ _)
        have HXd := Lib.hid (show W.drew.heap[wr.heap.size]? = some (.cells #[.int .u8 2, .int .i64 xa, .int .i64 xt, .int .u64 xv] 52 (0, 0)) from HBX.out)
        go_wp2_with fail
        rw [HWD.out]
        go_region_held3 (fun w' => w'.cell? ⟨p, 0, none⟩ = some (ptr q) ∧ w'.cell? ⟨wr.heap.size, 2, none⟩ = some (.int .i64 xt)) (first | (with_reducible exact QA) | (with_reducible exact QB)) ((go_at_call 52; (with_reducible refine Calls.mono (lget_p HATd.out.log xt) ?_); rintro e w4 ⟨rfl, l4⟩; have QB := KO.out w4 l4))
        have hb4 := bblk l4 HXd.out
        have y0 := blk_cell hb4 0; have y1 := blk_cell hb4 1; have y2 := blk_cell hb4 2; have y3 := blk_cell hb4 3
        simp only [List.getElem?_toArray, List.getElem?_cons_zero, List.getElem?_cons_succ] at y0 y1 y2 y3
        have hA4 := HATd.out.below l4
        have hV4 : EvsAt w.heap.size w4 (.slice (some ⟨g, off, none⟩) m vc) L := ownsRow_only HVd.out (Only.empty l4 (Nat.le_refl _)) (fun _ _ h => h)
        have hI4 := HT.out.below _ _ _ HId.out l4
        have hO4 : Only S w w4 := HOd.out.trans (Only.of_below l4 (fun k hk h => absurd hk (Nat.not_lt.2 h)))
        have hs4 := Nat.le_trans hszd l4.size
        have hcl := HT.out.call _ ⟨2, xa, xt, xv⟩ _ hI4 rfl (take_eq HX.out) hs4
        have hod := HT.out.odd _ _ hI4
        have HCL := Lib.hid hcl; have HOD := Lib.hid hod
        have HA4 := Lib.hid hA4; have HV4 := Lib.hid hV4; have HI4 := Lib.hid hI4; have HO4 := Lib.hid hO4; have HB4 := Lib.hid hb4
        clear hcl hod hA4 hV4 hI4 hO4 hb4 QA QB l4 HATd HVd HId HOd KO HXd
        generalize (getL (ownS (L.take k)) xt).getD 0 = g1 at *
        generalize (getL (ownS (L.take k)) xt).isSome = g2 at *
        have hcf := HT.out.fn
        go_wp2_with fail
        refine HCL.out.mono ?_
        rintro e w5 ⟨rfl, i5, o5⟩
        have lo := HT.out.lo
        have H5 := Lib.hid (show AttAt w5 p q ⟨ownS (L.take k), false, false⟩ ∧ EvsAt w.heap.size w5 (.slice (some ⟨g, off, none⟩) m vc) L ∧ I (L.take k ++ [⟨2, xa, xt, xv⟩]) w5 ∧ Only S w w5 from ⟨HA4.out.strange o5 HOD.out (fun h => by have := lo _ h; omega) (fun h => by have := lo _ h; omega), ownsRow_only HV4.out o5 (fun j hj h => by have h6 := (HV4.out.lt j hj).1; have := lo _ h; omega), i5, HO4.out.trans o5⟩)
        have z0 := (bblk (Below.refl w4.heap.size w4) HB4.out)
        have hb5 := o5.blk HB4.out (fun h => by have := lo _ h; omega)
        have y0 := blk_cell hb5 0; have y1 := blk_cell hb5 1; have y2 := blk_cell hb5 2; have y3 := blk_cell hb5 3
        simp only [List.getElem?_toArray, List.getElem?_cons_zero, List.getElem?_cons_succ] at y0 y1 y2 y3
        clear i5 o5 lo z0 hb5
        go_wp2_with fail
        refine (STEP.out w5 H5.out.1 H5.out.2.1 H5.out.2.2.1 H5.out.2.2.2).mono ?_
        rintro e w6 ⟨⟨z, rfl⟩, h1, h2, h3, h4, h5⟩
        have H6 := Lib.hid (And.intro h1 (And.intro h2 (And.intro h3 (And.intro h4 h5))))
        clear h1 h2 h3 h4 h5
        go_wp2_with fail
        exact ⟨⟨k + 1, by go_num, by omega, H6.out⟩, by simp [intOf]; omega⟩
      · have q2 : (xk == 2) = false := by simpa using hk2
        have HI2 := Lib.hid (HT.out.skip _ ⟨xk, xa, xt, xv⟩ _ HI.out hk2)
        clear hk2
        go_wp2_with fail
        rw [HWD.out]
        refine (STEP.out W HAT.out HV.out HI2.out HO.out).mono ?_
        rintro e w5 ⟨⟨z, rfl⟩, h1, h2, h3, h4, h5⟩
        have H5 := Lib.hid (And.intro h1 (And.intro h2 (And.intro h3 (And.intro h4 h5))))
        clear h1 h2 h3 h4 h5
        go_wp2_with fail
        exact ⟨⟨k + 1, by go_num, by omega, H5.out⟩, by simp [intOf]; omega⟩
    · obtain rfl : k = m := by omega
      rw [List.take_of_length_le (by rw [HM.out]; exact Nat.le_refl _)] at hat hI
      have b0 := blk_cell hat.blk 0
      simp only [List.getElem?_toArray, List.getElem?_cons_zero] at b0
      have HF := Lib.hid (show LAt wr q (ownS L) ∧ I L wr ∧ Only S w wr from ⟨hat.log, hI, hO⟩)
      clear hat hI hO hV
      go_wp2_with fail
      go_ret
      exact ⟨q, rfl, HF.out.1, HF.out.2.1, HF.out.2.2⟩
end Go.Proofs.Ytfpiecnbnoinnaa.His
