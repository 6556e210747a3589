/- The real side: take. -/
import Derived.Test.YtfpiecnbnoinnaaHisN
namespace Go.Proofs.Ytfpiecnbnoinnaa.His
open Go.RowKit Go.Proofs.Ytfpiecnbnoinnaa.Wri
set_option linter.unusedSimpArgs false
set_option linter.unusedVariables false
set_option maxRecDepth 50000

def TakePost (B b n : Nat) (M : AtM) (x : Ev) (w : World) (e : Ending) (w' : World) : Prop :=
  Below B w w' ∧ match stepA (M x.a) x with
    | some a => e = .returned (.tuple #[]) ∧ Ents B w' b (n + 1) (updA M x.a a)
    | none => e = .panicked wrongP
theorem TakePost.no {B b n : Nat} {M : AtM} {x : Ev} {w w' : World} (hs : stepA (M x.a) x = none) (l : Below B w w') : TakePost B b n M x w (.panicked wrongP) w' := by
  refine ⟨l, ?_⟩
  rw [hs]
theorem TakePost.yes {B b n : Nat} {M : AtM} {x : Ev} {w w' : World} {a : Att} (hs : stepA (M x.a) x = some a) (l : Below B w w') (h : Ents B w' b (n + 1) (updA M x.a a)) : TakePost B b n M x w (.returned (.tuple #[])) w' := by
  refine ⟨l, ?_⟩
  rw [hs]
  exact ⟨rfl, h⟩
theorem depth_p {w : World} {q : Nat} {fs : List Frm} (h : LAt w q fs) : Calls Try.prog 56 #[ptr q] w fun e w' => e = .returned (.int .i64 ((fs.length : Int) - 1)) ∧ w = w' := by
  obtain ⟨xs, hx, hl⟩ := h
  have := depth_any w q xs hl
  rw [show (fs.length : Int) = xs.length by rw [← hx, List.length_map]]
  exact this
theorem zeroP (w : World) : (zeroValue 90).run Try.prog w = .ok (.pointer none) w := by kernel_rfl
theorem kint : Try.prog.underlying 3 = some (.int .i64) := by kernel_rfl
theorem bare_t (w : World) (x : Ev) (h : bareE x = true) : Calls Try.prog 54 #[evV x] w fun e w' => e = .returned (.bool true) ∧ Below w.heap.size w w' := by
  have := bare_any w x
  rwa [h] at this
theorem bare_f (w : World) (x : Ev) (h : bareE x = false) : Calls Try.prog 54 #[evV x] w fun e w' => e = .returned (.bool false) ∧ Below w.heap.size w w' := by
  have := bare_any w x
  rwa [h] at this
theorem hact_n (w : World) (p q : Nat) (a : Att) (x : Ev) (n : Int) (h : AttAt w p q a) (hv : 0 ≤ x.v ∧ x.v < 18446744073709551616) (hn : actN a.fs x = n) :
    Calls Try.prog 55 #[ptr p, evV x] w fun e w' => e = .returned (.int .i64 n) ∧ AttAt w' p q ⟨actS a.fs x, a.tried, a.ended⟩ ∧ Only (fun k => k = q) w w' := by
  subst hn
  exact hact_any w p q a x h hv
theorem AttAt.put {w : World} {p q : Nat} {a : Att} (h : AttAt w p q a) (i : Nat) (v : Value) {t e : Bool} (hc : (#[ptr q, .bool a.tried, .bool a.ended] : Array Value).setIfInBounds i v = #[ptr q, .bool t, .bool e]) : AttAt (w.setCell ⟨p, i, none⟩ v) p q ⟨a.fs, t, e⟩ ∧ Only (fun k => k = p ∨ k = q) w (w.setCell ⟨p, i, none⟩ v) := by
  have ho : Only (fun k => k = p) w (w.setCell ⟨p, i, none⟩ v) := (Only.refl (fun k => k = p) w).setCell (p := ⟨p, i, none⟩) (.inr rfl) _
  have hs : Strange w (fun k => k = p) := fun k hk => h.odd k (.inl hk)
  refine ⟨⟨?_, h.log.strange ho hs (h.ne h).symm, h.well⟩, ho.mono fun k _ e => .inl e⟩
  have := blk_set h.blk i v
  rw [hc] at this
  exact this
theorem EntsF.atp {B : Nat} {w w' : World} {b n : Nat} {M : AtM} {ent : Int → Option (Nat × Nat)} (h : EntsF B w b n M ent) {t : Int} {a a' : Att} {p q : Nat} (ht : M t = some a) (he : ent t = some (p, q)) (l : Below w.heap.size w w') : AttAt w' p q a := ((h.at' t _ a he ht).1).below l
set_option maxHeartbeats 6400000 in
theorem take_any (B b n : Nat) (M : AtM) (x : Ev) (w : World) (h : Ents B w b n M) (hB : B ≤ w.heap.size) (hn : n < 100000) (hx : inInt x.a) (hv : 0 ≤ x.v ∧ x.v < 18446744073709551616) :
    Calls Try.prog 35 #[.map (some b), evV x] w (TakePost B b n M x w) := by
  obtain ⟨ent, h⟩ := h
  obtain ⟨xk, xa, xt, xv⟩ := x
  simp only at hx hv
  obtain ⟨W, hWdef⟩ : ∃ W, w.alloc (.cells #[.int .u8 xk, .int .i64 xa, .int .i64 xt, .int .u64 xv] 52) = W := ⟨_, rfl⟩
  have lW : Below w.heap.size w W := by rw [← hWdef]; repeat (first | (with_reducible exact Below.refl _ _) | (with_reducible apply Below.drew) | (with_reducible refine below_drewN ?_ _) | (with_reducible refine below_alloc' ?_ ?_ _; (focus ((try simp) <;> omega))) | (with_reducible refine below_set' ?_ ?_ _; (focus ((try simp) <;> omega))))
  have hW := h.below lW
  have c0 : W.cell? ⟨w.heap.size, 0, none⟩ = some (.int .u8 xk) := by rw [← hWdef]; simp
  have c1 : W.cell? ⟨w.heap.size, 1, none⟩ = some (.int .i64 xa) := by rw [← hWdef]; simp
  have c2 : W.cell? ⟨w.heap.size, 2, none⟩ = some (.int .i64 xt) := by rw [← hWdef]; simp
  have c3 : W.cell? ⟨w.heap.size, 3, none⟩ = some (.int .u64 xv) := by rw [← hWdef]; simp
  have hlook := hW.map.look kint Try.underlying66 (zeroP _) hx
  have hsz := lW.size
  have hWsz : w.heap.size < W.heap.size := by rw [← hWdef]; simp
  have HW := Lib.hid hW; have LW := Lib.hid lW; have HV := Lib.hid hv; have HX := Lib.hid hx; have HWD := Lib.hid hWdef
  have LB := Lib.hid (btrans (Below.refl B w) hB lW)
  have hBW : B ≤ W.heap.size := by omega
  clear h lW hv hx hW hWdef
  by_cases ha0 : 0 ≤ xa
  case neg =>
    have d1 : decide (0 ≤ xa) = false := by simpa using ha0
    have HF := Lib.hid (TakePost.no (B := B) (b := b) (n := n) (M := M) (x := ⟨xk, xa, xt, xv⟩) (w := w) (w' := W) (by unfold stepA; rw [if_pos (by simp only; omega)]) LB.out)
    go_enter Try.func35, Try.ntmps35
    go_wp2_with fail
    rw [HWD.out]
    refine (need_no _).mono ?_; rintro e w' ⟨rfl, rfl⟩; go_wp2_with fail; exact ⟨rfl, HF.out⟩
  have d1 : decide (0 ≤ xa) = true := by simpa using ha0
  by_cases ha1 : xa < 64
  case neg =>
    have d2 : decide (xa < 64) = false := by simpa using ha1
    have HF := Lib.hid (TakePost.no (B := B) (b := b) (n := n) (M := M) (x := ⟨xk, xa, xt, xv⟩) (w := w) (w' := W) (by unfold stepA; rw [if_pos (by simp only; omega)]) LB.out)
    go_enter Try.func35, Try.ntmps35
    go_wp2_with fail
    rw [HWD.out]
    refine (need_no _).mono ?_; rintro e w' ⟨rfl, rfl⟩; go_wp2_with fail; exact ⟨rfl, HF.out⟩
  have d2 : decide (xa < 64) = true := by simpa using ha1
  cases hM : M xa with
  | none =>
    have hno := HW.out.no hM
    rw [hno] at hlook
    simp only [Option.map_none, Option.getD_none] at hlook
    by_cases hk : xk = 1
    · subst hk
      cases hbr : bareE ⟨1, xa, xt, xv⟩ with
      | false =>
        have HBR := Lib.hid hbr
        have HF := Lib.hid (fun (w' : World) (l : Below W.heap.size W w') => TakePost.no (B := B) (b := b) (n := n) (M := M) (x := ⟨1, xa, xt, xv⟩) (w := w) (w' := w') (by rw [show M (Ev.a ⟨1, xa, xt, xv⟩) = _ from hM]; simp [stepA, ha0, ha1, hbr]) (btrans LB.out hB l))
        clear hbr hM hno
        go_enter Try.func35, Try.ntmps35; go_wp2_with fail; rw [HWD.out]; refine (need_yes _).mono ?_; rintro e w' ⟨rfl, rfl⟩; go_wp2_with fail
        refine (bare_f _ ⟨1, xa, xt, xv⟩ HBR.out).mono ?_; rintro e w2 ⟨rfl, l2⟩; have L2 := Lib.hid l2; clear l2
        go_wp2_with fail
        refine (need_no _).mono ?_; rintro e w' ⟨rfl, rfl⟩; go_wp2_with fail; exact ⟨rfl, HF.out _ L2.out⟩
      | true =>
        have HBR := Lib.hid hbr
        have HY := Lib.hid (show stepA (M (Ev.a ⟨1, xa, xt, xv⟩)) ⟨1, xa, xt, xv⟩ = some ⟨[[]], false, false⟩ from by rw [show M (Ev.a ⟨1, xa, xt, xv⟩) = _ from hM]; simp [stepA, ha0, ha1, hbr])
        have HM := Lib.hid hM
        clear hbr hM hno
        go_enter Try.func35, Try.ntmps35; go_wp2_with fail; rw [HWD.out]; refine (need_yes _).mono ?_; rintro e w' ⟨rfl, rfl⟩; go_wp2_with fail
        refine (bare_t _ ⟨1, xa, xt, xv⟩ HBR.out).mono ?_; rintro e w2 ⟨rfl, l2⟩; have L2 := Lib.hid l2; clear l2
        go_wp2_with fail
        refine (need_yes _).mono ?_; rintro e w' ⟨rfl, rfl⟩; go_wp2_with fail
        have e1 := bkeep L2.out.drew c1
        refine wp_region_F (fun w' => w'.cell? ⟨w.heap.size, 1, none⟩ = some (.int .i64 xa)) 6 (by kernel_rfl) ?_
        have hS0 := e1
        refine wpAnyF_take (i := 0) (v := ?_) rfl (by kernel_rfl) (by kernel_rfl) (by kernel_rfl) (by kernel_rfl) (fun _ _ _ h => h) (Or.inl ⟨by rfl, ?_⟩) (by assumption) ?_; rotate_left; (focus (intro w hSw; (skip); (first | (go_simp; done) | (go_simp; with_reducible rfl)))); (try simp only [Act.put, List.setIfInBounds_toArray, List.set_cons_zero, List.set_cons_succ])
        refine wpAnyF_take (i := 1) (v := ?_) rfl (by kernel_rfl) (by kernel_rfl) (by kernel_rfl) (by kernel_rfl) (fun _ _ _ h => h) (Or.inl ⟨by rfl, ?_⟩) (by assumption) ?_; rotate_left; (focus (intro w hSw; (skip); (first | (go_simp; done) | (go_simp; with_reducible rfl)))); (try simp only [Act.put, List.setIfInBounds_toArray, List.set_cons_zero, List.set_cons_succ])
        refine wpAnyF_take (i := 2) (v := ?_) rfl (by kernel_rfl) (by kernel_rfl) (by kernel_rfl) (by kernel_rfl) (fun _ _ _ h => h) (Or.inl ⟨by rfl, ?_⟩) (by assumption) ?_; rotate_left; (focus (intro w hSw; (have q0 := hSw); (first | (go_simp; done) | (go_simp; with_reducible rfl)))); (try simp only [Act.put, List.setIfInBounds_toArray, List.set_cons_zero, List.set_cons_succ])
        refine wpAnyF_ready (rs := [3]) (by kernel_rfl) (by simp) ?_
        refine AllF.cons rfl (fun K hK => ?_) AllF.nil
        go_simp
        refine (new_any _).mono ?_
        rintro e w3 ⟨q, rfl, hq, hl3, l3⟩
        have hS3 := bkeep l3 e1
        have l23 : Below W.heap.size W w3 := btrans L2.out.drew (Nat.le_refl _) l3
        have HL3 := Lib.hid hl3; have L23 := Lib.hid l23
        clear hl3 l3 l23 hS0
        refine hK.out _ _ (fun _ => hS3) ?_; clear hK K; (try simp only [Act.put, List.setIfInBounds_toArray, List.set_cons_zero, List.set_cons_succ])
        refine wpAnyF_take (i := 4) (v := ?_) rfl (by kernel_rfl) (by kernel_rfl) (by kernel_rfl) (by kernel_rfl) (fun _ _ _ h => h) (Or.inl ⟨by rfl, ?_⟩) (by assumption) ?_; rotate_left; (focus (intro w hSw; (skip); (first | (go_simp; done) | (go_simp; with_reducible rfl)))); (try simp only [Act.put, List.setIfInBounds_toArray, List.set_cons_zero, List.set_cons_succ])
        refine wpAnyF_ready (rs := [5]) (by kernel_rfl) (by simp) ?_
        refine AllF.cons rfl (fun K hK => ?_) AllF.nil
        go_simp
        obtain ⟨W4, hW4⟩ : ∃ W4, w3.alloc (.cells #[ptr q, .bool false, .bool false] 93) = W4 := ⟨_, rfl⟩
        rw [hW4]
        have l34 : Below w3.heap.size w3 W4 := by rw [← hW4]; repeat (first | (with_reducible exact Below.refl _ _) | (with_reducible apply Below.drew) | (with_reducible refine below_drewN ?_ _) | (with_reducible refine below_alloc' ?_ ?_ _; (focus ((try simp) <;> omega))) | (with_reducible refine below_set' ?_ ?_ _; (focus ((try simp) <;> omega))))
        have hb4 : W4.heap[w3.heap.size]? = some (.cells #[ptr q, .bool false, .bool false] 93 (0, 0)) := by rw [← hW4]; simp [↓heap_alloc_eq, ↓heap_set_eq, ↓heap_drew_eq, ↓heap_drewN_eq, setObj, size_drewN]
        have l4 : Below W.heap.size W W4 := btrans L23.out (Nat.le_refl _) l34
        have hat4 : AttAt W4 w3.heap.size q ⟨[[]], false, false⟩ := ⟨hb4, LAt.below ⟨_, rfl, HL3.out⟩ l34, WellS.one⟩
        have hm4 := HW.out.map.below l4
        obtain ⟨w5, hrun, hm5, o5⟩ := MapIs.store kint Try.underlying66 hm4 (by omega) HX.out (ptr w3.heap.size)
        have hs3 := L23.out.size
        have hS4 := bkeep l34 hS3
        have hEF := (HW.out.below l4).more HM.out hm5 o5 (a := ⟨[[]], false, false⟩) (hat4.apart o5 (fun k cs t fr hk e => by subst e; exact hm4.not_cells hk)) (by omega) (Nat.le_trans hBW (Nat.le_trans L2.out.size (by simpa using hq))) (fun s e c h1 h2 => by
          have hh := HW.out.at' s e c h1 h2
          have h6 := blk_lt hh.1.blk
          obtain ⟨cs, h7⟩ := LAt.blk hh.1.log
          have h8 := blk_lt h7
          have h9 := L2.out.size
          have hq' : w2.heap.size ≤ q := by simpa using hq
          exact ⟨by omega, by omega⟩)
        have HEF := Lib.hid hEF
        have HO5 := Lib.hid (Below.trans (btrans LB.out hB l4) (o5.below (B := B) (by have := l4.size; omega) (fun k hk e => by have := HW.out.lo; omega)))
        clear hEF hat4 hm4 hm5 o5 l4 hb4
        refine hK.out _ _ (fun _ => hS4) ?_; clear hK K; (try simp only [Act.put, List.setIfInBounds_toArray, List.set_cons_zero, List.set_cons_succ])
        refine wpAnyF_ready (rs := [6]) (by kernel_rfl) (by simp) ?_
        refine AllF.cons rfl (fun K hK => ?_) AllF.nil
        go_simp
        refine hK.out _ _ (fun h => absurd rfl h) ?_; clear hK K; (try simp only [Act.put, List.setIfInBounds_toArray, List.set_cons_zero, List.set_cons_succ]); refine wpAnyF_done (by kernel_rfl) ?_ _
        clear hS3 hS4 hrun e1
        go_wp2_with fail
        (first | exact bodyPost_end (results_none rfl _ _ _) rfl (TakePost.yes HY.out HO5.out HEF.out) | exact bodyPost_ret (results_none rfl _ _ _) rfl (TakePost.yes HY.out HO5.out HEF.out))
    · have q1 : (xk == 1) = false := by simpa using hk
      have HF := Lib.hid (TakePost.no (B := B) (b := b) (n := n) (M := M) (x := ⟨xk, xa, xt, xv⟩) (w := w) (w' := W) (by rw [show M (Ev.a ⟨xk, xa, xt, xv⟩) = _ from hM]; simp [stepA, ha0, ha1, hk]) LB.out)
      clear hM hno
      go_enter Try.func35, Try.ntmps35; go_wp2_with fail; rw [HWD.out]; refine (need_yes _).mono ?_; rintro e w' ⟨rfl, rfl⟩; go_wp2_with fail
      refine (need_no _).mono ?_; rintro e w' ⟨rfl, rfl⟩; go_wp2_with fail; exact ⟨rfl, HF.out⟩
  | some a =>
    obtain ⟨p, q, he, hat, hp, hq⟩ := HW.out.find hM
    obtain ⟨fs, tr, en⟩ := a
    rw [he] at hlook
    simp only [Option.map_some, Option.getD_some] at hlook
    have p0 := blk_cell hat.blk 0; have p1 := blk_cell hat.blk 1; have p2 := blk_cell hat.blk 2
    simp only [List.getElem?_toArray, List.getElem?_cons_zero, List.getElem?_cons_succ] at p0 p1 p2
    by_cases hk : xk = 1
    · subst hk
      have HF := Lib.hid (TakePost.no (B := B) (b := b) (n := n) (M := M) (x := ⟨1, xa, xt, xv⟩) (w := w) (w' := W) (by rw [show M (Ev.a ⟨1, xa, xt, xv⟩) = _ from hM]; simp [stepA, ha0, ha1, hM]) LB.out)
      clear hM he hat hp hq
      go_enter Try.func35, Try.ntmps35; go_wp2_with fail; rw [HWD.out]; refine (need_yes _).mono ?_; rintro e w' ⟨rfl, rfl⟩; go_wp2_with fail
      refine (need_no _).mono ?_; rintro e w' ⟨rfl, rfl⟩; go_wp2_with fail; exact ⟨rfl, HF.out⟩
    have q1 : (xk == 1) = false := by simpa using hk
    cases en with
    | true =>
      have HF := Lib.hid (TakePost.no (B := B) (b := b) (n := n) (M := M) (x := ⟨xk, xa, xt, xv⟩) (w := w) (w' := W) (by rw [show M (Ev.a ⟨xk, xa, xt, xv⟩) = _ from hM]; simp [stepA, ha0, ha1, hk]) LB.out)
      clear hM he hat hp hq
      go_enter Try.func35, Try.ntmps35; go_wp2_with fail; rw [HWD.out]; refine (need_yes _).mono ?_; rintro e w' ⟨rfl, rfl⟩; go_wp2_with fail
      refine (need_no _).mono ?_; rintro e w' ⟨rfl, rfl⟩; go_wp2_with fail; exact ⟨rfl, HF.out⟩
    | false =>
      have HM := Lib.hid hM; have HE := Lib.hid he
      have HAT := Lib.hid hat
      have HP := Lib.hid (show ∀ k, (k = p ∨ k = q) → B ≤ k from fun k e => by rcases e with rfl | rfl; exact hp; exact hq)
      by_cases h8 : xk = 8
      · subst h8
        cases tr with
        | false =>
          have HF := Lib.hid (TakePost.no (B := B) (b := b) (n := n) (M := M) (x := ⟨8, xa, xt, xv⟩) (w := w) (w' := W) (by rw [show M (Ev.a ⟨8, xa, xt, xv⟩) = _ from hM]; simp [stepA, ha0, ha1, hk]) LB.out)
          clear hM he hat hp hq hk
          go_enter Try.func35, Try.ntmps35; go_wp2_with fail; rw [HWD.out]; refine (need_yes _).mono ?_; rintro e w' ⟨rfl, rfl⟩; go_wp2_with fail
          refine (need_yes _).mono ?_; rintro e w' ⟨rfl, rfl⟩; go_wp2_with fail
          refine (need_no _).mono ?_; rintro e w' ⟨rfl, rfl⟩; go_wp2_with fail; exact ⟨rfl, HF.out⟩
        | true =>
          cases hbr : bareE ⟨8, xa, xt, xv⟩ with
          | false =>
            have HBR := Lib.hid hbr
            have HF := Lib.hid (fun (w' : World) (l : Below W.heap.size W w') => TakePost.no (B := B) (b := b) (n := n) (M := M) (x := ⟨8, xa, xt, xv⟩) (w := w) (w' := w') (by rw [show M (Ev.a ⟨8, xa, xt, xv⟩) = _ from hM]; simp [stepA, ha0, ha1, hbr]) (btrans LB.out hB l))
            clear hbr hM he hat hp hq hk
            go_enter Try.func35, Try.ntmps35; go_wp2_with fail; rw [HWD.out]; refine (need_yes _).mono ?_; rintro e w' ⟨rfl, rfl⟩; go_wp2_with fail
            refine (need_yes _).mono ?_; rintro e w' ⟨rfl, rfl⟩; go_wp2_with fail
            refine (bare_f _ ⟨8, xa, xt, xv⟩ HBR.out).mono ?_; rintro e w2 ⟨rfl, l2⟩; have L2 := Lib.hid l2; clear l2
            go_wp2_with fail
            refine (need_no _).mono ?_; rintro e w' ⟨rfl, rfl⟩; go_wp2_with fail; exact ⟨rfl, HF.out _ L2.out⟩
          | true =>
            have HBR := Lib.hid hbr
            have HY := Lib.hid (show stepA (M (Ev.a ⟨8, xa, xt, xv⟩)) ⟨8, xa, xt, xv⟩ = some ⟨fs, true, true⟩ from by rw [show M (Ev.a ⟨8, xa, xt, xv⟩) = _ from hM]; simp [stepA, ha0, ha1, hbr])
            clear hbr hM he hp hq hk
            go_enter Try.func35, Try.ntmps35; go_wp2_with fail; rw [HWD.out]; refine (need_yes _).mono ?_; rintro e w' ⟨rfl, rfl⟩; go_wp2_with fail
            refine (need_yes _).mono ?_; rintro e w' ⟨rfl, rfl⟩; go_wp2_with fail
            refine (bare_t _ ⟨8, xa, xt, xv⟩ HBR.out).mono ?_; rintro e w2 ⟨rfl, l2⟩; have L2 := Lib.hid l2; clear l2
            have e2 := bkeep L2.out c2; have e3 := bkeep L2.out c3; have r0 := bkeep L2.out p0; have r1 := bkeep L2.out p1; have r2 := bkeep L2.out p2; have hat2 := hat.below L2.out; have f1 := blk_free hat2.blk 1; have f2 := blk_free hat2.blk 2; have HAT2 := Lib.hid hat2; clear hat2
            go_wp2_with fail
            refine (need_yes _).mono ?_; rintro e w' ⟨rfl, rfl⟩; go_wp2_with fail
            obtain ⟨k1, k2⟩ := HAT2.out.put 2 (.bool true) (t := true) (e := true) rfl
            (first | exact bodyPost_end (results_none rfl _ _ _) rfl (TakePost.yes HY.out ((btrans LB.out hB L2.out).trans (k2.lo HP.out (Nat.le_trans hBW L2.out.size))) (((HW.out.below L2.out).turn HM.out HE.out k2 k1).mono (by omega))) | exact bodyPost_ret (results_none rfl _ _ _) rfl (TakePost.yes HY.out ((btrans LB.out hB L2.out).trans (k2.lo HP.out (Nat.le_trans hBW L2.out.size))) (((HW.out.below L2.out).turn HM.out HE.out k2 k1).mono (by omega))))
      have q8 : (xk == 8) = false := by simpa using h8
      by_cases h9 : xk = 9
      · subst h9
        cases hbr : bareE ⟨9, xa, xt, xv⟩ with
        | false =>
          have HBR := Lib.hid hbr
          have HF := Lib.hid (fun (w' : World) (l : Below W.heap.size W w') => TakePost.no (B := B) (b := b) (n := n) (M := M) (x := ⟨9, xa, xt, xv⟩) (w := w) (w' := w') (by rw [show M (Ev.a ⟨9, xa, xt, xv⟩) = _ from hM]; simp [stepA, ha0, ha1, hbr]) (btrans LB.out hB l))
          clear hbr hM he hat hp hq hk h8
          go_enter Try.func35, Try.ntmps35; go_wp2_with fail; rw [HWD.out]; refine (need_yes _).mono ?_; rintro e w' ⟨rfl, rfl⟩; go_wp2_with fail
          refine (need_yes _).mono ?_; rintro e w' ⟨rfl, rfl⟩; go_wp2_with fail
          refine (bare_f _ ⟨9, xa, xt, xv⟩ HBR.out).mono ?_; rintro e w2 ⟨rfl, l2⟩; have L2 := Lib.hid l2; clear l2
          go_wp2_with fail
          refine (need_no _).mono ?_; rintro e w' ⟨rfl, rfl⟩; go_wp2_with fail; exact ⟨rfl, HF.out _ L2.out⟩
        | true =>
          have HBR := Lib.hid hbr
          have HY := Lib.hid (show stepA (M (Ev.a ⟨9, xa, xt, xv⟩)) ⟨9, xa, xt, xv⟩ = some ⟨fs, tr, true⟩ from by rw [show M (Ev.a ⟨9, xa, xt, xv⟩) = _ from hM]; simp [stepA, ha0, ha1, hbr])
          clear hbr hM he hp hq hk h8
          go_enter Try.func35, Try.ntmps35; go_wp2_with fail; rw [HWD.out]; refine (need_yes _).mono ?_; rintro e w' ⟨rfl, rfl⟩; go_wp2_with fail
          refine (need_yes _).mono ?_; rintro e w' ⟨rfl, rfl⟩; go_wp2_with fail
          refine (bare_t _ ⟨9, xa, xt, xv⟩ HBR.out).mono ?_; rintro e w2 ⟨rfl, l2⟩; have L2 := Lib.hid l2; clear l2
          have e2 := bkeep L2.out c2; have e3 := bkeep L2.out c3; have r0 := bkeep L2.out p0; have r1 := bkeep L2.out p1; have r2 := bkeep L2.out p2; have hat2 := hat.below L2.out; have f1 := blk_free hat2.blk 1; have f2 := blk_free hat2.blk 2; have HAT2 := Lib.hid hat2; clear hat2
          go_wp2_with fail
          refine (need_yes _).mono ?_; rintro e w' ⟨rfl, rfl⟩; go_wp2_with fail
          obtain ⟨k1, k2⟩ := HAT2.out.put 2 (.bool true) (t := tr) (e := true) rfl
          (first | exact bodyPost_end (results_none rfl _ _ _) rfl (TakePost.yes HY.out ((btrans LB.out hB L2.out).trans (k2.lo HP.out (Nat.le_trans hBW L2.out.size))) (((HW.out.below L2.out).turn HM.out HE.out k2 k1).mono (by omega))) | exact bodyPost_ret (results_none rfl _ _ _) rfl (TakePost.yes HY.out ((btrans LB.out hB L2.out).trans (k2.lo HP.out (Nat.le_trans hBW L2.out.size))) (((HW.out.below L2.out).turn HM.out HE.out k2 k1).mono (by omega))))
      have q9 : (xk == 9) = false := by simpa using h9
      cases tr with
      | true =>
        have HF := Lib.hid (TakePost.no (B := B) (b := b) (n := n) (M := M) (x := ⟨xk, xa, xt, xv⟩) (w := w) (w' := W) (by rw [show M (Ev.a ⟨xk, xa, xt, xv⟩) = _ from hM]; simp [stepA, ha0, ha1, hk, h8, h9]) LB.out)
        clear hM he hat hp hq hk h8 h9
        go_enter Try.func35, Try.ntmps35; go_wp2_with fail; rw [HWD.out]; refine (need_yes _).mono ?_; rintro e w' ⟨rfl, rfl⟩; go_wp2_with fail
        refine (need_yes _).mono ?_; rintro e w' ⟨rfl, rfl⟩; go_wp2_with fail
        refine (need_no _).mono ?_; rintro e w' ⟨rfl, rfl⟩; go_wp2_with fail; exact ⟨rfl, HF.out⟩
      | false =>
      by_cases h2 : xk = 2
      · subst h2
        by_cases ht0 : 0 ≤ xt
        case neg =>
          have d3 : decide (0 ≤ xt) = false := by simpa using ht0
          have HF := Lib.hid (TakePost.no (B := B) (b := b) (n := n) (M := M) (x := ⟨2, xa, xt, xv⟩) (w := w) (w' := W) (by rw [show M (Ev.a ⟨2, xa, xt, xv⟩) = _ from hM]; simp [stepA, ha0, ha1, okT, ht0]) LB.out)
          clear hM he hat hp hq hk h8 h9
          go_enter Try.func35, Try.ntmps35; go_wp2_with fail; rw [HWD.out]; refine (need_yes _).mono ?_; rintro e w' ⟨rfl, rfl⟩; go_wp2_with fail
          refine (need_yes _).mono ?_; rintro e w' ⟨rfl, rfl⟩; go_wp2_with fail
          refine (need_yes _).mono ?_; rintro e w' ⟨rfl, rfl⟩; go_wp2_with fail
          refine (need_no _).mono ?_; rintro e w' ⟨rfl, rfl⟩; go_wp2_with fail; exact ⟨rfl, HF.out⟩
        have d3 : decide (0 ≤ xt) = true := by simpa using ht0
        by_cases ht1 : xt < 12
        case neg =>
          have d4 : decide (xt < 12) = false := by simpa using ht1
          have HF := Lib.hid (TakePost.no (B := B) (b := b) (n := n) (M := M) (x := ⟨2, xa, xt, xv⟩) (w := w) (w' := W) (by rw [show M (Ev.a ⟨2, xa, xt, xv⟩) = _ from hM]; simp [stepA, ha0, ha1, okT, ht1]) LB.out)
          clear hM he hat hp hq hk h8 h9
          go_enter Try.func35, Try.ntmps35; go_wp2_with fail; rw [HWD.out]; refine (need_yes _).mono ?_; rintro e w' ⟨rfl, rfl⟩; go_wp2_with fail
          refine (need_yes _).mono ?_; rintro e w' ⟨rfl, rfl⟩; go_wp2_with fail
          refine (need_yes _).mono ?_; rintro e w' ⟨rfl, rfl⟩; go_wp2_with fail
          refine (need_no _).mono ?_; rintro e w' ⟨rfl, rfl⟩; go_wp2_with fail; exact ⟨rfl, HF.out⟩
        have d4 : decide (xt < 12) = true := by simpa using ht1
        have hvr := vRight_any W xv HV.out
        cases hr : rightVal xv with
        | false =>
          rw [hr] at hvr
          have HF := Lib.hid (TakePost.no (B := B) (b := b) (n := n) (M := M) (x := ⟨2, xa, xt, xv⟩) (w := w) (w' := W) (by rw [show M (Ev.a ⟨2, xa, xt, xv⟩) = _ from hM]; simp [stepA, ha0, ha1, okT, hr]) LB.out)
          have HVR := Lib.hid hvr
          clear hM he hat hp hq hk h8 h9 hr hvr
          go_enter Try.func35, Try.ntmps35; go_wp2_with fail; rw [HWD.out]; refine (need_yes _).mono ?_; rintro e w' ⟨rfl, rfl⟩; go_wp2_with fail
          refine (need_yes _).mono ?_; rintro e w' ⟨rfl, rfl⟩; go_wp2_with fail
          refine (need_yes _).mono ?_; rintro e w' ⟨rfl, rfl⟩; go_wp2_with fail
          refine HVR.out.mono ?_; rintro e w' ⟨rfl, rfl⟩
          go_wp2_with fail
          refine (need_no _).mono ?_; rintro e w' ⟨rfl, rfl⟩; go_wp2_with fail; exact ⟨rfl, HF.out⟩
        | true =>
          rw [hr] at hvr
          have HY := Lib.hid (show stepA (M (Ev.a ⟨2, xa, xt, xv⟩)) ⟨2, xa, xt, xv⟩ = some ⟨fs, false, false⟩ from by rw [show M (Ev.a ⟨2, xa, xt, xv⟩) = _ from hM]; simp [stepA, ha0, ha1, okT, ht0, ht1, hr])
          have HVR := Lib.hid hvr
          clear hM he hp hq hk h8 h9 hr hvr hat
          go_enter Try.func35, Try.ntmps35; go_wp2_with fail; rw [HWD.out]; refine (need_yes _).mono ?_; rintro e w' ⟨rfl, rfl⟩; go_wp2_with fail
          refine (need_yes _).mono ?_; rintro e w' ⟨rfl, rfl⟩; go_wp2_with fail
          refine (need_yes _).mono ?_; rintro e w' ⟨rfl, rfl⟩; go_wp2_with fail
          refine HVR.out.mono ?_; rintro e w' ⟨rfl, rfl⟩
          go_wp2_with fail
          refine (need_yes _).mono ?_; rintro e w' ⟨rfl, rfl⟩; go_wp2_with fail
          (first | exact bodyPost_end (results_none rfl _ _ _) rfl (TakePost.yes HY.out LB.out ((HW.out.turn HM.out HE.out (Only.refl _ _) HAT.out).mono (by omega))) | exact bodyPost_ret (results_none rfl _ _ _) rfl (TakePost.yes HY.out LB.out ((HW.out.turn HM.out HE.out (Only.refl _ _) HAT.out).mono (by omega))))
      have q2 : (xk == 2) = false := by simpa using h2
      by_cases h3 : xk = 3
      · subst h3
        have hac := hact_any W p q _ ⟨3, xa, xt, xv⟩ hat HV.out
        by_cases hn0 : actN fs ⟨3, xa, xt, xv⟩ = 0
        · have hac2 := hact_n W p q _ ⟨3, xa, xt, xv⟩ 0 hat HV.out hn0
          have HY := Lib.hid (show stepA (M (Ev.a ⟨3, xa, xt, xv⟩)) ⟨3, xa, xt, xv⟩ = some ⟨actS fs ⟨3, xa, xt, xv⟩, false, false⟩ from by rw [show M (Ev.a ⟨3, xa, xt, xv⟩) = _ from hM]; simp [stepA, ha0, ha1, hn0])
          have HAC := Lib.hid hac2
          clear hM he hp hq hk h8 h9 hat hac hac2 hn0
          go_enter Try.func35, Try.ntmps35; go_wp2_with fail; rw [HWD.out]; refine (need_yes _).mono ?_; rintro e w' ⟨rfl, rfl⟩; go_wp2_with fail
          refine (need_yes _).mono ?_; rintro e w' ⟨rfl, rfl⟩; go_wp2_with fail
          refine (need_yes _).mono ?_; rintro e w' ⟨rfl, rfl⟩; go_wp2_with fail
          refine HAC.out.mono ?_; rintro e w2 ⟨rfl, m2, o2⟩
          have M2 := Lib.hid m2; have O2 := Lib.hid (o2.mono (T := fun k => k = p ∨ k = q) fun k _ e => .inr e)
          clear m2 o2
          go_wp2_with fail
          refine (need_yes _).mono ?_; rintro e w' ⟨rfl, rfl⟩; go_wp2_with fail
          (first | exact bodyPost_end (results_none rfl _ _ _) rfl (TakePost.yes HY.out (LB.out.trans (O2.out.lo HP.out hBW)) ((HW.out.turn HM.out HE.out O2.out M2.out).mono (by omega))) | exact bodyPost_ret (results_none rfl _ _ _) rfl (TakePost.yes HY.out (LB.out.trans (O2.out.lo HP.out hBW)) ((HW.out.turn HM.out HE.out O2.out M2.out).mono (by omega))))
        · obtain ⟨m, hm⟩ : ∃ m, actN fs ⟨3, xa, xt, xv⟩ = m := ⟨_, rfl⟩
          have hac2 := hact_n W p q _ ⟨3, xa, xt, xv⟩ m hat HV.out hm
          have hfn : stepA (M xa) ⟨3, xa, xt, xv⟩ = none := by rw [hM]; simp [stepA, hn0]
          rw [hm] at hn0
          have hm0 : (m == 0) = false := by simpa using hn0
          have HAC := Lib.hid hac2; have HFN := Lib.hid hfn
          clear hM he hp hq hk h8 h9 hat hac hac2 hn0 hm hfn
          go_enter Try.func35, Try.ntmps35; go_wp2_with fail; rw [HWD.out]; refine (need_yes _).mono ?_; rintro e w' ⟨rfl, rfl⟩; go_wp2_with fail
          refine (need_yes _).mono ?_; rintro e w' ⟨rfl, rfl⟩; go_wp2_with fail
          refine (need_yes _).mono ?_; rintro e w' ⟨rfl, rfl⟩; go_wp2_with fail
          refine HAC.out.mono ?_; rintro e w2 ⟨rfl, m2, o2⟩
          have O2 := Lib.hid (o2.mono (T := fun k => k = p ∨ k = q) fun k _ e => .inr e)
          clear m2 o2
          go_wp2_with fail
          refine (need_no _).mono ?_; rintro e w' ⟨rfl, rfl⟩; go_wp2_with fail; exact ⟨rfl, TakePost.no HFN.out (LB.out.trans (O2.out.lo HP.out hBW))⟩
      have q3 : (xk == 3) = false := by simpa using h3
      by_cases h4 : xk = 4
      · subst h4
        cases hbr : bareE ⟨4, xa, xt, xv⟩ with
        | false =>
          have HBR := Lib.hid hbr
          have HF := Lib.hid (fun (w' : World) (l : Below W.heap.size W w') => TakePost.no (B := B) (b := b) (n := n) (M := M) (x := ⟨4, xa, xt, xv⟩) (w := w) (w' := w') (by rw [show M (Ev.a ⟨4, xa, xt, xv⟩) = _ from hM]; simp [stepA, ha0, ha1, hbr]) (btrans LB.out hB l))
          clear hM he hat hp hq hk h8 h9 h2 h3 hbr
          go_enter Try.func35, Try.ntmps35; go_wp2_with fail; rw [HWD.out]; refine (need_yes _).mono ?_; rintro e w' ⟨rfl, rfl⟩; go_wp2_with fail
          refine (need_yes _).mono ?_; rintro e w' ⟨rfl, rfl⟩; go_wp2_with fail
          refine (need_yes _).mono ?_; rintro e w' ⟨rfl, rfl⟩; go_wp2_with fail
          refine (bare_f _ ⟨4, xa, xt, xv⟩ HBR.out).mono ?_; rintro e w2 ⟨rfl, l2⟩; have L2 := Lib.hid l2; clear l2
          go_wp2_with fail
          refine (need_no _).mono ?_; rintro e w' ⟨rfl, rfl⟩; go_wp2_with fail; exact ⟨rfl, HF.out _ L2.out⟩
        | true =>
          have HBR := Lib.hid hbr
          by_cases hn0 : actN fs ⟨4, xa, xt, xv⟩ = 0
          · have hac2 := Lib.hid (fun (w2 : World) (l : Below W.heap.size W w2) => hact_n w2 p q _ ⟨4, xa, xt, xv⟩ 0 (hat.below l) HV.out hn0)
            have HY := Lib.hid (show stepA (M (Ev.a ⟨4, xa, xt, xv⟩)) ⟨4, xa, xt, xv⟩ = some ⟨actS fs ⟨4, xa, xt, xv⟩, false, false⟩ from by rw [show M (Ev.a ⟨4, xa, xt, xv⟩) = _ from hM]; simp [stepA, ha0, ha1, hbr, hn0])
            have HAC := hac2
            clear hM he hat hp hq hk h8 h9 h2 h3 hbr
            clear hac2 hn0
            go_enter Try.func35, Try.ntmps35; go_wp2_with fail; rw [HWD.out]; refine (need_yes _).mono ?_; rintro e w' ⟨rfl, rfl⟩; go_wp2_with fail
            refine (need_yes _).mono ?_; rintro e w' ⟨rfl, rfl⟩; go_wp2_with fail
            refine (need_yes _).mono ?_; rintro e w' ⟨rfl, rfl⟩; go_wp2_with fail
            refine (bare_t _ ⟨4, xa, xt, xv⟩ HBR.out).mono ?_; rintro e w2 ⟨rfl, l2⟩; have L2 := Lib.hid l2; clear l2
            have e2 := bkeep L2.out c2; have e3 := bkeep L2.out c3; have e1 := bkeep L2.out c1; have e0 := bkeep L2.out c0
            go_wp2_with fail
            refine (HAC.out w2 L2.out).mono ?_; rintro e w3 ⟨rfl, m2, o2⟩
            have M2 := Lib.hid m2; have O2 := Lib.hid (o2.mono (T := fun k => k = p ∨ k = q) fun k _ e => .inr e)
            clear m2 o2
            go_wp2_with fail
            refine (need_yes _).mono ?_; rintro e w' ⟨rfl, rfl⟩; go_wp2_with fail
            (first | exact bodyPost_end (results_none rfl _ _ _) rfl (TakePost.yes HY.out ((btrans LB.out hB L2.out).trans (O2.out.lo HP.out (Nat.le_trans hBW L2.out.size))) (((HW.out.below L2.out).turn HM.out HE.out O2.out M2.out).mono (by omega))) | exact bodyPost_ret (results_none rfl _ _ _) rfl (TakePost.yes HY.out ((btrans LB.out hB L2.out).trans (O2.out.lo HP.out (Nat.le_trans hBW L2.out.size))) (((HW.out.below L2.out).turn HM.out HE.out O2.out M2.out).mono (by omega))))
          · obtain ⟨m, hm⟩ : ∃ m, actN fs ⟨4, xa, xt, xv⟩ = m := ⟨_, rfl⟩
            have hac2 := Lib.hid (fun (w2 : World) (l : Below W.heap.size W w2) => hact_n w2 p q _ ⟨4, xa, xt, xv⟩ m (hat.below l) HV.out hm)
            have hfn : stepA (M xa) ⟨4, xa, xt, xv⟩ = none := by rw [hM]; simp [stepA, hn0]
            rw [hm] at hn0
            have hm0 : (m == 0) = false := by simpa using hn0
            have HAC := hac2; have HFN := Lib.hid hfn
            clear hM he hat hp hq hk h8 h9 h2 h3 hbr
            clear hac2 hn0 hm hfn
            go_enter Try.func35, Try.ntmps35; go_wp2_with fail; rw [HWD.out]; refine (need_yes _).mono ?_; rintro e w' ⟨rfl, rfl⟩; go_wp2_with fail
            refine (need_yes _).mono ?_; rintro e w' ⟨rfl, rfl⟩; go_wp2_with fail
            refine (need_yes _).mono ?_; rintro e w' ⟨rfl, rfl⟩; go_wp2_with fail
            refine (bare_t _ ⟨4, xa, xt, xv⟩ HBR.out).mono ?_; rintro e w2 ⟨rfl, l2⟩; have L2 := Lib.hid l2; clear l2
            have e2 := bkeep L2.out c2; have e3 := bkeep L2.out c3; have e1 := bkeep L2.out c1; have e0 := bkeep L2.out c0
            go_wp2_with fail
            refine (HAC.out w2 L2.out).mono ?_; rintro e w3 ⟨rfl, m2, o2⟩
            have O2 := Lib.hid (o2.mono (T := fun k => k = p ∨ k = q) fun k _ e => .inr e)
            clear m2 o2
            go_wp2_with fail
            refine (need_no _).mono ?_; rintro e w' ⟨rfl, rfl⟩; go_wp2_with fail; exact ⟨rfl, TakePost.no HFN.out ((btrans LB.out hB L2.out).trans (O2.out.lo HP.out (Nat.le_trans hBW L2.out.size)))⟩
      have q4 : (xk == 4) = false := by simpa using h4
      by_cases h5 : xk = 5
      · subst h5
        cases hbr : bareE ⟨5, xa, xt, xv⟩ with
        | false =>
          have HBR := Lib.hid hbr
          have HF := Lib.hid (fun (w' : World) (l : Below W.heap.size W w') => TakePost.no (B := B) (b := b) (n := n) (M := M) (x := ⟨5, xa, xt, xv⟩) (w := w) (w' := w') (by rw [show M (Ev.a ⟨5, xa, xt, xv⟩) = _ from hM]; simp [stepA, ha0, ha1, hbr]) (btrans LB.out hB l))
          clear hM he hat hp hq hk h8 h9 h2 h3 hbr
          go_enter Try.func35, Try.ntmps35; go_wp2_with fail; rw [HWD.out]; refine (need_yes _).mono ?_; rintro e w' ⟨rfl, rfl⟩; go_wp2_with fail
          refine (need_yes _).mono ?_; rintro e w' ⟨rfl, rfl⟩; go_wp2_with fail
          refine (need_yes _).mono ?_; rintro e w' ⟨rfl, rfl⟩; go_wp2_with fail
          refine (bare_f _ ⟨5, xa, xt, xv⟩ HBR.out).mono ?_; rintro e w2 ⟨rfl, l2⟩; have L2 := Lib.hid l2; clear l2
          go_wp2_with fail
          refine (need_no _).mono ?_; rintro e w' ⟨rfl, rfl⟩; go_wp2_with fail; exact ⟨rfl, HF.out _ L2.out⟩
        | true =>
          have HBR := Lib.hid hbr
          by_cases hn0 : actN fs ⟨5, xa, xt, xv⟩ = 0
          · have hac2 := Lib.hid (fun (w2 : World) (l : Below W.heap.size W w2) => hact_n w2 p q _ ⟨5, xa, xt, xv⟩ 0 (hat.below l) HV.out hn0)
            have HY := Lib.hid (show stepA (M (Ev.a ⟨5, xa, xt, xv⟩)) ⟨5, xa, xt, xv⟩ = some ⟨actS fs ⟨5, xa, xt, xv⟩, false, false⟩ from by rw [show M (Ev.a ⟨5, xa, xt, xv⟩) = _ from hM]; simp [stepA, ha0, ha1, hbr, hn0])
            have HAC := hac2
            clear hM he hat hp hq hk h8 h9 h2 h3 hbr
            clear hac2 hn0
            go_enter Try.func35, Try.ntmps35; go_wp2_with fail; rw [HWD.out]; refine (need_yes _).mono ?_; rintro e w' ⟨rfl, rfl⟩; go_wp2_with fail
            refine (need_yes _).mono ?_; rintro e w' ⟨rfl, rfl⟩; go_wp2_with fail
            refine (need_yes _).mono ?_; rintro e w' ⟨rfl, rfl⟩; go_wp2_with fail
            refine (bare_t _ ⟨5, xa, xt, xv⟩ HBR.out).mono ?_; rintro e w2 ⟨rfl, l2⟩; have L2 := Lib.hid l2; clear l2
            have e2 := bkeep L2.out c2; have e3 := bkeep L2.out c3; have e1 := bkeep L2.out c1; have e0 := bkeep L2.out c0
            go_wp2_with fail
            refine (HAC.out w2 L2.out).mono ?_; rintro e w3 ⟨rfl, m2, o2⟩
            have M2 := Lib.hid m2; have O2 := Lib.hid (o2.mono (T := fun k => k = p ∨ k = q) fun k _ e => .inr e)
            clear m2 o2
            go_wp2_with fail
            refine (need_yes _).mono ?_; rintro e w' ⟨rfl, rfl⟩; go_wp2_with fail
            (first | exact bodyPost_end (results_none rfl _ _ _) rfl (TakePost.yes HY.out ((btrans LB.out hB L2.out).trans (O2.out.lo HP.out (Nat.le_trans hBW L2.out.size))) (((HW.out.below L2.out).turn HM.out HE.out O2.out M2.out).mono (by omega))) | exact bodyPost_ret (results_none rfl _ _ _) rfl (TakePost.yes HY.out ((btrans LB.out hB L2.out).trans (O2.out.lo HP.out (Nat.le_trans hBW L2.out.size))) (((HW.out.below L2.out).turn HM.out HE.out O2.out M2.out).mono (by omega))))
          · obtain ⟨m, hm⟩ : ∃ m, actN fs ⟨5, xa, xt, xv⟩ = m := ⟨_, rfl⟩
            have hac2 := Lib.hid (fun (w2 : World) (l : Below W.heap.size W w2) => hact_n w2 p q _ ⟨5, xa, xt, xv⟩ m (hat.below l) HV.out hm)
            have hfn : stepA (M xa) ⟨5, xa, xt, xv⟩ = none := by rw [hM]; simp [stepA, hn0]
            rw [hm] at hn0
            have hm0 : (m == 0) = false := by simpa using hn0
            have HAC := hac2; have HFN := Lib.hid hfn
            clear hM he hat hp hq hk h8 h9 h2 h3 hbr
            clear hac2 hn0 hm hfn
            go_enter Try.func35, Try.ntmps35; go_wp2_with fail; rw [HWD.out]; refine (need_yes _).mono ?_; rintro e w' ⟨rfl, rfl⟩; go_wp2_with fail
            refine (need_yes _).mono ?_; rintro e w' ⟨rfl, rfl⟩; go_wp2_with fail
            refine (need_yes _).mono ?_; rintro e w' ⟨rfl, rfl⟩; go_wp2_with fail
            refine (bare_t _ ⟨5, xa, xt, xv⟩ HBR.out).mono ?_; rintro e w2 ⟨rfl, l2⟩; have L2 := Lib.hid l2; clear l2
            have e2 := bkeep L2.out c2; have e3 := bkeep L2.out c3; have e1 := bkeep L2.out c1; have e0 := bkeep L2.out c0
            go_wp2_with fail
            refine (HAC.out w2 L2.out).mono ?_; rintro e w3 ⟨rfl, m2, o2⟩
            have O2 := Lib.hid (o2.mono (T := fun k => k = p ∨ k = q) fun k _ e => .inr e)
            clear m2 o2
            go_wp2_with fail
            refine (need_no _).mono ?_; rintro e w' ⟨rfl, rfl⟩; go_wp2_with fail; exact ⟨rfl, TakePost.no HFN.out ((btrans LB.out hB L2.out).trans (O2.out.lo HP.out (Nat.le_trans hBW L2.out.size)))⟩
      have q5 : (xk == 5) = false := by simpa using h5
      by_cases h6 : xk = 6
      · subst h6
        cases hbr : bareE ⟨6, xa, xt, xv⟩ with
        | false =>
          have HBR := Lib.hid hbr
          have HF := Lib.hid (fun (w' : World) (l : Below W.heap.size W w') => TakePost.no (B := B) (b := b) (n := n) (M := M) (x := ⟨6, xa, xt, xv⟩) (w := w) (w' := w') (by rw [show M (Ev.a ⟨6, xa, xt, xv⟩) = _ from hM]; simp [stepA, ha0, ha1, hbr]) (btrans LB.out hB l))
          clear hM he hat hp hq hk h8 h9 h2 h3 hbr
          go_enter Try.func35, Try.ntmps35; go_wp2_with fail; rw [HWD.out]; refine (need_yes _).mono ?_; rintro e w' ⟨rfl, rfl⟩; go_wp2_with fail
          refine (need_yes _).mono ?_; rintro e w' ⟨rfl, rfl⟩; go_wp2_with fail
          refine (need_yes _).mono ?_; rintro e w' ⟨rfl, rfl⟩; go_wp2_with fail
          refine (bare_f _ ⟨6, xa, xt, xv⟩ HBR.out).mono ?_; rintro e w2 ⟨rfl, l2⟩; have L2 := Lib.hid l2; clear l2
          go_wp2_with fail
          refine (need_no _).mono ?_; rintro e w' ⟨rfl, rfl⟩; go_wp2_with fail; exact ⟨rfl, HF.out _ L2.out⟩
        | true =>
          have HBR := Lib.hid hbr
          by_cases hn0 : actN fs ⟨6, xa, xt, xv⟩ = 0
          · have hac2 := Lib.hid (fun (w2 : World) (l : Below W.heap.size W w2) => hact_n w2 p q _ ⟨6, xa, xt, xv⟩ 0 (hat.below l) HV.out hn0)
            have HY := Lib.hid (show stepA (M (Ev.a ⟨6, xa, xt, xv⟩)) ⟨6, xa, xt, xv⟩ = some ⟨actS fs ⟨6, xa, xt, xv⟩, false, false⟩ from by rw [show M (Ev.a ⟨6, xa, xt, xv⟩) = _ from hM]; simp [stepA, ha0, ha1, hbr, hn0])
            have HAC := hac2
            clear hM he hat hp hq hk h8 h9 h2 h3 hbr
            clear hac2 hn0
            go_enter Try.func35, Try.ntmps35; go_wp2_with fail; rw [HWD.out]; refine (need_yes _).mono ?_; rintro e w' ⟨rfl, rfl⟩; go_wp2_with fail
            refine (need_yes _).mono ?_; rintro e w' ⟨rfl, rfl⟩; go_wp2_with fail
            refine (need_yes _).mono ?_; rintro e w' ⟨rfl, rfl⟩; go_wp2_with fail
            refine (bare_t _ ⟨6, xa, xt, xv⟩ HBR.out).mono ?_; rintro e w2 ⟨rfl, l2⟩; have L2 := Lib.hid l2; clear l2
            have e2 := bkeep L2.out c2; have e3 := bkeep L2.out c3; have e1 := bkeep L2.out c1; have e0 := bkeep L2.out c0
            go_wp2_with fail
            refine (HAC.out w2 L2.out).mono ?_; rintro e w3 ⟨rfl, m2, o2⟩
            have M2 := Lib.hid m2; have O2 := Lib.hid (o2.mono (T := fun k => k = p ∨ k = q) fun k _ e => .inr e)
            clear m2 o2
            go_wp2_with fail
            refine (need_yes _).mono ?_; rintro e w' ⟨rfl, rfl⟩; go_wp2_with fail
            (first | exact bodyPost_end (results_none rfl _ _ _) rfl (TakePost.yes HY.out ((btrans LB.out hB L2.out).trans (O2.out.lo HP.out (Nat.le_trans hBW L2.out.size))) (((HW.out.below L2.out).turn HM.out HE.out O2.out M2.out).mono (by omega))) | exact bodyPost_ret (results_none rfl _ _ _) rfl (TakePost.yes HY.out ((btrans LB.out hB L2.out).trans (O2.out.lo HP.out (Nat.le_trans hBW L2.out.size))) (((HW.out.below L2.out).turn HM.out HE.out O2.out M2.out).mono (by omega))))
          · obtain ⟨m, hm⟩ : ∃ m, actN fs ⟨6, xa, xt, xv⟩ = m := ⟨_, rfl⟩
            have hac2 := Lib.hid (fun (w2 : World) (l : Below W.heap.size W w2) => hact_n w2 p q _ ⟨6, xa, xt, xv⟩ m (hat.below l) HV.out hm)
            have hfn : stepA (M xa) ⟨6, xa, xt, xv⟩ = none := by rw [hM]; simp [stepA, hn0]
            rw [hm] at hn0
            have hm0 : (m == 0) = false := by simpa using hn0
            have HAC := hac2; have HFN := Lib.hid hfn
            clear hM he hat hp hq hk h8 h9 h2 h3 hbr
            clear hac2 hn0 hm hfn
            go_enter Try.func35, Try.ntmps35; go_wp2_with fail; rw [HWD.out]; refine (need_yes _).mono ?_; rintro e w' ⟨rfl, rfl⟩; go_wp2_with fail
            refine (need_yes _).mono ?_; rintro e w' ⟨rfl, rfl⟩; go_wp2_with fail
            refine (need_yes _).mono ?_; rintro e w' ⟨rfl, rfl⟩; go_wp2_with fail
            refine (bare_t _ ⟨6, xa, xt, xv⟩ HBR.out).mono ?_; rintro e w2 ⟨rfl, l2⟩; have L2 := Lib.hid l2; clear l2
            have e2 := bkeep L2.out c2; have e3 := bkeep L2.out c3; have e1 := bkeep L2.out c1; have e0 := bkeep L2.out c0
            go_wp2_with fail
            refine (HAC.out w2 L2.out).mono ?_; rintro e w3 ⟨rfl, m2, o2⟩
            have O2 := Lib.hid (o2.mono (T := fun k => k = p ∨ k = q) fun k _ e => .inr e)
            clear m2 o2
            go_wp2_with fail
            refine (need_no _).mono ?_; rintro e w' ⟨rfl, rfl⟩; go_wp2_with fail; exact ⟨rfl, TakePost.no HFN.out ((btrans LB.out hB L2.out).trans (O2.out.lo HP.out (Nat.le_trans hBW L2.out.size)))⟩
      have q6 : (xk == 6) = false := by simpa using h6
      by_cases h7 : xk = 7
      · subst h7
        cases hbr : bareE ⟨7, xa, xt, xv⟩ with
        | false =>
          have HBR := Lib.hid hbr
          have HF := Lib.hid (fun (w' : World) (l : Below W.heap.size W w') => TakePost.no (B := B) (b := b) (n := n) (M := M) (x := ⟨7, xa, xt, xv⟩) (w := w) (w' := w') (by rw [show M (Ev.a ⟨7, xa, xt, xv⟩) = _ from hM]; simp [stepA, ha0, ha1, hbr]) (btrans LB.out hB l))
          clear hM he hat hp hq hk h8 h9 h2 h3 hbr
          go_enter Try.func35, Try.ntmps35; go_wp2_with fail; rw [HWD.out]; refine (need_yes _).mono ?_; rintro e w' ⟨rfl, rfl⟩; go_wp2_with fail
          refine (need_yes _).mono ?_; rintro e w' ⟨rfl, rfl⟩; go_wp2_with fail
          refine (need_yes _).mono ?_; rintro e w' ⟨rfl, rfl⟩; go_wp2_with fail
          refine (bare_f _ ⟨7, xa, xt, xv⟩ HBR.out).mono ?_; rintro e w2 ⟨rfl, l2⟩; have L2 := Lib.hid l2; clear l2
          go_wp2_with fail
          refine (need_no _).mono ?_; rintro e w' ⟨rfl, rfl⟩; go_wp2_with fail; exact ⟨rfl, HF.out _ L2.out⟩
        | true =>
          have HBR := Lib.hid hbr
          have HDP := Lib.hid (fun (w2 : World) (l : Below W.heap.size W w2) => depth_p ((hat.below l).log))
          by_cases hn0 : fs.length = 1
          · have HY := Lib.hid (show stepA (M (Ev.a ⟨7, xa, xt, xv⟩)) ⟨7, xa, xt, xv⟩ = some ⟨fs, true, false⟩ from by rw [show M (Ev.a ⟨7, xa, xt, xv⟩) = _ from hM]; simp [stepA, ha0, ha1, hbr, hn0])
            have HFL := Lib.hid hn0
            clear hM he hp hq hk h8 h9 h2 h3 hbr
            clear hn0
            go_enter Try.func35, Try.ntmps35; go_wp2_with fail; rw [HWD.out]; refine (need_yes _).mono ?_; rintro e w' ⟨rfl, rfl⟩; go_wp2_with fail
            refine (need_yes _).mono ?_; rintro e w' ⟨rfl, rfl⟩; go_wp2_with fail
            refine (need_yes _).mono ?_; rintro e w' ⟨rfl, rfl⟩; go_wp2_with fail
            refine (bare_t _ ⟨7, xa, xt, xv⟩ HBR.out).mono ?_; rintro e w2 ⟨rfl, l2⟩; have L2 := Lib.hid l2; clear l2
            have e2 := bkeep L2.out c2; have e3 := bkeep L2.out c3; have r0 := bkeep L2.out p0; have r1 := bkeep L2.out p1; have r2 := bkeep L2.out p2; have hat2 := hat.below L2.out; have f1 := blk_free hat2.blk 1; have f2 := blk_free hat2.blk 2; have HAT2 := Lib.hid hat2; clear hat2
            go_wp2_with fail
            refine (HDP.out w2 L2.out).mono ?_; rintro e w3 ⟨rfl, rfl⟩
            dsimp only
            rw [HFL.out]
            go_wp2_with fail
            refine (need_yes _).mono ?_; rintro e w' ⟨rfl, rfl⟩; go_wp2_with fail
            obtain ⟨k1, k2⟩ := HAT2.out.put 1 (.bool true) (t := true) (e := false) rfl
            (first | exact bodyPost_end (results_none rfl _ _ _) rfl (TakePost.yes HY.out ((btrans LB.out hB L2.out).trans (k2.lo HP.out (Nat.le_trans hBW L2.out.size))) (((HW.out.below L2.out).turn HM.out HE.out k2 k1).mono (by omega))) | exact bodyPost_ret (results_none rfl _ _ _) rfl (TakePost.yes HY.out ((btrans LB.out hB L2.out).trans (k2.lo HP.out (Nat.le_trans hBW L2.out.size))) (((HW.out.below L2.out).turn HM.out HE.out k2 k1).mono (by omega))))
          · have HF := Lib.hid (fun (w' : World) (l : Below W.heap.size W w') => TakePost.no (B := B) (b := b) (n := n) (M := M) (x := ⟨7, xa, xt, xv⟩) (w := w) (w' := w') (by rw [show M (Ev.a ⟨7, xa, xt, xv⟩) = _ from hM]; simp [stepA, ha0, ha1, hbr, hn0]) (btrans LB.out hB l))
            obtain ⟨m, hm⟩ : ∃ m : Int, (fs.length : Int) - 1 = m := ⟨_, rfl⟩
            have hm0 : (m == 0) = false := by have : ¬ m = 0 := by omega
                                              simpa using this
            have HFL := Lib.hid hm
            clear hM he hat hp hq hk h8 h9 h2 h3 hbr
            clear hn0 hm
            go_enter Try.func35, Try.ntmps35; go_wp2_with fail; rw [HWD.out]; refine (need_yes _).mono ?_; rintro e w' ⟨rfl, rfl⟩; go_wp2_with fail
            refine (need_yes _).mono ?_; rintro e w' ⟨rfl, rfl⟩; go_wp2_with fail
            refine (need_yes _).mono ?_; rintro e w' ⟨rfl, rfl⟩; go_wp2_with fail
            refine (bare_t _ ⟨7, xa, xt, xv⟩ HBR.out).mono ?_; rintro e w2 ⟨rfl, l2⟩; have L2 := Lib.hid l2; clear l2
            have r0 := bkeep L2.out p0
            have e0 := bkeep L2.out c0
            go_wp2_with fail
            refine (HDP.out w2 L2.out).mono ?_; rintro e w3 ⟨rfl, rfl⟩
            dsimp only
            rw [HFL.out]
            go_wp2_with fail
            refine (need_no _).mono ?_; rintro e w' ⟨rfl, rfl⟩; go_wp2_with fail; exact ⟨rfl, HF.out _ L2.out⟩
      have q7 : (xk == 7) = false := by simpa using h7
      have HF := Lib.hid (TakePost.no (B := B) (b := b) (n := n) (M := M) (x := ⟨xk, xa, xt, xv⟩) (w := w) (w' := W) (by rw [show M (Ev.a ⟨xk, xa, xt, xv⟩) = _ from hM]; simp [stepA, ha0, ha1, hk, h8, h9, h2, h3, h4, h5, h6, h7]) LB.out)
      clear hM he hat hp hq hk h8 h9 h2 h3 h4 h5 h6 h7
      go_enter Try.func35, Try.ntmps35; go_wp2_with fail; rw [HWD.out]; refine (need_yes _).mono ?_; rintro e w' ⟨rfl, rfl⟩; go_wp2_with fail
      refine (need_yes _).mono ?_; rintro e w' ⟨rfl, rfl⟩; go_wp2_with fail
      refine (need_yes _).mono ?_; rintro e w' ⟨rfl, rfl⟩; go_wp2_with fail
      refine (need_no _).mono ?_; rintro e w' ⟨rfl, rfl⟩; go_wp2_with fail; exact ⟨rfl, HF.out⟩
end Go.Proofs.Ytfpiecnbnoinnaa.His
