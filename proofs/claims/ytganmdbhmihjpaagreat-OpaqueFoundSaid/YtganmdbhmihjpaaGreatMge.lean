/- Texts of this seat, one behind the other: HisO, HisP, HisQ, HisS, HisRA. -/
import Derived.Test.YtganmdbhmihjpaaGreatMgd
import Derived.WalkKit
import Derived.Defers
import Derived.Recover
/- The real side: take. -/
namespace Go.Proofs.YtganmdbhmihjpaaGreat.His
open Go.RowKit Go.Proofs.YtganmdbhmihjpaaGreat.Wri
set_option linter.unusedSimpArgs false
set_option linter.unusedVariables false
set_option maxRecDepth 50000

def TakePost (B b n : Nat) (M : AtM) (x : Ev) (w : World) (e : Ending) (w' : World) : Prop :=
  Below B w w' ∧ match stepA (M x.a) x with
    | some a => e = .returned (.tuple #[]) ∧ Ents B w' b (n + 1) (updA M x.a a)
    | none => e = .panicked wrongP
theorem TakePost.no {B b n : Nat} {M : AtM} {x : Ev} {w w' : World} (hs : stepA (M x.a) x = none) (l : Below B w w') : TakePost B b n M x w (.panicked wrongP) w' := by
  refine ⟨l, ?_⟩
  rw [hs]
theorem TakePost.yes {B b n : Nat} {M : AtM} {x : Ev} {w w' : World} {a : Att} (hs : stepA (M x.a) x = some a) (l : Below B w w') (h : Ents B w' b (n + 1) (updA M x.a a)) : TakePost B b n M x w (.returned (.tuple #[])) w' := by
  refine ⟨l, ?_⟩
  rw [hs]
  exact ⟨rfl, h⟩
theorem depth_p {w : World} {q : Nat} {fs : List Frm} (h : LAt w q fs) : Calls Tryz.prog 78 #[ptr q] w fun e w' => e = .returned (.int .i64 ((fs.length : Int) - 1)) ∧ w = w' := by
  obtain ⟨xs, hx, hl⟩ := h
  have := depth_any w q xs hl
  rw [show (fs.length : Int) = xs.length by rw [← hx, List.length_map]]
  exact this
theorem zeroP (w : World) : (zeroValue 105).run Tryz.prog w = .ok (.pointer none) w := by kernel_rfl
theorem kint : Tryz.prog.underlying 3 = some (.int .i64) := by kernel_rfl
theorem bare_t (w : World) (x : Ev) (h : bareE x = true) : Calls Tryz.prog 75 #[evV x] w fun e w' => e = .returned (.bool true) ∧ Below w.heap.size w w' := by
  have := bare_any w x
  rwa [h] at this
theorem bare_f (w : World) (x : Ev) (h : bareE x = false) : Calls Tryz.prog 75 #[evV x] w fun e w' => e = .returned (.bool false) ∧ Below w.heap.size w w' := by
  have := bare_any w x
  rwa [h] at this
theorem hact_n (w : World) (p q : Nat) (a : Att) (x : Ev) (n : Int) (h : AttAt w p q a) (hv : 0 ≤ x.v ∧ x.v < 18446744073709551616) (hn : actN a.fs x = n) :
    Calls Tryz.prog 77 #[ptr p, evV x] w fun e w' => e = .returned (.int .i64 n) ∧ AttAt w' p q ⟨actS a.fs x, a.tried, a.ended⟩ ∧ Only (fun k => k = q) w w' := by
  subst hn
  exact hact_any w p q a x h hv
theorem AttAt.put {w : World} {p q : Nat} {a : Att} (h : AttAt w p q a) (i : Nat) (v : Value) {t e : Bool} (hc : (#[ptr q, .bool a.tried, .bool a.ended] : Array Value).setIfInBounds i v = #[ptr q, .bool t, .bool e]) : AttAt (w.setCell ⟨p, i, none⟩ v) p q ⟨a.fs, t, e⟩ ∧ Only (fun k => k = p ∨ k = q) w (w.setCell ⟨p, i, none⟩ v) := by
  have ho : Only (fun k => k = p) w (w.setCell ⟨p, i, none⟩ v) := (Only.refl (fun k => k = p) w).setCell (p := ⟨p, i, none⟩) (.inr rfl) _
  have hs : Strange w (fun k => k = p) := fun k hk => h.odd k (.inl hk)
  refine ⟨⟨?_, h.log.strange ho hs (h.ne h).symm, h.well⟩, ho.mono fun k _ e => .inl e⟩
  have := blk_set h.blk i v
  rw [hc] at this
  exact this
theorem EntsF.atp {B : Nat} {w w' : World} {b n : Nat} {M : AtM} {ent : Int → Option (Nat × Nat)} (h : EntsF B w b n M ent) {t : Int} {a a' : Att} {p q : Nat} (ht : M t = some a) (he : ent t = some (p, q)) (l : Below w.heap.size w w') : AttAt w' p q a := ((h.at' t _ a he ht).1).below l
set_option maxHeartbeats 6400000 in
theorem take_any (B b n : Nat) (M : AtM) (x : Ev) (w : World) (h : Ents B w b n M) (hB : B ≤ w.heap.size) (hn : n < 100000) (hx : inInt x.a) (hv : 0 ≤ x.v ∧ x.v < 18446744073709551616) :
    Calls Tryz.prog 53 #[.map (some b), evV x] w (TakePost B b n M x w) := by
  obtain ⟨ent, h⟩ := h
  obtain ⟨xk, xa, xt, xv⟩ := x
  simp only at hx hv
  obtain ⟨W, hWdef⟩ : ∃ W, w.alloc (.cells #[.int .u8 xk, .int .i64 xa, .int .i64 xt, .int .u64 xv] 60) = W := ⟨_, rfl⟩
  have lW : Below w.heap.size w W := by rw [← hWdef]; repeat (first | (with_reducible exact Below.refl _ _) | (with_reducible apply Below.drew) | (with_reducible refine below_drewN ?_ _) | (with_reducible refine below_alloc' ?_ ?_ _; (focus ((try simp) <;> omega))) | (with_reducible refine below_set' ?_ ?_ _; (focus ((try simp) <;> omega))))
  have hW := h.below lW
  have c0 : W.cell? ⟨w.heap.size, 0, none⟩ = some (.int .u8 xk) := by rw [← hWdef]; simp
  have c1 : W.cell? ⟨w.heap.size, 1, none⟩ = some (.int .i64 xa) := by rw [← hWdef]; simp
  have c2 : W.cell? ⟨w.heap.size, 2, none⟩ = some (.int .i64 xt) := by rw [← hWdef]; simp
  have c3 : W.cell? ⟨w.heap.size, 3, none⟩ = some (.int .u64 xv) := by rw [← hWdef]; simp
  have hlook := hW.map.look kint Tryz.underlying86 (zeroP _) hx
  have hsz := lW.size
  have hWsz : w.heap.size < W.heap.size := by rw [← hWdef]; simp
  have HW := Lib.hid hW; have LW := Lib.hid lW; have HV := Lib.hid hv; have HX := Lib.hid hx; have HWD := Lib.hid hWdef
  have LB := Lib.hid (btrans (Below.refl B w) hB lW)
  have hBW : B ≤ W.heap.size := by omega
  clear h lW hv hx hW hWdef
  by_cases ha0 : 0 ≤ xa
  case neg =>
    have d1 : decide (0 ≤ xa) = false := by simpa using ha0
    have HF := Lib.hid (TakePost.no (B := B) (b := b) (n := n) (M := M) (x := ⟨xk, xa, xt, xv⟩) (w := w) (w' := W) (by unfold stepA; rw [if_pos (by simp only; omega)]) LB.out)
    go_enter Tryz.func53, Tryz.ntmps53
    go_wp2_with fail
    rw [HWD.out]
    refine (need_no _).mono ?_; rintro e w' ⟨rfl, rfl⟩; go_wp2_with fail; exact ⟨rfl, HF.out⟩
  have d1 : decide (0 ≤ xa) = true := by simpa using ha0
  by_cases ha1 : xa < 64
  case neg =>
    have d2 : decide (xa < 64) = false := by simpa using ha1
    have HF := Lib.hid (TakePost.no (B := B) (b := b) (n := n) (M := M) (x := ⟨xk, xa, xt, xv⟩) (w := w) (w' := W) (by unfold stepA; rw [if_pos (by simp only; omega)]) LB.out)
    go_enter Tryz.func53, Tryz.ntmps53
    go_wp2_with fail
    rw [HWD.out]
    refine (need_no _).mono ?_; rintro e w' ⟨rfl, rfl⟩; go_wp2_with fail; exact ⟨rfl, HF.out⟩
  have d2 : decide (xa < 64) = true := by simpa using ha1
  cases hM : M xa with
  | none =>
    have hno := HW.out.no hM
    rw [hno] at hlook
    simp only [Option.map_none, Option.getD_none] at hlook
    by_cases hk : xk = 1
    · subst hk
      cases hbr : bareE ⟨1, xa, xt, xv⟩ with
      | false =>
        have HBR := Lib.hid hbr
        have HF := Lib.hid (fun (w' : World) (l : Below W.heap.size W w') => TakePost.no (B := B) (b := b) (n := n) (M := M) (x := ⟨1, xa, xt, xv⟩) (w := w) (w' := w') (by rw [show M (Ev.a ⟨1, xa, xt, xv⟩) = _ from hM]; simp [stepA, ha0, ha1, hbr]) (btrans LB.out hB l))
        clear hbr hM hno
        go_enter Tryz.func53, Tryz.ntmps53; go_wp2_with fail; rw [HWD.out]; refine (need_yes _).mono ?_; rintro e w' ⟨rfl, rfl⟩; go_wp2_with fail
        refine (bare_f _ ⟨1, xa, xt, xv⟩ HBR.out).mono ?_; rintro e w2 ⟨rfl, l2⟩; have L2 := Lib.hid l2; clear l2
        go_wp2_with fail
        refine (need_no _).mono ?_; rintro e w' ⟨rfl, rfl⟩; go_wp2_with fail; exact ⟨rfl, HF.out _ L2.out⟩
      | true =>
        have HBR := Lib.hid hbr
        have HY := Lib.hid (show stepA (M (Ev.a ⟨1, xa, xt, xv⟩)) ⟨1, xa, xt, xv⟩ = some ⟨[[]], false, false⟩ from by rw [show M (Ev.a ⟨1, xa, xt, xv⟩) = _ from hM]; simp [stepA, ha0, ha1, hbr])
        have HM := Lib.hid hM
        clear hbr hM hno
        go_enter Tryz.func53, Tryz.ntmps53; go_wp2_with fail; rw [HWD.out]; refine (need_yes _).mono ?_; rintro e w' ⟨rfl, rfl⟩; go_wp2_with fail
        refine (bare_t _ ⟨1, xa, xt, xv⟩ HBR.out).mono ?_; rintro e w2 ⟨rfl, l2⟩; have L2 := Lib.hid l2; clear l2
        go_wp2_with fail
        refine (need_yes _).mono ?_; rintro e w' ⟨rfl, rfl⟩; go_wp2_with fail
        have e1 := bkeep L2.out.drew c1
        refine wp_region_F (fun w' => w'.cell? ⟨w.heap.size, 1, none⟩ = some (.int .i64 xa)) 6 (by kernel_rfl) ?_
        have hS0 := e1
        refine wpAnyF_take (i := 0) (v := ?_) rfl (by kernel_rfl) (by kernel_rfl) (by kernel_rfl) (by kernel_rfl) (fun _ _ _ h => h) (Or.inl ⟨by rfl, ?_⟩) (by assumption) ?_; rotate_left; (focus (intro w hSw; (skip); (first | (go_simp; done) | (go_simp; with_reducible rfl)))); (try simp only [Act.put, List.setIfInBounds_toArray, List.set_cons_zero, List.set_cons_succ])
        refine wpAnyF_take (i := 1) (v := ?_) rfl (by kernel_rfl) (by kernel_rfl) (by kernel_rfl) (by kernel_rfl) (fun _ _ _ h => h) (Or.inl ⟨by rfl, ?_⟩) (by assumption) ?_; rotate_left; (focus (intro w hSw; (skip); (first | (go_simp; done) | (go_simp; with_reducible rfl)))); (try simp only [Act.put, List.setIfInBounds_toArray, List.set_cons_zero, List.set_cons_succ])
        refine wpAnyF_take (i := 2) (v := ?_) rfl (by kernel_rfl) (by kernel_rfl) (by kernel_rfl) (by kernel_rfl) (fun _ _ _ h => h) (Or.inl ⟨by rfl, ?_⟩) (by assumption) ?_; rotate_left; (focus (intro w hSw; (have q0 := hSw); (first | (go_simp; done) | (go_simp; with_reducible rfl)))); (try simp only [Act.put, List.setIfInBounds_toArray, List.set_cons_zero, List.set_cons_succ])
        refine wpAnyF_ready (rs := [3]) (by kernel_rfl) (by simp) ?_
        refine AllF.cons rfl (fun K hK => ?_) AllF.nil
        go_simp
        refine (new_any _).mono ?_
        rintro e w3 ⟨q, rfl, hq, hl3, l3⟩
        have hS3 := bkeep l3 e1
        have l23 : Below W.heap.size W w3 := btrans L2.out.drew (Nat.le_refl _) l3
        have HL3 := Lib.hid hl3; have L23 := Lib.hid l23
        clear hl3 l3 l23 hS0
        refine hK.out _ _ (fun _ => hS3) ?_; clear hK K; (try simp only [Act.put, List.setIfInBounds_toArray, List.set_cons_zero, List.set_cons_succ])
        refine wpAnyF_take (i := 4) (v := ?_) rfl (by kernel_rfl) (by kernel_rfl) (by kernel_rfl) (by kernel_rfl) (fun _ _ _ h => h) (Or.inl ⟨by rfl, ?_⟩) (by assumption) ?_; rotate_left; (focus (intro w hSw; (skip); (first | (go_simp; done) | (go_simp; with_reducible rfl)))); (try simp only [Act.put, List.setIfInBounds_toArray, List.set_cons_zero, List.set_cons_succ])
        refine wpAnyF_ready (rs := [5]) (by kernel_rfl) (by simp) ?_
        refine AllF.cons rfl (fun K hK => ?_) AllF.nil
        go_simp
        obtain ⟨W4, hW4⟩ : ∃ W4, w3.alloc (.cells #[ptr q, .bool false, .bool false] 109) = W4 := ⟨_, rfl⟩
        rw [hW4]
        have l34 : Below w3.heap.size w3 W4 := by rw [← hW4]; repeat (first | (with_reducible exact Below.refl _ _) | (with_reducible apply Below.drew) | (with_reducible refine below_drewN ?_ _) | (with_reducible refine below_alloc' ?_ ?_ _; (focus ((try simp) <;> omega))) | (with_reducible refine below_set' ?_ ?_ _; (focus ((try simp) <;> omega))))
        have hb4 : W4.heap[w3.heap.size]? = some (.cells #[ptr q, .bool false, .bool false] 109 (0, 0)) := by rw [← hW4]; simp [↓heap_alloc_eq, ↓heap_set_eq, ↓heap_drew_eq, ↓heap_drewN_eq, setObj, size_drewN]
        have l4 : Below W.heap.size W W4 := btrans L23.out (Nat.le_refl _) l34
        have hat4 : AttAt W4 w3.heap.size q ⟨[[]], false, false⟩ := ⟨hb4, LAt.below ⟨_, rfl, HL3.out⟩ l34, WellS.one⟩
        have hm4 := HW.out.map.below l4
        obtain ⟨w5, hrun, hm5, o5⟩ := MapIs.store kint Tryz.underlying86 hm4 (by omega) HX.out (ptr w3.heap.size)
        have hs3 := L23.out.size
        have hS4 := bkeep l34 hS3
        have hEF := (HW.out.below l4).more HM.out hm5 o5 (a := ⟨[[]], false, false⟩) (hat4.apart o5 (fun k cs t fr hk e => by subst e; exact hm4.not_cells hk)) (by omega) (Nat.le_trans hBW (Nat.le_trans L2.out.size (by simpa using hq))) (fun s e c h1 h2 => by
          have hh := HW.out.at' s e c h1 h2
          have h6 := blk_lt hh.1.blk
          obtain ⟨cs, h7⟩ := LAt.blk hh.1.log
          have h8 := blk_lt h7
          have h9 := L2.out.size
          have hq' : w2.heap.size ≤ q := by simpa using hq
          exact ⟨by omega, by omega⟩)
        have HEF := Lib.hid hEF
        have HO5 := Lib.hid (Below.trans (btrans LB.out hB l4) (o5.below (B := B) (by have := l4.size; omega) (fun k hk e => by have := HW.out.lo; omega)))
        clear hEF hat4 hm4 hm5 o5 l4 hb4
        refine hK.out _ _ (fun _ => hS4) ?_; clear hK K; (try simp only [Act.put, List.setIfInBounds_toArray, List.set_cons_zero, List.set_cons_succ])
        refine wpAnyF_ready (rs := [6]) (by kernel_rfl) (by simp) ?_
        refine AllF.cons rfl (fun K hK => ?_) AllF.nil
        go_simp
        refine hK.out _ _ (fun h => absurd rfl h) ?_; clear hK K; (try simp only [Act.put, List.setIfInBounds_toArray, List.set_cons_zero, List.set_cons_succ]); refine wpAnyF_done (by kernel_rfl) ?_ _
        clear hS3 hS4 hrun e1
        go_wp2_with fail
        (first | exact bodyPost_end (results_none rfl _ _ _) rfl (TakePost.yes HY.out HO5.out HEF.out) | exact bodyPost_ret (results_none rfl _ _ _) rfl (TakePost.yes HY.out HO5.out HEF.out))
    · have q1 : (xk == 1) = false := by simpa using hk
      have HF := Lib.hid (TakePost.no (B := B) (b := b) (n := n) (M := M) (x := ⟨xk, xa, xt, xv⟩) (w := w) (w' := W) (by rw [show M (Ev.a ⟨xk, xa, xt, xv⟩) = _ from hM]; simp [stepA, ha0, ha1, hk]) LB.out)
      clear hM hno
      go_enter Tryz.func53, Tryz.ntmps53; go_wp2_with fail; rw [HWD.out]; refine (need_yes _).mono ?_; rintro e w' ⟨rfl, rfl⟩; go_wp2_with fail
      refine (need_no _).mono ?_; rintro e w' ⟨rfl, rfl⟩; go_wp2_with fail; exact ⟨rfl, HF.out⟩
  | some a =>
    obtain ⟨p, q, he, hat, hp, hq⟩ := HW.out.find hM
    obtain ⟨fs, tr, en⟩ := a
    rw [he] at hlook
    simp only [Option.map_some, Option.getD_some] at hlook
    have p0 := blk_cell hat.blk 0; have p1 := blk_cell hat.blk 1; have p2 := blk_cell hat.blk 2
    simp only [List.getElem?_toArray, List.getElem?_cons_zero, List.getElem?_cons_succ] at p0 p1 p2
    by_cases hk : xk = 1
    · subst hk
      have HF := Lib.hid (TakePost.no (B := B) (b := b) (n := n) (M := M) (x := ⟨1, xa, xt, xv⟩) (w := w) (w' := W) (by rw [show M (Ev.a ⟨1, xa, xt, xv⟩) = _ from hM]; simp [stepA, ha0, ha1, hM]) LB.out)
      clear hM he hat hp hq
      go_enter Tryz.func53, Tryz.ntmps53; go_wp2_with fail; rw [HWD.out]; refine (need_yes _).mono ?_; rintro e w' ⟨rfl, rfl⟩; go_wp2_with fail
      refine (need_no _).mono ?_; rintro e w' ⟨rfl, rfl⟩; go_wp2_with fail; exact ⟨rfl, HF.out⟩
    have q1 : (xk == 1) = false := by simpa using hk
    cases en with
    | true =>
      have HF := Lib.hid (TakePost.no (B := B) (b := b) (n := n) (M := M) (x := ⟨xk, xa, xt, xv⟩) (w := w) (w' := W) (by rw [show M (Ev.a ⟨xk, xa, xt, xv⟩) = _ from hM]; simp [stepA, ha0, ha1, hk]) LB.out)
      clear hM he hat hp hq
      go_enter Tryz.func53, Tryz.ntmps53; go_wp2_with fail; rw [HWD.out]; refine (need_yes _).mono ?_; rintro e w' ⟨rfl, rfl⟩; go_wp2_with fail
      refine (need_no _).mono ?_; rintro e w' ⟨rfl, rfl⟩; go_wp2_with fail; exact ⟨rfl, HF.out⟩
    | false =>
      have HM := Lib.hid hM; have HE := Lib.hid he
      have HAT := Lib.hid hat
      have HP := Lib.hid (show ∀ k, (k = p ∨ k = q) → B ≤ k from fun k e => by rcases e with rfl | rfl; exact hp; exact hq)
      by_cases h8 : xk = 8
      · subst h8
        cases tr with
        | false =>
          have HF := Lib.hid (TakePost.no (B := B) (b := b) (n := n) (M := M) (x := ⟨8, xa, xt, xv⟩) (w := w) (w' := W) (by rw [show M (Ev.a ⟨8, xa, xt, xv⟩) = _ from hM]; simp [stepA, ha0, ha1, hk]) LB.out)
          clear hM he hat hp hq hk
          go_enter Tryz.func53, Tryz.ntmps53; go_wp2_with fail; rw [HWD.out]; refine (need_yes _).mono ?_; rintro e w' ⟨rfl, rfl⟩; go_wp2_with fail
          refine (need_yes _).mono ?_; rintro e w' ⟨rfl, rfl⟩; go_wp2_with fail
          refine (need_no _).mono ?_; rintro e w' ⟨rfl, rfl⟩; go_wp2_with fail; exact ⟨rfl, HF.out⟩
        | true =>
          cases hbr : bareE ⟨8, xa, xt, xv⟩ with
          | false =>
            have HBR := Lib.hid hbr
            have HF := Lib.hid (fun (w' : World) (l : Below W.heap.size W w') => TakePost.no (B := B) (b := b) (n := n) (M := M) (x := ⟨8, xa, xt, xv⟩) (w := w) (w' := w') (by rw [show M (Ev.a ⟨8, xa, xt, xv⟩) = _ from hM]; simp [stepA, ha0, ha1, hbr]) (btrans LB.out hB l))
            clear hbr hM he hat hp hq hk
            go_enter Tryz.func53, Tryz.ntmps53; go_wp2_with fail; rw [HWD.out]; refine (need_yes _).mono ?_; rintro e w' ⟨rfl, rfl⟩; go_wp2_with fail
            refine (need_yes _).mono ?_; rintro e w' ⟨rfl, rfl⟩; go_wp2_with fail
            refine (bare_f _ ⟨8, xa, xt, xv⟩ HBR.out).mono ?_; rintro e w2 ⟨rfl, l2⟩; have L2 := Lib.hid l2; clear l2
            go_wp2_with fail
            refine (need_no _).mono ?_; rintro e w' ⟨rfl, rfl⟩; go_wp2_with fail; exact ⟨rfl, HF.out _ L2.out⟩
          | true =>
            have HBR := Lib.hid hbr
            have HY := Lib.hid (show stepA (M (Ev.a ⟨8, xa, xt, xv⟩)) ⟨8, xa, xt, xv⟩ = some ⟨fs, true, true⟩ from by rw [show M (Ev.a ⟨8, xa, xt, xv⟩) = _ from hM]; simp [stepA, ha0, ha1, hbr])
            clear hbr hM he hp hq hk
            go_enter Tryz.func53, Tryz.ntmps53; go_wp2_with fail; rw [HWD.out]; refine (need_yes _).mono ?_; rintro e w' ⟨rfl, rfl⟩; go_wp2_with fail
            refine (need_yes _).mono ?_; rintro e w' ⟨rfl, rfl⟩; go_wp2_with fail
            refine (bare_t _ ⟨8, xa, xt, xv⟩ HBR.out).mono ?_; rintro e w2 ⟨rfl, l2⟩; have L2 := Lib.hid l2; clear l2
            have e2 := bkeep L2.out c2; have e3 := bkeep L2.out c3; have r0 := bkeep L2.out p0; have r1 := bkeep L2.out p1; have r2 := bkeep L2.out p2; have hat2 := hat.below L2.out; have f1 := blk_free hat2.blk 1; have f2 := blk_free hat2.blk 2; have HAT2 := Lib.hid hat2; clear hat2
            go_wp2_with fail
            refine (need_yes _).mono ?_; rintro e w' ⟨rfl, rfl⟩; go_wp2_with fail
            obtain ⟨k1, k2⟩ := HAT2.out.put 2 (.bool true) (t := true) (e := true) rfl
            (first | exact bodyPost_end (results_none rfl _ _ _) rfl (TakePost.yes HY.out ((btrans LB.out hB L2.out).trans (k2.lo HP.out (Nat.le_trans hBW L2.out.size))) (((HW.out.below L2.out).turn HM.out HE.out k2 k1).mono (by omega))) | exact bodyPost_ret (results_none rfl _ _ _) rfl (TakePost.yes HY.out ((btrans LB.out hB L2.out).trans (k2.lo HP.out (Nat.le_trans hBW L2.out.size))) (((HW.out.below L2.out).turn HM.out HE.out k2 k1).mono (by omega))))
      have q8 : (xk == 8) = false := by simpa using h8
      by_cases h9 : xk = 9
      · subst h9
        cases hbr : bareE ⟨9, xa, xt, xv⟩ with
        | false =>
          have HBR := Lib.hid hbr
          have HF := Lib.hid (fun (w' : World) (l : Below W.heap.size W w') => TakePost.no (B := B) (b := b) (n := n) (M := M) (x := ⟨9, xa, xt, xv⟩) (w := w) (w' := w') (by rw [show M (Ev.a ⟨9, xa, xt, xv⟩) = _ from hM]; simp [stepA, ha0, ha1, hbr]) (btrans LB.out hB l))
          clear hbr hM he hat hp hq hk h8
          go_enter Tryz.func53, Tryz.ntmps53; go_wp2_with fail; rw [HWD.out]; refine (need_yes _).mono ?_; rintro e w' ⟨rfl, rfl⟩; go_wp2_with fail
          refine (need_yes _).mono ?_; rintro e w' ⟨rfl, rfl⟩; go_wp2_with fail
          refine (bare_f _ ⟨9, xa, xt, xv⟩ HBR.out).mono ?_; rintro e w2 ⟨rfl, l2⟩; have L2 := Lib.hid l2; clear l2
          go_wp2_with fail
          refine (need_no _).mono ?_; rintro e w' ⟨rfl, rfl⟩; go_wp2_with fail; exact ⟨rfl, HF.out _ L2.out⟩
        | true =>
          have HBR := Lib.hid hbr
          have HY := Lib.hid (show stepA (M (Ev.a ⟨9, xa, xt, xv⟩)) ⟨9, xa, xt, xv⟩ = some ⟨fs, tr, true⟩ from by rw [show M (Ev.a ⟨9, xa, xt, xv⟩) = _ from hM]; simp [stepA, ha0, ha1, hbr])
          clear hbr hM he hp hq hk h8
          go_enter Tryz.func53, Tryz.ntmps53; go_wp2_with fail; rw [HWD.out]; refine (need_yes _).mono ?_; rintro e w' ⟨rfl, rfl⟩; go_wp2_with fail
          refine (need_yes _).mono ?_; rintro e w' ⟨rfl, rfl⟩; go_wp2_with fail
          refine (bare_t _ ⟨9, xa, xt, xv⟩ HBR.out).mono ?_; rintro e w2 ⟨rfl, l2⟩; have L2 := Lib.hid l2; clear l2
          have e2 := bkeep L2.out c2; have e3 := bkeep L2.out c3; have r0 := bkeep L2.out p0; have r1 := bkeep L2.out p1; have r2 := bkeep L2.out p2; have hat2 := hat.below L2.out; have f1 := blk_free hat2.blk 1; have f2 := blk_free hat2.blk 2; have HAT2 := Lib.hid hat2; clear hat2
          go_wp2_with fail
          refine (need_yes _).mono ?_; rintro e w' ⟨rfl, rfl⟩; go_wp2_with fail
          obtain ⟨k1, k2⟩ := HAT2.out.put 2 (.bool true) (t := tr) (e := true) rfl
          (first | exact bodyPost_end (results_none rfl _ _ _) rfl (TakePost.yes HY.out ((btrans LB.out hB L2.out).trans (k2.lo HP.out (Nat.le_trans hBW L2.out.size))) (((HW.out.below L2.out).turn HM.out HE.out k2 k1).mono (by omega))) | exact bodyPost_ret (results_none rfl _ _ _) rfl (TakePost.yes HY.out ((btrans LB.out hB L2.out).trans (k2.lo HP.out (Nat.le_trans hBW L2.out.size))) (((HW.out.below L2.out).turn HM.out HE.out k2 k1).mono (by omega))))
      have q9 : (xk == 9) = false := by simpa using h9
      cases tr with
      | true =>
        have HF := Lib.hid (TakePost.no (B := B) (b := b) (n := n) (M := M) (x := ⟨xk, xa, xt, xv⟩) (w := w) (w' := W) (by rw [show M (Ev.a ⟨xk, xa, xt, xv⟩) = _ from hM]; simp [stepA, ha0, ha1, hk, h8, h9]) LB.out)
        clear hM he hat hp hq hk h8 h9
        go_enter Tryz.func53, Tryz.ntmps53; go_wp2_with fail; rw [HWD.out]; refine (need_yes _).mono ?_; rintro e w' ⟨rfl, rfl⟩; go_wp2_with fail
        refine (need_yes _).mono ?_; rintro e w' ⟨rfl, rfl⟩; go_wp2_with fail
        refine (need_no _).mono ?_; rintro e w' ⟨rfl, rfl⟩; go_wp2_with fail; exact ⟨rfl, HF.out⟩
      | false =>
      by_cases h2 : xk = 2
      · subst h2
        by_cases ht0 : 0 ≤ xt
        case neg =>
          have d3 : decide (0 ≤ xt) = false := by simpa using ht0
          have HF := Lib.hid (TakePost.no (B := B) (b := b) (n := n) (M := M) (x := ⟨2, xa, xt, xv⟩) (w := w) (w' := W) (by rw [show M (Ev.a ⟨2, xa, xt, xv⟩) = _ from hM]; simp [stepA, ha0, ha1, okT, ht0]) LB.out)
          clear hM he hat hp hq hk h8 h9
          go_enter Tryz.func53, Tryz.ntmps53; go_wp2_with fail; rw [HWD.out]; refine (need_yes _).mono ?_; rintro e w' ⟨rfl, rfl⟩; go_wp2_with fail
          refine (need_yes _).mono ?_; rintro e w' ⟨rfl, rfl⟩; go_wp2_with fail
          refine (need_yes _).mono ?_; rintro e w' ⟨rfl, rfl⟩; go_wp2_with fail
          refine (need_no _).mono ?_; rintro e w' ⟨rfl, rfl⟩; go_wp2_with fail; exact ⟨rfl, HF.out⟩
        have d3 : decide (0 ≤ xt) = true := by simpa using ht0
        by_cases ht1 : xt < 12
        case neg =>
          have d4 : decide (xt < 12) = false := by simpa using ht1
          have HF := Lib.hid (TakePost.no (B := B) (b := b) (n := n) (M := M) (x := ⟨2, xa, xt, xv⟩) (w := w) (w' := W) (by rw [show M (Ev.a ⟨2, xa, xt, xv⟩) = _ from hM]; simp [stepA, ha0, ha1, okT, ht1]) LB.out)
          clear hM he hat hp hq hk h8 h9
          go_enter Tryz.func53, Tryz.ntmps53; go_wp2_with fail; rw [HWD.out]; refine (need_yes _).mono ?_; rintro e w' ⟨rfl, rfl⟩; go_wp2_with fail
          refine (need_yes _).mono ?_; rintro e w' ⟨rfl, rfl⟩; go_wp2_with fail
          refine (need_yes _).mono ?_; rintro e w' ⟨rfl, rfl⟩; go_wp2_with fail
          refine (need_no _).mono ?_; rintro e w' ⟨rfl, rfl⟩; go_wp2_with fail; exact ⟨rfl, HF.out⟩
        have d4 : decide (xt < 12) = true := by simpa using ht1
        have hvr := vRight_any W xv HV.out
        cases hr : rightVal xv with
        | false =>
          rw [hr] at hvr
          have HF := Lib.hid (TakePost.no (B := B) (b := b) (n := n) (M := M) (x := ⟨2, xa, xt, xv⟩) (w := w) (w' := W) (by rw [show M (Ev.a ⟨2, xa, xt, xv⟩) = _ from hM]; simp [stepA, ha0, ha1, okT, hr]) LB.out)
          have HVR := Lib.hid hvr
          clear hM he hat hp hq hk h8 h9 hr hvr
          go_enter Tryz.func53, Tryz.ntmps53; go_wp2_with fail; rw [HWD.out]; refine (need_yes _).mono ?_; rintro e w' ⟨rfl, rfl⟩; go_wp2_with fail
          refine (need_yes _).mono ?_; rintro e w' ⟨rfl, rfl⟩; go_wp2_with fail
          refine (need_yes _).mono ?_; rintro e w' ⟨rfl, rfl⟩; go_wp2_with fail
          refine HVR.out.mono ?_; rintro e w' ⟨rfl, rfl⟩
          go_wp2_with fail
          refine (need_no _).mono ?_; rintro e w' ⟨rfl, rfl⟩; go_wp2_with fail; exact ⟨rfl, HF.out⟩
        | true =>
          rw [hr] at hvr
          have HY := Lib.hid (show stepA (M (Ev.a ⟨2, xa, xt, xv⟩)) ⟨2, xa, xt, xv⟩ = some ⟨fs, false, false⟩ from by rw [show M (Ev.a ⟨2, xa, xt, xv⟩) = _ from hM]; simp [stepA, ha0, ha1, okT, ht0, ht1, hr])
          have HVR := Lib.hid hvr
          clear hM he hp hq hk h8 h9 hr hvr hat
          go_enter Tryz.func53, Tryz.ntmps53; go_wp2_with fail; rw [HWD.out]; refine (need_yes _).mono ?_; rintro e w' ⟨rfl, rfl⟩; go_wp2_with fail
          refine (need_yes _).mono ?_; rintro e w' ⟨rfl, rfl⟩; go_wp2_with fail
          refine (need_yes _).mono ?_; rintro e w' ⟨rfl, rfl⟩; go_wp2_with fail
          refine HVR.out.mono ?_; rintro e w' ⟨rfl, rfl⟩
          go_wp2_with fail
          refine (need_yes _).mono ?_; rintro e w' ⟨rfl, rfl⟩; go_wp2_with fail
          (first | exact bodyPost_end (results_none rfl _ _ _) rfl (TakePost.yes HY.out LB.out ((HW.out.turn HM.out HE.out (Only.refl _ _) HAT.out).mono (by omega))) | exact bodyPost_ret (results_none rfl _ _ _) rfl (TakePost.yes HY.out LB.out ((HW.out.turn HM.out HE.out (Only.refl _ _) HAT.out).mono (by omega))))
      have q2 : (xk == 2) = false := by simpa using h2
      by_cases h3 : xk = 3
      · subst h3
        have hac := hact_any W p q _ ⟨3, xa, xt, xv⟩ hat HV.out
        by_cases hn0 : actN fs ⟨3, xa, xt, xv⟩ = 0
        · have hac2 := hact_n W p q _ ⟨3, xa, xt, xv⟩ 0 hat HV.out hn0
          have HY := Lib.hid (show stepA (M (Ev.a ⟨3, xa, xt, xv⟩)) ⟨3, xa, xt, xv⟩ = some ⟨actS fs ⟨3, xa, xt, xv⟩, false, false⟩ from by rw [show M (Ev.a ⟨3, xa, xt, xv⟩) = _ from hM]; simp [stepA, ha0, ha1, hn0])
          have HAC := Lib.hid hac2
          clear hM he hp hq hk h8 h9 hat hac hac2 hn0
          go_enter Tryz.func53, Tryz.ntmps53; go_wp2_with fail; rw [HWD.out]; refine (need_yes _).mono ?_; rintro e w' ⟨rfl, rfl⟩; go_wp2_with fail
          refine (need_yes _).mono ?_; rintro e w' ⟨rfl, rfl⟩; go_wp2_with fail
          refine (need_yes _).mono ?_; rintro e w' ⟨rfl, rfl⟩; go_wp2_with fail
          refine HAC.out.mono ?_; rintro e w2 ⟨rfl, m2, o2⟩
          have M2 := Lib.hid m2; have O2 := Lib.hid (o2.mono (T := fun k => k = p ∨ k = q) fun k _ e => .inr e)
          clear m2 o2
          go_wp2_with fail
          refine (need_yes _).mono ?_; rintro e w' ⟨rfl, rfl⟩; go_wp2_with fail
          (first | exact bodyPost_end (results_none rfl _ _ _) rfl (TakePost.yes HY.out (LB.out.trans (O2.out.lo HP.out hBW)) ((HW.out.turn HM.out HE.out O2.out M2.out).mono (by omega))) | exact bodyPost_ret (results_none rfl _ _ _) rfl (TakePost.yes HY.out (LB.out.trans (O2.out.lo HP.out hBW)) ((HW.out.turn HM.out HE.out O2.out M2.out).mono (by omega))))
        · obtain ⟨m, hm⟩ : ∃ m, actN fs ⟨3, xa, xt, xv⟩ = m := ⟨_, rfl⟩
          have hac2 := hact_n W p q _ ⟨3, xa, xt, xv⟩ m hat HV.out hm
          have hfn : stepA (M xa) ⟨3, xa, xt, xv⟩ = none := by rw [hM]; simp [stepA, hn0]
          rw [hm] at hn0
          have hm0 : (m == 0) = false := by simpa using hn0
          have HAC := Lib.hid hac2; have HFN := Lib.hid hfn
          clear hM he hp hq hk h8 h9 hat hac hac2 hn0 hm hfn
          go_enter Tryz.func53, Tryz.ntmps53; go_wp2_with fail; rw [HWD.out]; refine (need_yes _).mono ?_; rintro e w' ⟨rfl, rfl⟩; go_wp2_with fail
          refine (need_yes _).mono ?_; rintro e w' ⟨rfl, rfl⟩; go_wp2_with fail
          refine (need_yes _).mono ?_; rintro e w' ⟨rfl, rfl⟩; go_wp2_with fail
          refine HAC.out.mono ?_; rintro e w2 ⟨rfl, m2, o2⟩
          have O2 := Lib.hid (o2.mono (T := fun k => k = p ∨ k = q) fun k _ e => .inr e)
          clear m2 o2
          go_wp2_with fail
          refine (need_no _).mono ?_; rintro e w' ⟨rfl, rfl⟩; go_wp2_with fail; exact ⟨rfl, TakePost.no HFN.out (LB.out.trans (O2.out.lo HP.out hBW))⟩
      have q3 : (xk == 3) = false := by simpa using h3
      by_cases h4 : xk = 4
      · subst h4
        cases hbr : bareE ⟨4, xa, xt, xv⟩ with
        | false =>
          have HBR := Lib.hid hbr
          have HF := Lib.hid (fun (w' : World) (l : Below W.heap.size W w') => TakePost.no (B := B) (b := b) (n := n) (M := M) (x := ⟨4, xa, xt, xv⟩) (w := w) (w' := w') (by rw [show M (Ev.a ⟨4, xa, xt, xv⟩) = _ from hM]; simp [stepA, ha0, ha1, hbr]) (btrans LB.out hB l))
          clear hM he hat hp hq hk h8 h9 h2 h3 hbr
          go_enter Tryz.func53, Tryz.ntmps53; go_wp2_with fail; rw [HWD.out]; refine (need_yes _).mono ?_; rintro e w' ⟨rfl, rfl⟩; go_wp2_with fail
          refine (need_yes _).mono ?_; rintro e w' ⟨rfl, rfl⟩; go_wp2_with fail
          refine (need_yes _).mono ?_; rintro e w' ⟨rfl, rfl⟩; go_wp2_with fail
          refine (bare_f _ ⟨4, xa, xt, xv⟩ HBR.out).mono ?_; rintro e w2 ⟨rfl, l2⟩; have L2 := Lib.hid l2; clear l2
          go_wp2_with fail
          refine (need_no _).mono ?_; rintro e w' ⟨rfl, rfl⟩; go_wp2_with fail; exact ⟨rfl, HF.out _ L2.out⟩
        | true =>
          have HBR := Lib.hid hbr
          by_cases hn0 : actN fs ⟨4, xa, xt, xv⟩ = 0
          · have hac2 := Lib.hid (fun (w2 : World) (l : Below W.heap.size W w2) => hact_n w2 p q _ ⟨4, xa, xt, xv⟩ 0 (hat.below l) HV.out hn0)
            have HY := Lib.hid (show stepA (M (Ev.a ⟨4, xa, xt, xv⟩)) ⟨4, xa, xt, xv⟩ = some ⟨actS fs ⟨4, xa, xt, xv⟩, false, false⟩ from by rw [show M (Ev.a ⟨4, xa, xt, xv⟩) = _ from hM]; simp [stepA, ha0, ha1, hbr, hn0])
            have HAC := hac2
            clear hM he hat hp hq hk h8 h9 h2 h3 hbr
            clear hac2 hn0
            go_enter Tryz.func53, Tryz.ntmps53; go_wp2_with fail; rw [HWD.out]; refine (need_yes _).mono ?_; rintro e w' ⟨rfl, rfl⟩; go_wp2_with fail
            refine (need_yes _).mono ?_; rintro e w' ⟨rfl, rfl⟩; go_wp2_with fail
            refine (need_yes _).mono ?_; rintro e w' ⟨rfl, rfl⟩; go_wp2_with fail
            refine (bare_t _ ⟨4, xa, xt, xv⟩ HBR.out).mono ?_; rintro e w2 ⟨rfl, l2⟩; have L2 := Lib.hid l2; clear l2
            have e2 := bkeep L2.out c2; have e3 := bkeep L2.out c3; have e1 := bkeep L2.out c1; have e0 := bkeep L2.out c0
            go_wp2_with fail
            refine (HAC.out w2 L2.out).mono ?_; rintro e w3 ⟨rfl, m2, o2⟩
            have M2 := Lib.hid m2; have O2 := Lib.hid (o2.mono (T := fun k => k = p ∨ k = q) fun k _ e => .inr e)
            clear m2 o2
            go_wp2_with fail
            refine (need_yes _).mono ?_; rintro e w' ⟨rfl, rfl⟩; go_wp2_with fail
            (first | exact bodyPost_end (results_none rfl _ _ _) rfl (TakePost.yes HY.out ((btrans LB.out hB L2.out).trans (O2.out.lo HP.out (Nat.le_trans hBW L2.out.size))) (((HW.out.below L2.out).turn HM.out HE.out O2.out M2.out).mono (by omega))) | exact bodyPost_ret (results_none rfl _ _ _) rfl (TakePost.yes HY.out ((btrans LB.out hB L2.out).trans (O2.out.lo HP.out (Nat.le_trans hBW L2.out.size))) (((HW.out.below L2.out).turn HM.out HE.out O2.out M2.out).mono (by omega))))
          · obtain ⟨m, hm⟩ : ∃ m, actN fs ⟨4, xa, xt, xv⟩ = m := ⟨_, rfl⟩
            have hac2 := Lib.hid (fun (w2 : World) (l : Below W.heap.size W w2) => hact_n w2 p q _ ⟨4, xa, xt, xv⟩ m (hat.below l) HV.out hm)
            have hfn : stepA (M xa) ⟨4, xa, xt, xv⟩ = none := by rw [hM]; simp [stepA, hn0]
            rw [hm] at hn0
            have hm0 : (m == 0) = false := by simpa using hn0
            have HAC := hac2; have HFN := Lib.hid hfn
            clear hM he hat hp hq hk h8 h9 h2 h3 hbr
            clear hac2 hn0 hm hfn
            go_enter Tryz.func53, Tryz.ntmps53; go_wp2_with fail; rw [HWD.out]; refine (need_yes _).mono ?_; rintro e w' ⟨rfl, rfl⟩; go_wp2_with fail
            refine (need_yes _).mono ?_; rintro e w' ⟨rfl, rfl⟩; go_wp2_with fail
            refine (need_yes _).mono ?_; rintro e w' ⟨rfl, rfl⟩; go_wp2_with fail
            refine (bare_t _ ⟨4, xa, xt, xv⟩ HBR.out).mono ?_; rintro e w2 ⟨rfl, l2⟩; have L2 := Lib.hid l2; clear l2
            have e2 := bkeep L2.out c2; have e3 := bkeep L2.out c3; have e1 := bkeep L2.out c1; have e0 := bkeep L2.out c0
            go_wp2_with fail
            refine (HAC.out w2 L2.out).mono ?_; rintro e w3 ⟨rfl, m2, o2⟩
            have O2 := Lib.hid (o2.mono (T := fun k => k = p ∨ k = q) fun k _ e => .inr e)
            clear m2 o2
            go_wp2_with fail
            refine (need_no _).mono ?_; rintro e w' ⟨rfl, rfl⟩; go_wp2_with fail; exact ⟨rfl, TakePost.no HFN.out ((btrans LB.out hB L2.out).trans (O2.out.lo HP.out (Nat.le_trans hBW L2.out.size)))⟩
      have q4 : (xk == 4) = false := by simpa using h4
      by_cases h5 : xk = 5
      · subst h5
        cases hbr : bareE ⟨5, xa, xt, xv⟩ with
        | false =>
          have HBR := Lib.hid hbr
          have HF := Lib.hid (fun (w' : World) (l : Below W.heap.size W w') => TakePost.no (B := B) (b := b) (n := n) (M := M) (x := ⟨5, xa, xt, xv⟩) (w := w) (w' := w') (by rw [show M (Ev.a ⟨5, xa, xt, xv⟩) = _ from hM]; simp [stepA, ha0, ha1, hbr]) (btrans LB.out hB l))
          clear hM he hat hp hq hk h8 h9 h2 h3 hbr
          go_enter Tryz.func53, Tryz.ntmps53; go_wp2_with fail; rw [HWD.out]; refine (need_yes _).mono ?_; rintro e w' ⟨rfl, rfl⟩; go_wp2_with fail
          refine (need_yes _).mono ?_; rintro e w' ⟨rfl, rfl⟩; go_wp2_with fail
          refine (need_yes _).mono ?_; rintro e w' ⟨rfl, rfl⟩; go_wp2_with fail
          refine (bare_f _ ⟨5, xa, xt, xv⟩ HBR.out).mono ?_; rintro e w2 ⟨rfl, l2⟩; have L2 := Lib.hid l2; clear l2
          go_wp2_with fail
          refine (need_no _).mono ?_; rintro e w' ⟨rfl, rfl⟩; go_wp2_with fail; exact ⟨rfl, HF.out _ L2.out⟩
        | true =>
          have HBR := Lib.hid hbr
          by_cases hn0 : actN fs ⟨5, xa, xt, xv⟩ = 0
          · have hac2 := Lib.hid (fun (w2 : World) (l : Below W.heap.size W w2) => hact_n w2 p q _ ⟨5, xa, xt, xv⟩ 0 (hat.below l) HV.out hn0)
            have HY := Lib.hid (show stepA (M (Ev.a ⟨5, xa, xt, xv⟩)) ⟨5, xa, xt, xv⟩ = some ⟨actS fs ⟨5, xa, xt, xv⟩, false, false⟩ from by rw [show M (Ev.a ⟨5, xa, xt, xv⟩) = _ from hM]; simp [stepA, ha0, ha1, hbr, hn0])
            have HAC := hac2
            clear hM he hat hp hq hk h8 h9 h2 h3 hbr
            clear hac2 hn0
            go_enter Tryz.func53, Tryz.ntmps53; go_wp2_with fail; rw [HWD.out]; refine (need_yes _).mono ?_; rintro e w' ⟨rfl, rfl⟩; go_wp2_with fail
            refine (need_yes _).mono ?_; rintro e w' ⟨rfl, rfl⟩; go_wp2_with fail
            refine (need_yes _).mono ?_; rintro e w' ⟨rfl, rfl⟩; go_wp2_with fail
            refine (bare_t _ ⟨5, xa, xt, xv⟩ HBR.out).mono ?_; rintro e w2 ⟨rfl, l2⟩; have L2 := Lib.hid l2; clear l2
            have e2 := bkeep L2.out c2; have e3 := bkeep L2.out c3; have e1 := bkeep L2.out c1; have e0 := bkeep L2.out c0
            go_wp2_with fail
            refine (HAC.out w2 L2.out).mono ?_; rintro e w3 ⟨rfl, m2, o2⟩
            have M2 := Lib.hid m2; have O2 := Lib.hid (o2.mono (T := fun k => k = p ∨ k = q) fun k _ e => .inr e)
            clear m2 o2
            go_wp2_with fail
            refine (need_yes _).mono ?_; rintro e w' ⟨rfl, rfl⟩; go_wp2_with fail
            (first | exact bodyPost_end (results_none rfl _ _ _) rfl (TakePost.yes HY.out ((btrans LB.out hB L2.out).trans (O2.out.lo HP.out (Nat.le_trans hBW L2.out.size))) (((HW.out.below L2.out).turn HM.out HE.out O2.out M2.out).mono (by omega))) | exact bodyPost_ret (results_none rfl _ _ _) rfl (TakePost.yes HY.out ((btrans LB.out hB L2.out).trans (O2.out.lo HP.out (Nat.le_trans hBW L2.out.size))) (((HW.out.below L2.out).turn HM.out HE.out O2.out M2.out).mono (by omega))))
          · obtain ⟨m, hm⟩ : ∃ m, actN fs ⟨5, xa, xt, xv⟩ = m := ⟨_, rfl⟩
            have hac2 := Lib.hid (fun (w2 : World) (l : Below W.heap.size W w2) => hact_n w2 p q _ ⟨5, xa, xt, xv⟩ m (hat.below l) HV.out hm)
            have hfn : stepA (M xa) ⟨5, xa, xt, xv⟩ = none := by rw [hM]; simp [stepA, hn0]
            rw [hm] at hn0
            have hm0 : (m == 0) = false := by simpa using hn0
            have HAC := hac2; have HFN := Lib.hid hfn
            clear hM he hat hp hq hk h8 h9 h2 h3 hbr
            clear hac2 hn0 hm hfn
            go_enter Tryz.func53, Tryz.ntmps53; go_wp2_with fail; rw [HWD.out]; refine (need_yes _).mono ?_; rintro e w' ⟨rfl, rfl⟩; go_wp2_with fail
            refine (need_yes _).mono ?_; rintro e w' ⟨rfl, rfl⟩; go_wp2_with fail
            refine (need_yes _).mono ?_; rintro e w' ⟨rfl, rfl⟩; go_wp2_with fail
            refine (bare_t _ ⟨5, xa, xt, xv⟩ HBR.out).mono ?_; rintro e w2 ⟨rfl, l2⟩; have L2 := Lib.hid l2; clear l2
            have e2 := bkeep L2.out c2; have e3 := bkeep L2.out c3; have e1 := bkeep L2.out c1; have e0 := bkeep L2.out c0
            go_wp2_with fail
            refine (HAC.out w2 L2.out).mono ?_; rintro e w3 ⟨rfl, m2, o2⟩
            have O2 := Lib.hid (o2.mono (T := fun k => k = p ∨ k = q) fun k _ e => .inr e)
            clear m2 o2
            go_wp2_with fail
            refine (need_no _).mono ?_; rintro e w' ⟨rfl, rfl⟩; go_wp2_with fail; exact ⟨rfl, TakePost.no HFN.out ((btrans LB.out hB L2.out).trans (O2.out.lo HP.out (Nat.le_trans hBW L2.out.size)))⟩
      have q5 : (xk == 5) = false := by simpa using h5
      by_cases h6 : xk = 6
      · subst h6
        cases hbr : bareE ⟨6, xa, xt, xv⟩ with
        | false =>
          have HBR := Lib.hid hbr
          have HF := Lib.hid (fun (w' : World) (l : Below W.heap.size W w') => TakePost.no (B := B) (b := b) (n := n) (M := M) (x := ⟨6, xa, xt, xv⟩) (w := w) (w' := w') (by rw [show M (Ev.a ⟨6, xa, xt, xv⟩) = _ from hM]; simp [stepA, ha0, ha1, hbr]) (btrans LB.out hB l))
          clear hM he hat hp hq hk h8 h9 h2 h3 hbr
          go_enter Tryz.func53, Tryz.ntmps53; go_wp2_with fail; rw [HWD.out]; refine (need_yes _).mono ?_; rintro e w' ⟨rfl, rfl⟩; go_wp2_with fail
          refine (need_yes _).mono ?_; rintro e w' ⟨rfl, rfl⟩; go_wp2_with fail
          refine (need_yes _).mono ?_; rintro e w' ⟨rfl, rfl⟩; go_wp2_with fail
          refine (bare_f _ ⟨6, xa, xt, xv⟩ HBR.out).mono ?_; rintro e w2 ⟨rfl, l2⟩; have L2 := Lib.hid l2; clear l2
          go_wp2_with fail
          refine (need_no _).mono ?_; rintro e w' ⟨rfl, rfl⟩; go_wp2_with fail; exact ⟨rfl, HF.out _ L2.out⟩
        | true =>
          have HBR := Lib.hid hbr
          by_cases hn0 : actN fs ⟨6, xa, xt, xv⟩ = 0
          · have hac2 := Lib.hid (fun (w2 : World) (l : Below W.heap.size W w2) => hact_n w2 p q _ ⟨6, xa, xt, xv⟩ 0 (hat.below l) HV.out hn0)
            have HY := Lib.hid (show stepA (M (Ev.a ⟨6, xa, xt, xv⟩)) ⟨6, xa, xt, xv⟩ = some ⟨actS fs ⟨6, xa, xt, xv⟩, false, false⟩ from by rw [show M (Ev.a ⟨6, xa, xt, xv⟩) = _ from hM]; simp [stepA, ha0, ha1, hbr, hn0])
            have HAC := hac2
            clear hM he hat hp hq hk h8 h9 h2 h3 hbr
            clear hac2 hn0
            go_enter Tryz.func53, Tryz.ntmps53; go_wp2_with fail; rw [HWD.out]; refine (need_yes _).mono ?_; rintro e w' ⟨rfl, rfl⟩; go_wp2_with fail
            refine (need_yes _).mono ?_; rintro e w' ⟨rfl, rfl⟩; go_wp2_with fail
            refine (need_yes _).mono ?_; rintro e w' ⟨rfl, rfl⟩; go_wp2_with fail
            refine (bare_t _ ⟨6, xa, xt, xv⟩ HBR.out).mono ?_; rintro e w2 ⟨rfl, l2⟩; have L2 := Lib.hid l2; clear l2
            have e2 := bkeep L2.out c2; have e3 := bkeep L2.out c3; have e1 := bkeep L2.out c1; have e0 := bkeep L2.out c0
            go_wp2_with fail
            refine (HAC.out w2 L2.out).mono ?_; rintro e w3 ⟨rfl, m2, o2⟩
            have M2 := Lib.hid m2; have O2 := Lib.hid (o2.mono (T := fun k => k = p ∨ k = q) fun k _ e => .inr e)
            clear m2 o2
            go_wp2_with fail
            refine (need_yes _).mono ?_; rintro e w' ⟨rfl, rfl⟩; go_wp2_with fail
            (first | exact bodyPost_end (results_none rfl _ _ _) rfl (TakePost.yes HY.out ((btrans LB.out hB L2.out).trans (O2.out.lo HP.out (Nat.le_trans hBW L2.out.size))) (((HW.out.below L2.out).turn HM.out HE.out O2.out M2.out).mono (by omega))) | exact bodyPost_ret (results_none rfl _ _ _) rfl (TakePost.yes HY.out ((btrans LB.out hB L2.out).trans (O2.out.lo HP.out (Nat.le_trans hBW L2.out.size))) (((HW.out.below L2.out).turn HM.out HE.out O2.out M2.out).mono (by omega))))
          · obtain ⟨m, hm⟩ : ∃ m, actN fs ⟨6, xa, xt, xv⟩ = m := ⟨_, rfl⟩
            have hac2 := Lib.hid (fun (w2 : World) (l : Below W.heap.size W w2) => hact_n w2 p q _ ⟨6, xa, xt, xv⟩ m (hat.below l) HV.out hm)
            have hfn : stepA (M xa) ⟨6, xa, xt, xv⟩ = none := by rw [hM]; simp [stepA, hn0]
            rw [hm] at hn0
            have hm0 : (m == 0) = false := by simpa using hn0
            have HAC := hac2; have HFN := Lib.hid hfn
            clear hM he hat hp hq hk h8 h9 h2 h3 hbr
            clear hac2 hn0 hm hfn
            go_enter Tryz.func53, Tryz.ntmps53; go_wp2_with fail; rw [HWD.out]; refine (need_yes _).mono ?_; rintro e w' ⟨rfl, rfl⟩; go_wp2_with fail
            refine (need_yes _).mono ?_; rintro e w' ⟨rfl, rfl⟩; go_wp2_with fail
            refine (need_yes _).mono ?_; rintro e w' ⟨rfl, rfl⟩; go_wp2_with fail
            refine (bare_t _ ⟨6, xa, xt, xv⟩ HBR.out).mono ?_; rintro e w2 ⟨rfl, l2⟩; have L2 := Lib.hid l2; clear l2
            have e2 := bkeep L2.out c2; have e3 := bkeep L2.out c3; have e1 := bkeep L2.out c1; have e0 := bkeep L2.out c0
            go_wp2_with fail
            refine (HAC.out w2 L2.out).mono ?_; rintro e w3 ⟨rfl, m2, o2⟩
            have O2 := Lib.hid (o2.mono (T := fun k => k = p ∨ k = q) fun k _ e => .inr e)
            clear m2 o2
            go_wp2_with fail
            refine (need_no _).mono ?_; rintro e w' ⟨rfl, rfl⟩; go_wp2_with fail; exact ⟨rfl, TakePost.no HFN.out ((btrans LB.out hB L2.out).trans (O2.out.lo HP.out (Nat.le_trans hBW L2.out.size)))⟩
      have q6 : (xk == 6) = false := by simpa using h6
      by_cases h7 : xk = 7
      · subst h7
        cases hbr : bareE ⟨7, xa, xt, xv⟩ with
        | false =>
          have HBR := Lib.hid hbr
          have HF := Lib.hid (fun (w' : World) (l : Below W.heap.size W w') => TakePost.no (B := B) (b := b) (n := n) (M := M) (x := ⟨7, xa, xt, xv⟩) (w := w) (w' := w') (by rw [show M (Ev.a ⟨7, xa, xt, xv⟩) = _ from hM]; simp [stepA, ha0, ha1, hbr]) (btrans LB.out hB l))
          clear hM he hat hp hq hk h8 h9 h2 h3 hbr
          go_enter Tryz.func53, Tryz.ntmps53; go_wp2_with fail; rw [HWD.out]; refine (need_yes _).mono ?_; rintro e w' ⟨rfl, rfl⟩; go_wp2_with fail
          refine (need_yes _).mono ?_; rintro e w' ⟨rfl, rfl⟩; go_wp2_with fail
          refine (need_yes _).mono ?_; rintro e w' ⟨rfl, rfl⟩; go_wp2_with fail
          refine (bare_f _ ⟨7, xa, xt, xv⟩ HBR.out).mono ?_; rintro e w2 ⟨rfl, l2⟩; have L2 := Lib.hid l2; clear l2
          go_wp2_with fail
          refine (need_no _).mono ?_; rintro e w' ⟨rfl, rfl⟩; go_wp2_with fail; exact ⟨rfl, HF.out _ L2.out⟩
        | true =>
          have HBR := Lib.hid hbr
          have HDP := Lib.hid (fun (w2 : World) (l : Below W.heap.size W w2) => depth_p ((hat.below l).log))
          by_cases hn0 : fs.length = 1
          · have HY := Lib.hid (show stepA (M (Ev.a ⟨7, xa, xt, xv⟩)) ⟨7, xa, xt, xv⟩ = some ⟨fs, true, false⟩ from by rw [show M (Ev.a ⟨7, xa, xt, xv⟩) = _ from hM]; simp [stepA, ha0, ha1, hbr, hn0])
            have HFL := Lib.hid hn0
            clear hM he hp hq hk h8 h9 h2 h3 hbr
            clear hn0
            go_enter Tryz.func53, Tryz.ntmps53; go_wp2_with fail; rw [HWD.out]; refine (need_yes _).mono ?_; rintro e w' ⟨rfl, rfl⟩; go_wp2_with fail
            refine (need_yes _).mono ?_; rintro e w' ⟨rfl, rfl⟩; go_wp2_with fail
            refine (need_yes _).mono ?_; rintro e w' ⟨rfl, rfl⟩; go_wp2_with fail
            refine (bare_t _ ⟨7, xa, xt, xv⟩ HBR.out).mono ?_; rintro e w2 ⟨rfl, l2⟩; have L2 := Lib.hid l2; clear l2
            have e2 := bkeep L2.out c2; have e3 := bkeep L2.out c3; have r0 := bkeep L2.out p0; have r1 := bkeep L2.out p1; have r2 := bkeep L2.out p2; have hat2 := hat.below L2.out; have f1 := blk_free hat2.blk 1; have f2 := blk_free hat2.blk 2; have HAT2 := Lib.hid hat2; clear hat2
            go_wp2_with fail
            refine (HDP.out w2 L2.out).mono ?_; rintro e w3 ⟨rfl, rfl⟩
            dsimp only
            rw [HFL.out]
            go_wp2_with fail
            refine (need_yes _).mono ?_; rintro e w' ⟨rfl, rfl⟩; go_wp2_with fail
            obtain ⟨k1, k2⟩ := HAT2.out.put 1 (.bool true) (t := true) (e := false) rfl
            (first | exact bodyPost_end (results_none rfl _ _ _) rfl (TakePost.yes HY.out ((btrans LB.out hB L2.out).trans (k2.lo HP.out (Nat.le_trans hBW L2.out.size))) (((HW.out.below L2.out).turn HM.out HE.out k2 k1).mono (by omega))) | exact bodyPost_ret (results_none rfl _ _ _) rfl (TakePost.yes HY.out ((btrans LB.out hB L2.out).trans (k2.lo HP.out (Nat.le_trans hBW L2.out.size))) (((HW.out.below L2.out).turn HM.out HE.out k2 k1).mono (by omega))))
          · have HF := Lib.hid (fun (w' : World) (l : Below W.heap.size W w') => TakePost.no (B := B) (b := b) (n := n) (M := M) (x := ⟨7, xa, xt, xv⟩) (w := w) (w' := w') (by rw [show M (Ev.a ⟨7, xa, xt, xv⟩) = _ from hM]; simp [stepA, ha0, ha1, hbr, hn0]) (btrans LB.out hB l))
            obtain ⟨m, hm⟩ : ∃ m : Int, (fs.length : Int) - 1 = m := ⟨_, rfl⟩
            have hm0 : (m == 0) = false := by have : ¬ m = 0 := by omega
                                              simpa using this
            have HFL := Lib.hid hm
            clear hM he hat hp hq hk h8 h9 h2 h3 hbr
            clear hn0 hm
            go_enter Tryz.func53, Tryz.ntmps53; go_wp2_with fail; rw [HWD.out]; refine (need_yes _).mono ?_; rintro e w' ⟨rfl, rfl⟩; go_wp2_with fail
            refine (need_yes _).mono ?_; rintro e w' ⟨rfl, rfl⟩; go_wp2_with fail
            refine (need_yes _).mono ?_; rintro e w' ⟨rfl, rfl⟩; go_wp2_with fail
            refine (bare_t _ ⟨7, xa, xt, xv⟩ HBR.out).mono ?_; rintro e w2 ⟨rfl, l2⟩; have L2 := Lib.hid l2; clear l2
            have r0 := bkeep L2.out p0
            have e0 := bkeep L2.out c0
            go_wp2_with fail
            refine (HDP.out w2 L2.out).mono ?_; rintro e w3 ⟨rfl, rfl⟩
            dsimp only
            rw [HFL.out]
            go_wp2_with fail
            refine (need_no _).mono ?_; rintro e w' ⟨rfl, rfl⟩; go_wp2_with fail; exact ⟨rfl, HF.out _ L2.out⟩
      have q7 : (xk == 7) = false := by simpa using h7
      have HF := Lib.hid (TakePost.no (B := B) (b := b) (n := n) (M := M) (x := ⟨xk, xa, xt, xv⟩) (w := w) (w' := W) (by rw [show M (Ev.a ⟨xk, xa, xt, xv⟩) = _ from hM]; simp [stepA, ha0, ha1, hk, h8, h9, h2, h3, h4, h5, h6, h7]) LB.out)
      clear hM he hat hp hq hk h8 h9 h2 h3 h4 h5 h6 h7
      go_enter Tryz.func53, Tryz.ntmps53; go_wp2_with fail; rw [HWD.out]; refine (need_yes _).mono ?_; rintro e w' ⟨rfl, rfl⟩; go_wp2_with fail
      refine (need_yes _).mono ?_; rintro e w' ⟨rfl, rfl⟩; go_wp2_with fail
      refine (need_yes _).mono ?_; rintro e w' ⟨rfl, rfl⟩; go_wp2_with fail
      refine (need_no _).mono ?_; rintro e w' ⟨rfl, rfl⟩; go_wp2_with fail; exact ⟨rfl, HF.out⟩
end Go.Proofs.YtganmdbhmihjpaaGreat.His
/- The real side: Right, which gives up by a panic and recovers. -/
namespace Go.Proofs.YtganmdbhmihjpaaGreat.His
open Go.RowKit Go.Proofs.YtganmdbhmihjpaaGreat.Wri
set_option linter.unusedSimpArgs false
set_option linter.unusedVariables false
set_option maxRecDepth 50000

theorem rd_idle (p : Addr) (w : World) :
    CallsD Tryz.prog 52 #[.pointer (some p)] .returning w fun e u' w' => e = .returned (.tuple #[]) ∧ u' = .returning ∧ w' = w := by
  refine callsD_of_wpS Tryz.func52 rfl fun c₀ cs hu => ?_
  apply wpS_seq
  apply wpS_region
  simp [wpOpsS, go_sem, recoverD, hu, Tryz.ntmps52, Exit.thenS]
  refine wpS_of_wp ?_
  go_wp2
  cases c₀
  simp_all [bodyPostS, results, Tryz.results52]
theorem as_wrong (v : Value) (w : World) : (Instr.typeAssert (.iface 84 v) 20 84 true).run Tryz.prog w = .ok (.tuple #[v, .bool true]) w := by kernel_rfl
set_option maxHeartbeats 1600000 in
theorem rd_panic (p : Nat) (w : World) (b : Bool) (hb : w.heap[p]? = some (.cells #[.bool b] 4 (0, 0))) :
    CallsD Tryz.prog 52 #[ptr p] (.panicking wrongP) w fun e u' w' =>
      e = .returned (.tuple #[]) ∧ u' = .panicking [{ v := .iface 84 (.agg #[]), recovered := true }] ∧ w'.heap[p]? = some (.cells #[.bool false] 4 (0, 0)) ∧ Only (fun k => k = p) w w' := by
  have hta := as_wrong
  have lW : Below w.heap.size w (w.alloc (.cells #[] 84)) := by repeat (first | (with_reducible exact Below.refl _ _) | (with_reducible apply Below.drew) | (with_reducible refine below_drewN ?_ _) | (with_reducible refine below_alloc' ?_ ?_ _; (focus ((try simp) <;> omega))) | (with_reducible refine below_set' ?_ ?_ _; (focus ((try simp) <;> omega))))
  have hbW := bblk lW hb
  have hz := blk_free hbW 0
  have hc := blk_cell hbW 0
  simp only [List.getElem?_toArray, List.getElem?_cons_zero] at hc
  have hE : (w.alloc (.cells #[] 84)).setCell ⟨p, 0, none⟩ (.bool false) = (w.alloc (.cells #[] 84)).setCell ⟨p, 0, none⟩ (.bool false) := rfl
  have hfin : ((w.alloc (.cells #[] 84)).setCell ⟨p, 0, none⟩ (.bool false)).heap[p]? = some (.cells #[.bool false] 4 (0, 0)) ∧ Only (fun k => k = p) w ((w.alloc (.cells #[] 84)).setCell ⟨p, 0, none⟩ (.bool false)) :=
    ⟨blk_set hbW 0 (.bool false), ((Only.refl (fun k => k = p) w).alloc _).setCell (p := ⟨p, 0, none⟩) (.inr rfl) _⟩
  have HF := Lib.hid hfin
  clear hfin hE
  refine callsD_of_wpS Tryz.func52 rfl fun c₀ cs hu => ?_
  apply wpS_seq
  apply wpS_region
  simp [wpOpsS, go_sem, recoverD, hu, Tryz.ntmps52, Exit.thenS]
  simp only [Array.replicate, List.replicate, List.setIfInBounds_toArray, List.set_cons_succ, List.set_cons_zero, List.append_toArray, List.cons_append, List.nil_append]
  refine wpS_of_wp ?_
  go_wp2
  refine ⟨rfl, _, rfl, _, results_none rfl _ _ _, rfl, rfl, ?_⟩
  exact HF.out
def EvsOk (l : List Ev) : Prop := ∀ x ∈ l, inInt x.a ∧ 0 ≤ x.v ∧ x.v < 18446744073709551616
theorem updA_st {l : List Ev} {k : Nat} {x : Ev} {a : Att} (hx : l[k]? = some x) (hg : Good (l.take k)) (hs : stepA (stA (l.take k) x.a) x = some a) : updA (stA (l.take k)) x.a a = stA (l.take (k + 1)) ∧ Good (l.take (k + 1)) := by
  have h1 : (stepA (stA (l.take k) x.a) x).isSome = true := by rw [hs]; rfl
  rw [take_at hx]
  refine ⟨?_, good_snoc hg h1⟩
  funext n
  rw [stA_step hg h1]
  unfold updA
  rw [hs]
theorem good_no {l : List Ev} {k : Nat} {x : Ev} (hx : l[k]? = some x) (hs : stepA (stA (l.take k) x.a) x = none) : goodL l = false := by
  cases h : goodL l with
  | false => rfl
  | true =>
    have := (goodL_iff l).1 h k x hx
    rw [hs] at this
    cases this
set_option maxHeartbeats 3200000 in
theorem right_any (w : World) (p : Option Addr) (n c : Nat) (l : List Ev) (h : EvsIn w p n l) (hok : EvsOk l) (hn : n ≤ 400) :
    Calls Tryz.prog 31 #[.slice p n c] w fun e w' => e = .returned (.bool (goodL l)) ∧ Below w.heap.size w w' := by
  have H := Lib.hid h; have HL := Lib.hid h.1; have HOK := Lib.hid hok
  have hmf : ∀ (fn : Fn) (first cap : Array Value) (w : World), (Instr.makeFunc fn first cap).run Tryz.prog w = .ok (.func fn first cap) w := fun _ _ _ _ => rfl
  have d4 : decide ((400 : Int) < n) = false := by simp; omega
  obtain ⟨r, hr⟩ : ∃ r, goodL l = r := ⟨_, rfl⟩
  have HR := Lib.hid hr
  rw [hr]
  have hmm := @run_makeMap Tryz.prog
  have HB0 := Lib.hid (show ((w.alloc (.cells #[.bool false] 4)).alloc (.map #[] 0)).heap[w.heap.size]? = some (.cells #[.bool false] 4 (0, 0)) ∧ Below w.heap.size w ((w.alloc (.cells #[.bool false] 4)).alloc (.map #[] 0)) ∧ Ents (w.heap.size + 1) ((w.alloc (.cells #[.bool false] 4)).alloc (.map #[] 0)) (w.heap.size + 1) 0 (stA []) from by
    refine ⟨by simp [↓heap_alloc_eq, ↓heap_set_eq, ↓heap_drew_eq, ↓heap_drewN_eq, setObj, size_drewN], by repeat (first | (with_reducible exact Below.refl _ _) | (with_reducible apply Below.drew) | (with_reducible refine below_drewN ?_ _) | (with_reducible refine below_alloc' ?_ ?_ _; (focus ((try simp) <;> omega))) | (with_reducible refine below_set' ?_ ?_ _; (focus ((try simp) <;> omega)))), fun _ => none, ?_, fun t => rfl, fun t e a h => (by cases h), fun t s e f h => (by cases h), Nat.le_refl _⟩
    have := MapIs.made Tryz.prog 3 (w.alloc (.cells #[.bool false] 4))
    rw [show (w.alloc (.cells #[.bool false] 4)).heap.size = w.heap.size + 1 by simp] at this
    exact this)
  clear h hok hr
  go_enter_defers Tryz.func31, Tryz.ntmps31
  go_wp2_with fail
  go_loopw [13] (fun i wr => ∃ k : Nat, i = .int .i64 k ∧ k ≤ n ∧ wr.heap[w.heap.size]? = some (.cells #[.bool false] 4 (0, 0)) ∧ Below w.heap.size w wr ∧ Ents (w.heap.size + 1) wr (w.heap.size + 1) k (stA (l.take k)) ∧ Good (l.take k)) (fun i _ => n - (intOf i).toNat)
  case atStart => exact ⟨0, rfl, Nat.zero_le _, HB0.out.1, HB0.out.2.1, HB0.out.2.2, fun i x h => by simp at h⟩
  case round =>
    obtain ⟨k, rfl, hk, hb, hB, hE, hG⟩ := hrel
    have HBK := Lib.hid hb; have HB := Lib.hid hB; have HE := Lib.hid hE; have HG := Lib.hid hG
    have hsz := blk_lt hb
    clear hB hE hG hb
    by_cases hlt : k < n
    · obtain ⟨g, off, rfl, hc⟩ := H.out.2.resolve_left (by omega)
      obtain ⟨x, hx, c0, c1, c2, c3⟩ := hc k hlt
      replace c0 := bkeep HB.out c0; replace c1 := bkeep HB.out c1; replace c2 := bkeep HB.out c2; replace c3 := bkeep HB.out c3
      have hw1 : IntKind.i64.wrap ((k : Int) + 1) = (k : Int) + 1 := by rw [IntKind.wrap_i64]; omega
      have hxo := HOK.out x (List.mem_of_getElem? hx)
      obtain ⟨xk, xa, xt, xv⟩ := x
      simp only at c0 c1 c2 c3 hxo
      have HX := Lib.hid hx; have HXO := Lib.hid hxo
      clear hc hx hxo
      have lX : Below wr.heap.size wr (wr.alloc (.cells #[.int .u8 xk, .int .i64 xa, .int .i64 xt, .int .u64 xv] 60)) := by repeat (first | (with_reducible exact Below.refl _ _) | (with_reducible apply Below.drew) | (with_reducible refine below_drewN ?_ _) | (with_reducible refine below_alloc' ?_ ?_ _; (focus ((try simp) <;> omega))) | (with_reducible refine below_set' ?_ ?_ _; (focus ((try simp) <;> omega))))
      have hTK := take_any (w.heap.size + 1) (w.heap.size + 1) k (stA (l.take k)) ⟨xk, xa, xt, xv⟩ _ (HE.out.below lX) (by have := lX.size; omega) (by omega) HXO.out.1 HXO.out.2
      have HLX := Lib.hid (btrans HB.out (Nat.le_refl _) lX)
      have HBX := Lib.hid (bblk lX HBK.out)
      have HTK := Lib.hid hTK
      clear hTK lX
      cases hs : stepA (stA (l.take k) xa) ⟨xk, xa, xt, xv⟩ with
      | some a =>
        obtain ⟨u1, u2⟩ := updA_st HX.out HG.out hs
        have HTK2 := Lib.hid (HTK.out.mono (R' := fun e w' => e = .returned (.tuple #[]) ∧ Below (w.heap.size + 1) (wr.alloc (.cells #[.int .u8 xk, .int .i64 xa, .int .i64 xt, .int .u64 xv] 60)) w' ∧ Ents (w.heap.size + 1) w' (w.heap.size + 1) (k + 1) (stA (l.take (k + 1)))) (fun e w' hp => by
          obtain ⟨h1, h2⟩ := hp
          rw [show stA (l.take k) (Ev.a ⟨xk, xa, xt, xv⟩) = stA (l.take k) xa from rfl, hs] at h2
          rw [← u1]
          exact ⟨h2.1, h1, h2.2⟩))
        have HG2 := Lib.hid u2
        clear u1 u2 hs HTK
        go_wp2_with fail
        refine HTK2.out.mono ?_
        rintro e w5 ⟨rfl, l5, e5⟩
        have HB5 := Lib.hid (HLX.out.trans (l5.mono (Nat.le_succ _)))
        have HK5 := Lib.hid ((l5.block w.heap.size (Nat.lt_succ_self _)).trans HBX.out)
        have HE5 := Lib.hid e5
        clear l5 e5
        go_wp2_with fail
        exact ⟨⟨k + 1, by go_num, by omega, HK5.out, HB5.out, HE5.out, HG2.out⟩, by simp [intOf]; omega⟩
      | none =>
        have HT := Lib.hid (show r = false by rw [← HR.out]; exact good_no HX.out hs)
        have HTK2 := Lib.hid (HTK.out.mono (R' := fun e w' => e = .panicked wrongP ∧ Below (w.heap.size + 1) (wr.alloc (.cells #[.int .u8 xk, .int .i64 xa, .int .i64 xt, .int .u64 xv] 60)) w') (fun e w' hp => by
          obtain ⟨h1, h2⟩ := hp
          rw [show stA (l.take k) (Ev.a ⟨xk, xa, xt, xv⟩) = stA (l.take k) xa from rfl, hs] at h2
          exact ⟨h2, h1⟩))
        clear hs HTK
        go_wp2_with fail
        refine HTK2.out.mono ?_
        rintro e w5 ⟨rfl, l5⟩
        have HB5 := Lib.hid (HLX.out.trans (l5.mono (Nat.le_succ _)))
        have HK5 := Lib.hid ((l5.block w.heap.size (Nat.lt_succ_self _)).trans HBX.out)
        clear l5
        go_wp2_with fail
        refine leaves_cons (f := 52) (args := #[.pointer (some ⟨w.heap.size, 0, none⟩)]) (by simp) (by simp [go_sem]) ?_
        refine (rd_panic _ _ false HK5.out).mono ?_
        rintro e u' w6 ⟨rfl, rfl, h6, o6⟩
        have c6 := blk_cell h6 0
        simp only [List.getElem?_toArray, List.getElem?_cons_zero] at c6
        have HF := Lib.hid (show Below w.heap.size w w6 from HB5.out.trans (o6.lo (fun k e => by omega) HB5.out.size))
        clear o6 h6
        simp [Leaves, settle, results, Tryz.results31, go_sem, c6]
        exact ⟨HT.out, HF.out⟩
    · obtain rfl : k = n := by omega
      have hg := HG.out
      rw [List.take_of_length_le (by rw [HL.out]; exact Nat.le_refl _)] at hg
      have HT := Lib.hid (show r = true by rw [← HR.out]; exact (goodL_iff l).2 hg)
      have c5 := blk_cell HBK.out 0; have f5 := blk_free HBK.out 0
      simp only [List.getElem?_toArray, List.getElem?_cons_zero] at c5
      clear hg
      go_wp2_with fail
      refine leaves_cons (f := 52) (args := #[.pointer (some ⟨w.heap.size, 0, none⟩)]) (by simp) (by simp [go_sem]) ?_
      refine (rd_idle _ _).mono ?_
      rintro e u' w6 ⟨rfl, rfl, rfl⟩
      have h6 := blk_set HBK.out 0 (.bool true)
      have c6 := blk_cell h6 0
      have c7 : (wr.setCell ⟨w.heap.size, 0, none⟩ (.bool true)).cell? ⟨w.heap.size, 0, none⟩ = some (.bool true) := c6
      have HF := Lib.hid (show Below w.heap.size w (wr.setCell ⟨w.heap.size, 0, none⟩ (.bool true)) from HB.out.trans (((Only.refl (fun k => k = w.heap.size) wr).setCell (p := ⟨w.heap.size, 0, none⟩) (.inr rfl) _).lo (fun k e => by omega) HB.out.size))
      clear c6 h6
      simp [Leaves, settle, results, Tryz.results31, go_sem, c7]
      exact ⟨HT.out, HF.out⟩
end Go.Proofs.YtganmdbhmihjpaaGreat.His
/- The real side: play, for whatever function it tells. -/
namespace Go.Proofs.YtganmdbhmihjpaaGreat.His
open Go.RowKit Go.Proofs.YtganmdbhmihjpaaGreat.Wri
set_option linter.unusedSimpArgs false
set_option linter.unusedVariables false
set_option maxRecDepth 50000

def ownS (p : List Ev) : List Frm := p.foldl actS [[]]
theorem ownS_snoc (p : List Ev) (x : Ev) : ownS (p ++ [x]) = actS (ownS p) x := by simp [ownS]
theorem ownS_cut (l : List Ev) (n : Int) : ownS (cutL l n) = ownL l n := rfl
/-- what a told function does: I says what it has come to behind a beginning of the events; S are the blocks that it changes -/
structure Told (w : World) (f : FuncId) (cap : Array Value) (S : Nat → Prop) (I : List Ev → World → Prop) (L : List Ev) : Prop where
  ini : I [] w
  fn : ∀ args W, (callFunc f args).run Tryz.prog W = .ok (.enter f args) W
  lo : ∀ k, S k → k < w.heap.size
  odd : ∀ p W, I p W → Strange W S
  below : ∀ p W W', I p W → Below W.heap.size W W' → I p W'
  turn : ∀ p W W' q, I p W → Only (fun k => k = q) W W' → (∃ cs, W.heap[q]? = some (.cells cs 123 (0, 0))) → w.heap.size ≤ q → I p W'
  skip : ∀ p x W, I p W → x.k ≠ 2 → I (p ++ [x]) W
  call : ∀ p x W, I p W → x.k = 2 → (∃ r, p ++ x :: r = L) → w.heap.size ≤ W.heap.size → Calls Tryz.prog f (#[evV x, .int .u64 ((getL (ownS p) x.t).getD 0), .bool (getL (ownS p) x.t).isSome] ++ cap) W fun e W' => e = .returned (.tuple #[]) ∧ I (p ++ [x]) W' ∧ Only S W W'
theorem lget_p {w : World} {q : Nat} {fs : List Frm} (h : LAt w q fs) (t : Int) : Calls Tryz.prog 79 #[ptr q, .int .i64 t] w fun e w' => e = .returned (.tuple #[.int .u64 ((getL fs t).getD 0), .bool (getL fs t).isSome]) ∧ Below w.heap.size w w' := by
  obtain ⟨xs, rfl, hl⟩ := h
  have := lget_any w q xs hl t
  rw [getS_eq] at this
  exact this
theorem EvsAt.in' {B : Nat} {w : World} {a : Option Addr} {n c : Nat} {L : List Ev} (h : EvsAt B w (.slice a n c) L) : EvsIn w a n L := by
  obtain ⟨a', c', e, hi⟩ := EvsAt.open h
  injection e with e1 e2 e3
  subst e1 e2
  exact hi
theorem take_eq {L : List Ev} {k : Nat} {x : Ev} (h : L[k]? = some x) : ∃ r, L.take k ++ x :: r = L := ⟨L.drop (k + 1), by rw [← drop_at h, List.take_append_drop]⟩
def PlayPost (w : World) (S : Nat → Prop) (I : List Ev → World → Prop) (l : List Ev) (t : Int) (e : Ending) (w' : World) : Prop :=
  ∃ q, e = .returned (ptr q) ∧ LAt w' q (ownL l t) ∧ I (cutL l t) w' ∧ Only S w w'
set_option maxHeartbeats 3200000 in
theorem play_any (w : World) (a : Option Addr) (n c : Nat) (l : List Ev) (h : EvsIn w a n l) (hok : ∀ x ∈ l, 0 ≤ x.v ∧ x.v < 18446744073709551616) (hn : n ≤ 1000000) (t : Int) (f : FuncId) (cap : Array Value) (S : Nat → Prop) (I : List Ev → World → Prop) (hT : Told w f cap S I (cutL l t)) :
    Calls Tryz.prog 57 #[.slice a n c, .int .i64 t, .func (.func f) #[] cap] w (PlayPost w S I l t) := by
  have H := Lib.hid h; have HT := Lib.hid hT; have HOK := Lib.hid (show ∀ x ∈ cutL l t, 0 ≤ x.v ∧ x.v < 18446744073709551616 from fun x hx => hok x (List.mem_filter.1 hx).1)
  have hLn : (cutL l t).length ≤ n := by
    have := cutL_len l t n
    rw [← h.1] at this ⊢
    rwa [List.take_length] at this
  unfold PlayPost
  rw [← ownS_cut]
  obtain ⟨L, hL⟩ : ∃ L, cutL l t = L := ⟨_, rfl⟩
  have HC := Lib.hid (fun w1 (l1 : Below w.heap.size w w1) => cut_any w1 a n c l (h.below l1) hn t)
  rw [hL] at HT HOK HC hLn ⊢
  clear h hT hok hL
  go_enter Tryz.func57, Tryz.ntmps57
  go_wp2_with fail
  refine (new_any _).mono ?_
  rintro e w1 ⟨q, rfl, hq, hl1, l1⟩
  have HL1 := Lib.hid hl1; have L1 := Lib.hid l1
  have hs1 := l1.size
  clear hl1 l1
  go_wp2_with fail
  obtain ⟨W2, hW2⟩ : ∃ W2, w1.alloc (.cells #[ptr q, .bool false, .bool false] 109) = W2 := ⟨_, rfl⟩
  have l12 : Below w1.heap.size w1 W2 := by rw [← hW2]; repeat (first | (with_reducible exact Below.refl _ _) | (with_reducible apply Below.drew) | (with_reducible refine below_drewN ?_ _) | (with_reducible refine below_alloc' ?_ ?_ _; (focus ((try simp) <;> omega))) | (with_reducible refine below_set' ?_ ?_ _; (focus ((try simp) <;> omega))))
  have hb2 : W2.heap[w1.heap.size]? = some (.cells #[ptr q, .bool false, .bool false] 109 (0, 0)) := by rw [← hW2]; simp [↓heap_alloc_eq, ↓heap_set_eq, ↓heap_drew_eq, ↓heap_drewN_eq, setObj, size_drewN]
  have hat2 : AttAt W2 w1.heap.size q ⟨[[]], false, false⟩ := ⟨hb2, LAt.below ⟨_, rfl, HL1.out⟩ l12, WellS.one⟩
  have l2 : Below w.heap.size w W2 := btrans L1.out (Nat.le_refl _) l12
  have HC2 := Lib.hid (HC.out _ l2)
  rw [hW2]
  clear hb2 hW2
  obtain ⟨p, hp⟩ : ∃ p, w1.heap.size = p := ⟨_, rfl⟩
  have hpw : w.heap.size ≤ p := by omega
  rw [hp] at hat2 ⊢
  have HAT2 := Lib.hid hat2; have L2 := Lib.hid l2
  clear hat2 l2 l12 hp
  refine HC2.out.mono ?_
  rintro e w3 ⟨v, rfl, hv, l3⟩
  obtain ⟨va, vc, rfl, hvi⟩ := EvsAt.open hv
  obtain ⟨m, hm⟩ : ∃ m, L.length = m := ⟨_, rfl⟩
  have HM := Lib.hid hm
  have hvb := ownsRow_base hv (base' := w.heap.size) (fun k hk => Nat.le_trans L2.out.size (hv.lt k hk).1)
  unfold EvsAt at hvb
  rw [hm] at hvb hLn ⊢
  have HV3 := Lib.hid (show EvsAt w.heap.size w3 (.slice va m vc) L by unfold EvsAt; rw [HM.out]; exact hvb)
  have HAT3 := Lib.hid (HAT2.out.below l3)
  have L3 := Lib.hid (btrans L2.out (Nat.le_refl _) l3)
  clear hv hvi hvb l3 hm HC HC2 HL1 L1
  go_wp2_with fail
  go_loopw [19] (fun i wr => ∃ k : Nat, i = .int .i64 k ∧ k ≤ m ∧ AttAt wr p q ⟨ownS (L.take k), false, false⟩ ∧ EvsAt w.heap.size wr (.slice va m vc) L ∧ I (L.take k) wr ∧ Only S w wr ∧ w.heap.size ≤ wr.heap.size) (fun i _ => m - (intOf i).toNat)
  case atStart => exact ⟨0, rfl, Nat.zero_le _, HAT3.out, HV3.out, by rw [List.take_zero]; exact HT.out.below _ _ _ HT.out.ini L3.out, Only.of_below L3.out (fun k hk h => absurd hk (Nat.not_lt.2 h)), L3.out.size⟩
  case round =>
    obtain ⟨k, rfl, hk, hat, hV, hI, hO, hsz⟩ := hrel
    by_cases hlt : k < m
    · obtain ⟨g, off, rfl, hc⟩ := (EvsAt.in' hV).2.resolve_left (by omega)
      obtain ⟨x, hx, c0, c1, c2, c3⟩ := hc k hlt
      have hw1 : IntKind.i64.wrap ((k : Int) + 1) = (k : Int) + 1 := by rw [IntKind.wrap_i64]; omega
      obtain ⟨xk, xa, xt, xv⟩ := x
      simp only at c0 c1 c2 c3
      obtain ⟨W, hW⟩ : ∃ W, wr.alloc (.cells #[.int .u8 xk, .int .i64 xa, .int .i64 xt, .int .u64 xv] 60) = W := ⟨_, rfl⟩
      have lX : Below wr.heap.size wr W := by rw [← hW]; repeat (first | (with_reducible exact Below.refl _ _) | (with_reducible apply Below.drew) | (with_reducible refine below_drewN ?_ _) | (with_reducible refine below_alloc' ?_ ?_ _; (focus ((try simp) <;> omega))) | (with_reducible refine below_set' ?_ ?_ _; (focus ((try simp) <;> omega))))
      have hbX : W.heap[wr.heap.size]? = some (.cells #[.int .u8 xk, .int .i64 xa, .int .i64 xt, .int .u64 xv] 60 (0, 0)) := by rw [← hW]; simp [↓heap_alloc_eq, ↓heap_set_eq, ↓heap_drew_eq, ↓heap_drewN_eq, setObj, size_drewN]
      have HX := Lib.hid hx; have HWD := Lib.hid hW; have HBX := Lib.hid hbX
      have HAT := Lib.hid (hat.below lX)
      have HV := Lib.hid (show EvsAt w.heap.size W _ L from ownsRow_only hV (Only.empty lX (Nat.le_refl _)) (fun _ _ h => h))
      have HI := Lib.hid (HT.out.below _ _ _ hI lX)
      have HO := Lib.hid (hO.trans (Only.of_below lX (fun k hk h => absurd hk (Nat.not_lt.2 h))))
      have hsz2 := lX.size
      have b0 := blk_cell HAT.out.blk 0
      have x0 := blk_cell hbX 0; have x1 := blk_cell hbX 1; have x2 := blk_cell hbX 2; have x3 := blk_cell hbX 3
      simp only [List.getElem?_toArray, List.getElem?_cons_zero, List.getElem?_cons_succ] at b0 x0 x1 x2 x3
      clear hc hx hW lX hbX hat hV hI hO
      have STEP := Lib.hid (fun (W' : World) (A' : AttAt W' p q ⟨ownS (L.take k), false, false⟩) (V' : EvsAt w.heap.size W' (.slice (some ⟨g, off, none⟩) m vc) L) (I' : I (L.take k ++ [⟨xk, xa, xt, xv⟩]) W') (O' : Only S w W') =>
        (hact_any W' p q _ ⟨xk, xa, xt, xv⟩ A' (HOK.out _ (List.mem_of_getElem? HX.out))).mono (R' := fun e w5 => (∃ z, e = .returned (.int .i64 z)) ∧ AttAt w5 p q ⟨ownS (L.take (k + 1)), false, false⟩ ∧ EvsAt w.heap.size w5 (.slice (some ⟨g, off, none⟩) m vc) L ∧ I (L.take (k + 1)) w5 ∧ Only S w w5 ∧ w.heap.size ≤ w5.heap.size) (fun e w5 hp => by
          obtain ⟨rfl, h1, h2⟩ := hp
          obtain ⟨cs, hc⟩ := LAt.blk A'.log
          refine ⟨⟨_, rfl⟩, ?_, ?_, ?_, ?_, ?_⟩
          · rw [take_at HX.out, ownS_snoc]; exact h1
          · exact ownsRow_only V' h2 (fun j hj e => by subst e; exact row_ne V' hc (by decide) hj)
          · rw [take_at HX.out]; exact HT.out.turn _ _ _ q I' h2 ⟨cs, hc⟩ hq
          · exact O'.after h2 (fun j hj e => by omega)
          · exact Nat.le_trans O'.size h2.size))
      by_cases hk2 : xk = 2
      · subst hk2
        have HATd := Lib.hid (HAT.out.below (Below.refl W.heap.size W).drew)
        have HVd := Lib.hid (show EvsAt w.heap.size W.drew (.slice (some ⟨g, off, none⟩) m vc) L from ownsRow_only HV.out (Only.empty (Below.refl W.heap.size W).drew (Nat.le_refl _)) (fun _ _ h => h))
        have HId := Lib.hid (HT.out.below _ _ _ HI.out (Below.refl W.heap.size W).drew)
        have HOd := Lib.hid (show Only S w W.drew from HO.out.drew)
        have hszd : w.heap.size ≤ W.drew.heap.size := by show w.heap.size ≤ W.heap.size; omega
        have KO := Lib.hid (show ∀ w', Below W.drew.heap.size W.drew w' → (w'.cell? ⟨p, 0, none⟩ = some (ptr q) ∧ w'.cell? ⟨wr.heap.size, 2, none⟩ = some (.int .i64 xt)) from fun w' l => ⟨bkeep l b0, bkeep l x2⟩)
        have QA := KO.out W.drew (Below.refl _ _)
        have HXd := Lib.hid (show W.drew.heap[wr.heap.size]? = some (.cells #[.int .u8 2, .int .i64 xa, .int .i64 xt, .int .u64 xv] 60 (0, 0)) from HBX.out)
        go_wp2_with fail
        rw [HWD.out]
        go_region_held3 (fun w' => w'.cell? ⟨p, 0, none⟩ = some (ptr q) ∧ w'.cell? ⟨wr.heap.size, 2, none⟩ = some (.int .i64 xt)) (first | (with_reducible exact QA) | (with_reducible exact QB)) ((go_at_call 79; (with_reducible refine Calls.mono (lget_p HATd.out.log xt) ?_); rintro e w4 ⟨rfl, l4⟩; have QB := KO.out w4 l4))
        have hb4 := bblk l4 HXd.out
        have y0 := blk_cell hb4 0; have y1 := blk_cell hb4 1; have y2 := blk_cell hb4 2; have y3 := blk_cell hb4 3
        simp only [List.getElem?_toArray, List.getElem?_cons_zero, List.getElem?_cons_succ] at y0 y1 y2 y3
        have hA4 := HATd.out.below l4
        have hV4 : EvsAt w.heap.size w4 (.slice (some ⟨g, off, none⟩) m vc) L := ownsRow_only HVd.out (Only.empty l4 (Nat.le_refl _)) (fun _ _ h => h)
        have hI4 := HT.out.below _ _ _ HId.out l4
        have hO4 : Only S w w4 := HOd.out.trans (Only.of_below l4 (fun k hk h => absurd hk (Nat.not_lt.2 h)))
        have hs4 := Nat.le_trans hszd l4.size
        have hcl := HT.out.call _ ⟨2, xa, xt, xv⟩ _ hI4 rfl (take_eq HX.out) hs4
        have hod := HT.out.odd _ _ hI4
        have HCL := Lib.hid hcl; have HOD := Lib.hid hod
        have HA4 := Lib.hid hA4; have HV4 := Lib.hid hV4; have HI4 := Lib.hid hI4; have HO4 := Lib.hid hO4; have HB4 := Lib.hid hb4
        clear hcl hod hA4 hV4 hI4 hO4 hb4 QA QB l4 HATd HVd HId HOd KO HXd
        generalize (getL (ownS (L.take k)) xt).getD 0 = g1 at *
        generalize (getL (ownS (L.take k)) xt).isSome = g2 at *
        have hcf := HT.out.fn
        go_wp2_with fail
        refine HCL.out.mono ?_
        rintro e w5 ⟨rfl, i5, o5⟩
        have lo := HT.out.lo
        have H5 := Lib.hid (show AttAt w5 p q ⟨ownS (L.take k), false, false⟩ ∧ EvsAt w.heap.size w5 (.slice (some ⟨g, off, none⟩) m vc) L ∧ I (L.take k ++ [⟨2, xa, xt, xv⟩]) w5 ∧ Only S w w5 from ⟨HA4.out.strange o5 HOD.out (fun h => by have := lo _ h; omega) (fun h => by have := lo _ h; omega), ownsRow_only HV4.out o5 (fun j hj h => by have h6 := (HV4.out.lt j hj).1; have := lo _ h; omega), i5, HO4.out.trans o5⟩)
        have z0 := (bblk (Below.refl w4.heap.size w4) HB4.out)
        have hb5 := o5.blk HB4.out (fun h => by have := lo _ h; omega)
        have y0 := blk_cell hb5 0; have y1 := blk_cell hb5 1; have y2 := blk_cell hb5 2; have y3 := blk_cell hb5 3
        simp only [List.getElem?_toArray, List.getElem?_cons_zero, List.getElem?_cons_succ] at y0 y1 y2 y3
        clear i5 o5 lo z0 hb5
        go_wp2_with fail
        refine (STEP.out w5 H5.out.1 H5.out.2.1 H5.out.2.2.1 H5.out.2.2.2).mono ?_
        rintro e w6 ⟨⟨z, rfl⟩, h1, h2, h3, h4, h5⟩
        have H6 := Lib.hid (And.intro h1 (And.intro h2 (And.intro h3 (And.intro h4 h5))))
        clear h1 h2 h3 h4 h5
        go_wp2_with fail
        exact ⟨⟨k + 1, by go_num, by omega, H6.out⟩, by simp [intOf]; omega⟩
      · have q2 : (xk == 2) = false := by simpa using hk2
        have HI2 := Lib.hid (HT.out.skip _ ⟨xk, xa, xt, xv⟩ _ HI.out hk2)
        clear hk2
        go_wp2_with fail
        rw [HWD.out]
        refine (STEP.out W HAT.out HV.out HI2.out HO.out).mono ?_
        rintro e w5 ⟨⟨z, rfl⟩, h1, h2, h3, h4, h5⟩
        have H5 := Lib.hid (And.intro h1 (And.intro h2 (And.intro h3 (And.intro h4 h5))))
        clear h1 h2 h3 h4 h5
        go_wp2_with fail
        exact ⟨⟨k + 1, by go_num, by omega, H5.out⟩, by simp [intOf]; omega⟩
    · obtain rfl : k = m := by omega
      rw [List.take_of_length_le (by rw [HM.out]; exact Nat.le_refl _)] at hat hI
      have b0 := blk_cell hat.blk 0
      simp only [List.getElem?_toArray, List.getElem?_cons_zero] at b0
      have HF := Lib.hid (show LAt wr q (ownS L) ∧ I L wr ∧ Only S w wr from ⟨hat.log, hI, hO⟩)
      clear hat hI hO hV
      go_wp2_with fail
      go_ret
      exact ⟨q, rfl, HF.out.1, HF.out.2.1, HF.out.2.2⟩
end Go.Proofs.YtganmdbhmihjpaaGreat.His
/- The real side: Writes, Reads, Own. -/
namespace Go.Proofs.YtganmdbhmihjpaaGreat.His
open Go.RowKit Go.Proofs.YtganmdbhmihjpaaGreat.Wri
set_option linter.unusedSimpArgs false
set_option linter.unusedVariables false
set_option maxRecDepth 50000

theorem getS_fun (xs : Frs) : getS xs = getL (xs.map (·.2)) := funext fun t => getS_eq xs t
def PairsPost (w : World) (f : Frm) (e : Ending) (w' : World) : Prop := ∃ v, e = .returned v ∧ PairsAt w.heap.size w' v f ∧ Below w.heap.size w w'
theorem all_p {w : World} {q : Nat} {fs : List Frm} (h : LAt w q fs) : Calls Tryz.prog 60 #[ptr q] w (PairsPost w (allK (getL fs) 12)) := by
  obtain ⟨xs, rfl, hl⟩ := h
  have := all_any w q xs hl
  rw [getS_fun] at this
  exact this
theorem none_odd (W : World) : Strange W (fun _ => False) := fun k h => h.elim
theorem writes1_any (x : Ev) (g1 : Int) (g2 : Bool) (W : World) : Calls Tryz.prog 59 #[evV x, .int .u64 g1, .bool g2] W fun e W' => e = .returned (.tuple #[]) ∧ True ∧ Only (fun _ => False) W W' := by
  go_enter Tryz.func59, Tryz.ntmps59
  go_wp2_with fail
  exact bodyPost_end (results_none rfl _ _ _) rfl ⟨rfl, trivial, (Only.refl _ _).alloc _⟩
theorem writesH_any (w : World) (a : Option Addr) (n c : Nat) (l : List Ev) (h : EvsIn w a n l) (hok : ∀ x ∈ l, 0 ≤ x.v ∧ x.v < 18446744073709551616) (hn : n ≤ 1000000) (t : Int) :
    Calls Tryz.prog 38 #[.slice a n c, .int .i64 t] w (PairsPost w (allK (getL (ownL l t)) 12)) := by
  have HP := Lib.hid (play_any w a n c l h hok hn t 59 #[] (fun _ => False) (fun _ _ => True) ⟨trivial, fun args W => by kernel_rfl, fun k hk => hk.elim, fun p W _ => none_odd W, fun _ _ _ _ _ => trivial, fun _ _ _ _ _ _ _ _ => trivial, fun _ _ _ _ _ => trivial, fun p x W _ _ _ _ => writes1_any x _ _ W⟩)
  clear h hok
  unfold PairsPost
  go_enter Tryz.func38, Tryz.ntmps38
  go_wp2_with fail
  refine HP.out.mono ?_
  rintro e w1 ⟨q, rfl, hq, _, o1⟩
  have HA := Lib.hid (all_p hq)
  have L1 := Lib.hid o1.toBelow
  clear hq o1
  go_wp2_with fail
  refine HA.out.mono ?_
  rintro e w2 ⟨v, rfl, hv, l2⟩
  have HV := Lib.hid (ownsRow_base hv (base' := w.heap.size) (fun k hk => Nat.le_trans L1.out.size (hv.lt k hk).1))
  have L2 := Lib.hid (btrans L1.out (Nat.le_refl _) l2)
  clear hv l2
  go_wp2_with fail
  go_ret
  exact ⟨v, rfl, HV.out, L2.out⟩
/-! ### Reads -/
def readsG (fs : List Frm) : List Ev → Frm
  | [] => []
  | x :: r => (if (x.k == 2 && (getL fs x.t).isNone) = true then [(x.t, x.v)] else []) ++ readsG (actS fs x) r
theorem readsG_at (x : Ev) (r : List Ev) : ∀ (p : List Ev) (fs : List Frm), readsG fs (p ++ x :: r) = [] → x.k = 2 → (getL (p.foldl actS fs) x.t).isSome = true := by
  intro p
  induction p with
  | nil =>
    intro fs h hk
    rw [List.nil_append, readsG] at h
    have h1 := (List.append_eq_nil_iff.1 h).1
    split at h1
    · cases h1
    · rename_i hn
      rw [Option.isSome_iff_ne_none]
      simpa [hk] using hn
  | cons y p ih =>
    intro fs h hk
    rw [List.cons_append, readsG] at h
    exact ih _ (List.append_eq_nil_iff.1 h).2 hk
def readsL (l : List Ev) (n : Int) : Frm := readsG [[]] (cutL l n)
/-- the box that the told function keeps -/
def RBox (b : Nat) (W : World) : Prop := W.heap[b]? = some (.cells #[.slice none 0 0] 71 (0, 0))
theorem RBox.odd {b : Nat} {W : World} (h : RBox b W) : Strange W (fun k => k = b) := fun k hk => by
  subst hk
  exact .inr ⟨_, _, _, h, by decide, by decide, by decide⟩
theorem box_turn {b q : Nat} {W W' : World} {cs : Array Value} {t : TypeId} (h : W.heap[b]? = some (.cells cs t (0, 0))) (ht : t ≠ 123) (o : Only (fun k => k = q) W W') (hq : ∃ cs, W.heap[q]? = some (.cells cs 123 (0, 0))) : W'.heap[b]? = some (.cells cs t (0, 0)) := by
  obtain ⟨cs, hc⟩ := hq
  refine o.blk h (fun e => ?_)
  subst e
  rw [hc] at h
  injection h with h
  injection h with _ h _
  exact ht h.symm
theorem reads1_any (b : Nat) (x : Ev) (W : World) (h : RBox b W) (g1 : Int) :
    Calls Tryz.prog 58 #[evV x, .int .u64 g1, .bool true, ptr b] W fun e W' => e = .returned (.tuple #[]) ∧ RBox b W' ∧ Only (fun k => k = b) W W' := by
  have HF := Lib.hid (bblk (show Below W.heap.size W (W.alloc (.cells #[.int .u8 x.k, .int .i64 x.a, .int .i64 x.t, .int .u64 x.v] 60)) from by repeat (first | (with_reducible exact Below.refl _ _) | (with_reducible apply Below.drew) | (with_reducible refine below_drewN ?_ _) | (with_reducible refine below_alloc' ?_ ?_ _; (focus ((try simp) <;> omega))) | (with_reducible refine below_set' ?_ ?_ _; (focus ((try simp) <;> omega))))) h)
  clear h
  go_enter Tryz.func58, Tryz.ntmps58
  go_wp2_with fail
  exact bodyPost_end (results_none rfl _ _ _) rfl ⟨rfl, HF.out, (Only.refl _ _).alloc _⟩
theorem readsH_nil (w : World) (a : Option Addr) (n c : Nat) (l : List Ev) (h : EvsIn w a n l) (hok : ∀ x ∈ l, 0 ≤ x.v ∧ x.v < 18446744073709551616) (hn : n ≤ 1000000) (t : Int) (hr : readsL l t = []) :
    Calls Tryz.prog 37 #[.slice a n c, .int .i64 t] w fun e w' => e = .returned (.slice none 0 0) ∧ Below w.heap.size w w' := by
  have l1 : Below w.heap.size w (w.alloc (.cells #[.slice none 0 0] 71)) := by repeat (first | (with_reducible exact Below.refl _ _) | (with_reducible apply Below.drew) | (with_reducible refine below_drewN ?_ _) | (with_reducible refine below_alloc' ?_ ?_ _; (focus ((try simp) <;> omega))) | (with_reducible refine below_set' ?_ ?_ _; (focus ((try simp) <;> omega))))
  have hb1 : RBox w.heap.size (w.alloc (.cells #[.slice none 0 0] 71)) := by unfold RBox; simp [↓heap_alloc_eq, ↓heap_set_eq, ↓heap_drew_eq, ↓heap_drewN_eq, setObj, size_drewN]
  have hlt := blk_lt hb1
  have HP := Lib.hid (play_any _ a n c l (h.below l1) hok hn t 58 #[ptr w.heap.size] (fun k => k = w.heap.size) (fun _ W => RBox w.heap.size W) ⟨hb1, fun args W => by kernel_rfl, fun k hk => by subst hk; exact hlt, fun p W hI => hI.odd, fun _ _ _ hI l => bblk l hI, fun _ _ _ q hI o hq _ => box_turn hI (by decide) o hq, fun _ _ _ hI _ => hI, fun p x W hI hk hL _ => by
    obtain ⟨r, hL⟩ := hL
    have := readsG_at x r p [[]] (by rw [hL]; exact hr) hk
    rw [show (getL (ownS p) x.t).isSome = true from this]
    exact reads1_any w.heap.size x W hI _⟩)
  have L1 := Lib.hid l1
  have hmf : ∀ (fn : Fn) (first cap : Array Value) (w : World), (Instr.makeFunc fn first cap).run Tryz.prog w = .ok (.func fn first cap) w := fun _ _ _ _ => rfl
  clear h hok hr l1 hb1 hlt
  go_enter Tryz.func37, Tryz.ntmps37
  go_wp2_with fail
  refine HP.out.mono ?_
  rintro e w1 ⟨q, rfl, _, hb, o1⟩
  have b0 := blk_cell hb 0
  simp only [List.getElem?_toArray, List.getElem?_cons_zero] at b0
  have HF := Lib.hid (show Below w.heap.size w w1 from L1.out.trans (o1.lo (fun k e => by omega) L1.out.size))
  clear hb o1
  go_wp2_with fail
  go_ret
  exact ⟨rfl, HF.out⟩
/-! ### Own -/
def ownG (fs : List Frm) : List Ev → Bool
  | [] => true
  | x :: r => (!(x.k == 2) || !(getL fs x.t).isSome || (getL fs x.t).getD 0 == x.v) && ownG (actS fs x) r
theorem ownG_snoc (x : Ev) : ∀ (p : List Ev) (fs : List Frm), ownG fs (p ++ [x]) = (ownG fs p && (!(x.k == 2) || !(getL (p.foldl actS fs) x.t).isSome || (getL (p.foldl actS fs) x.t).getD 0 == x.v)) := by
  intro p
  induction p with
  | nil => intro fs; simp [ownG]
  | cons y p ih =>
    intro fs
    rw [List.cons_append, ownG, ih, ownG, List.foldl_cons, Bool.and_assoc]
def ownOk (l : List Ev) (n : Int) : Bool := ownG [[]] (cutL l n)
def OBox (b : Nat) (p : List Ev) (W : World) : Prop := W.heap[b]? = some (.cells #[.bool (ownG [[]] p)] 4 (0, 0))
theorem OBox.odd {b : Nat} {p : List Ev} {W : World} (h : OBox b p W) : Strange W (fun k => k = b) := fun k hk => by
  subst hk
  exact .inr ⟨_, _, _, h, by decide, by decide, by decide⟩
set_option maxHeartbeats 1600000 in
theorem own1_any (b : Nat) (x : Ev) (W : World) (o : Bool) (h : W.heap[b]? = some (.cells #[.bool o] 4 (0, 0))) (g1 : Int) (g2 : Bool) :
    Calls Tryz.prog 61 #[evV x, .int .u64 g1, .bool g2, ptr b] W fun e W' => e = .returned (.tuple #[]) ∧ W'.heap[b]? = some (.cells #[.bool (o && (!g2 || g1 == x.v))] 4 (0, 0)) ∧ Only (fun k => k = b) W W' := by
  have lX := show Below W.heap.size W (W.alloc (.cells #[.int .u8 x.k, .int .i64 x.a, .int .i64 x.t, .int .u64 x.v] 60)) from by repeat (first | (with_reducible exact Below.refl _ _) | (with_reducible apply Below.drew) | (with_reducible refine below_drewN ?_ _) | (with_reducible refine below_alloc' ?_ ?_ _; (focus ((try simp) <;> omega))) | (with_reducible refine below_set' ?_ ?_ _; (focus ((try simp) <;> omega))))
  have hb := bblk lX h
  have hblt := blk_lt h
  have b0 := blk_cell h 0
  simp only [List.getElem?_toArray, List.getElem?_cons_zero] at b0
  have f0 := blk_free h 0
  have hbn : ¬ b = W.heap.size := by omega
  have HF := Lib.hid (fun u : Bool => show ((W.setCell ⟨b, 0, none⟩ (.bool u)).alloc (.cells #[.int .u8 x.k, .int .i64 x.a, .int .i64 x.t, .int .u64 x.v] 60)).heap[b]? = some (.cells #[.bool u] 4 (0, 0)) ∧ Only (fun k => k = b) W ((W.setCell ⟨b, 0, none⟩ (.bool u)).alloc (.cells #[.int .u8 x.k, .int .i64 x.a, .int .i64 x.t, .int .u64 x.v] 60)) from
    ⟨bblk (show Below (W.setCell ⟨b, 0, none⟩ (.bool u)).heap.size (W.setCell ⟨b, 0, none⟩ (.bool u)) _ from by repeat (first | (with_reducible exact Below.refl _ _) | (with_reducible apply Below.drew) | (with_reducible refine below_drewN ?_ _) | (with_reducible refine below_alloc' ?_ ?_ _; (focus ((try simp) <;> omega))) | (with_reducible refine below_set' ?_ ?_ _; (focus ((try simp) <;> omega))))) (blk_set h 0 (.bool u)), ((Only.refl (fun k => k = b) W).setCell (p := ⟨b, 0, none⟩) (.inr rfl) _).alloc _⟩)
  clear h hb lX
  obtain ⟨xk, xa, xt, xv⟩ := x
  simp only at *
  cases o <;> cases g2 <;> cases hv : (g1 == xv)
  all_goals
    go_enter Tryz.func61, Tryz.ntmps61
    go_wp2_with fail
    exact bodyPost_end (results_none rfl _ _ _) rfl ⟨rfl, (HF.out _).1, (HF.out _).2⟩
theorem ownH_any (w : World) (a : Option Addr) (n c : Nat) (l : List Ev) (h : EvsIn w a n l) (hok : ∀ x ∈ l, 0 ≤ x.v ∧ x.v < 18446744073709551616) (hn : n ≤ 1000000) (t : Int) :
    Calls Tryz.prog 39 #[.slice a n c, .int .i64 t] w fun e w' => e = .returned (.bool (ownOk l t)) ∧ Below w.heap.size w w' := by
  have l1 : Below w.heap.size w (w.alloc (.cells #[.bool true] 4)) := by repeat (first | (with_reducible exact Below.refl _ _) | (with_reducible apply Below.drew) | (with_reducible refine below_drewN ?_ _) | (with_reducible refine below_alloc' ?_ ?_ _; (focus ((try simp) <;> omega))) | (with_reducible refine below_set' ?_ ?_ _; (focus ((try simp) <;> omega))))
  have hb1 : OBox w.heap.size [] (w.alloc (.cells #[.bool true] 4)) := by unfold OBox; simp [↓heap_alloc_eq, ↓heap_set_eq, ↓heap_drew_eq, ↓heap_drewN_eq, setObj, size_drewN]; rfl
  have hlt := blk_lt hb1
  have HP := Lib.hid (play_any _ a n c l (h.below l1) hok hn t 61 #[ptr w.heap.size] (fun k => k = w.heap.size) (fun p W => OBox w.heap.size p W) ⟨hb1, fun args W => by kernel_rfl, fun k hk => by subst hk; exact hlt, fun p W hI => hI.odd, fun _ _ _ hI l => bblk l hI, fun _ _ _ q hI o hq _ => box_turn hI (by decide) o hq, fun p x W hI hk => by
    unfold OBox at hI ⊢
    rw [ownG_snoc, show (x.k == 2) = false by simpa using hk]
    simpa using hI, fun p x W hI hk hL _ => by
    refine (own1_any w.heap.size x W _ hI _ _).mono ?_
    rintro e W' ⟨h1, h2, h3⟩
    refine ⟨h1, ?_, h3⟩
    unfold OBox
    rw [ownG_snoc, hk]
    unfold ownS at h2
    simpa using h2⟩)
  have L1 := Lib.hid l1
  have hmf : ∀ (fn : Fn) (first cap : Array Value) (w : World), (Instr.makeFunc fn first cap).run Tryz.prog w = .ok (.func fn first cap) w := fun _ _ _ _ => rfl
  clear h hok l1 hb1 hlt
  unfold ownOk
  go_enter Tryz.func39, Tryz.ntmps39
  go_wp2_with fail
  refine HP.out.mono ?_
  rintro e w1 ⟨q, rfl, _, hb, o1⟩
  have b0 := blk_cell hb 0
  simp only [List.getElem?_toArray, List.getElem?_cons_zero] at b0
  have HF := Lib.hid (show Below w.heap.size w w1 from L1.out.trans (o1.lo (fun k e => by omega) L1.out.size))
  clear hb o1
  go_wp2_with fail
  go_ret
  exact ⟨rfl, HF.out⟩
end Go.Proofs.YtganmdbhmihjpaaGreat.His
/- The document's side: an event on an attempt's own log, the log behind the first events. -/
namespace Go.Proofs.YtganmdbhmihjpaaGreat.His
open Go.RowKit Go.Proofs.YtganmdbhmihjpaaGreat.Wri
set_option linter.unusedSimpArgs false
set_option linter.unusedVariables false
set_option maxRecDepth 50000

def RActPost (w : World) (q : Nat) (fs : List Frm) (x : Ev) (e : Ending) (w' : World) : Prop :=
  e = .returned (.int .i64 (actN fs x)) ∧ RAt w' q (actS fs x) ∧ Only (fun k => k = q) w w'
theorem RActPost.of {w W w1 : World} {q : Nat} {fs0 : List Frm} {x : Ev} {n : Int} {fs : List Frm} (hq : q < w.heap.size) (lW : Below w.heap.size w W) (hn : actN fs0 x = n) (hf : actS fs0 x = fs) (o : Only (fun k => k = q) W w1) (m : RAt w1 q fs) : RActPost w q fs0 x (.returned (.int .i64 n)) w1 := by
  subst hn hf
  refine ⟨rfl, m, (Only.of_below lW (fun k hk e => ?_)).trans o⟩
  omega
set_option maxHeartbeats 1600000 in
theorem ract_any (w : World) (q : Nat) (fs : List Frm) (x : Ev) (h : RAt w q fs) (hi : WellS fs) (hv : 0 ≤ x.v ∧ x.v < 18446744073709551616) :
    Calls Tryz.prog 81 #[ptr q, evV x] w (RActPost w q fs x) := by
  have hqlt := RLogAt.lt h
  obtain ⟨xk, xa, xt, xv⟩ := x
  simp only at hv
  obtain ⟨W, hWdef⟩ : ∃ W, w.alloc (.cells #[.int .u8 xk, .int .i64 xa, .int .i64 xt, .int .u64 xv] 60) = W := ⟨_, rfl⟩
  have lW : Below w.heap.size w W := by rw [← hWdef]; repeat (first | (with_reducible exact Below.refl _ _) | (with_reducible apply Below.drew) | (with_reducible refine below_drewN ?_ _) | (with_reducible refine below_alloc' ?_ ?_ _; (focus ((try simp) <;> omega))) | (with_reducible refine below_set' ?_ ?_ _; (focus ((try simp) <;> omega))))
  have HW := Lib.hid (h.below lW); have LW := Lib.hid lW; have HV := Lib.hid hv; have HWD := Lib.hid hWdef; have HI := Lib.hid hi
  clear h lW hv hWdef hi
  by_cases h3 : xk = 3
  · subst h3
    go_enter Tryz.func81, Tryz.ntmps81; go_wp2_with fail; rw [HWD.out]; (try go_wp2_with fail); refine (rput_p HW.out HI.out xt xv HV.out).mono ?_; rintro e w4 ⟨rfl, o4, m4⟩; have HF := Lib.hid (RActPost.of (x := ⟨3, xa, xt, xv⟩) hqlt LW.out rfl rfl o4 m4); clear o4 m4; go_wp2_with fail; go_ret; exact HF.out
  have q3 : (xk == 3) = false := by simpa using h3
  by_cases h4 : xk = 4
  · subst h4
    go_enter Tryz.func81, Tryz.ntmps81; go_wp2_with fail; rw [HWD.out]; (try go_wp2_with fail); refine (rpush_p HW.out).mono ?_; rintro e w4 ⟨rfl, o4, m4⟩; have HF := Lib.hid (RActPost.of (x := ⟨4, xa, xt, xv⟩) hqlt LW.out rfl rfl o4 m4); clear o4 m4; go_wp2_with fail; go_ret; exact HF.out
  have q4 : (xk == 4) = false := by simpa using h4
  by_cases h5 : xk = 5
  · subst h5
    go_enter Tryz.func81, Tryz.ntmps81; go_wp2_with fail; rw [HWD.out]; (try go_wp2_with fail); refine (rdrop_p HW.out).mono ?_; rintro e w4 ⟨rfl, o4, m4⟩; have HF := Lib.hid (RActPost.of (x := ⟨5, xa, xt, xv⟩) hqlt LW.out rfl rfl o4 m4); clear o4 m4; go_wp2_with fail; go_ret; exact HF.out
  have q5 : (xk == 5) = false := by simpa using h5
  by_cases h6 : xk = 6
  · subst h6
    go_enter Tryz.func81, Tryz.ntmps81; go_wp2_with fail; rw [HWD.out]; (try go_wp2_with fail); refine (rmerge_p HW.out HI.out).mono ?_; rintro e w4 ⟨rfl, o4, m4⟩; have HF := Lib.hid (RActPost.of (x := ⟨6, xa, xt, xv⟩) hqlt LW.out rfl rfl o4 m4); clear o4 m4; go_wp2_with fail; go_ret; exact HF.out
  have q6 : (xk == 6) = false := by simpa using h6
  have HF := Lib.hid (RActPost.of (fs0 := fs) (x := ⟨xk, xa, xt, xv⟩) (n := 0) (fs := fs) hqlt LW.out (by simp [actN, h3, h4, h5, h6]) (by simp [actS, h3, h4, h5, h6]) (Only.refl _ _) HW.out)
  clear h3 h4 h5 h6
  go_enter Tryz.func81, Tryz.ntmps81
  go_wp2_with fail
  go_ret
  rw [HWD.out]
  exact HF.out
theorem ract_n (w : World) (q : Nat) (fs : List Frm) (x : Ev) (n : Int) (h : RAt w q fs) (hi : WellS fs) (hv : 0 ≤ x.v ∧ x.v < 18446744073709551616) (hn : actN fs x = n) :
    Calls Tryz.prog 81 #[ptr q, evV x] w fun e w' => e = .returned (.int .i64 n) ∧ RAt w' q (actS fs x) ∧ Only (fun k => k = q) w w' := by
  subst hn
  exact ract_any w q fs x h hi hv
theorem ownL_take {l : List Ev} {k : Nat} {x : Ev} (hx : l[k]? = some x) (n : Int) : ownL (l.take (k + 1)) n = if x.a = n then actS (ownL (l.take k) n) x else ownL (l.take k) n := by
  rw [take_at hx, ownL_snoc]
set_option maxHeartbeats 1600000 in
theorem rown_any (w : World) (p : Option Addr) (n c : Nat) (l : List Ev) (h : EvsIn w p n l) (hok : ∀ x ∈ l, 0 ≤ x.v ∧ x.v < 18446744073709551616) (hn : n ≤ 1000000) (m : Nat) (hm : m ≤ n) (t : Int) :
    Calls Tryz.prog 80 #[.slice p n c, .int .i64 m, .int .i64 t] w fun e w' => ∃ q, e = .returned (ptr q) ∧ RAt w' q (ownL (l.take m) t) ∧ w.heap.size ≤ q ∧ Below w.heap.size w w' := by
  have H := Lib.hid h; have HOK := Lib.hid hok
  clear h hok
  go_enter Tryz.func80, Tryz.ntmps80
  go_wp2_with fail
  refine (rnew_any _).mono ?_
  rintro e w1 ⟨q, rfl, hq, hr, l1⟩
  have HR1 := Lib.hid (show RAt w1 q [[]] from hr); have L1 := Lib.hid l1
  clear hr l1
  go_wp2_with fail
  go_loopw [8] (fun i wr => ∃ k : Nat, i = .int .i64 k ∧ k ≤ m ∧ RAt wr q (ownL (l.take k) t) ∧ Below w.heap.size w wr) (fun i _ => m - (intOf i).toNat)
  case atStart => exact ⟨0, rfl, Nat.zero_le _, HR1.out, L1.out⟩
  case round =>
    obtain ⟨k, rfl, hk, hR, hB⟩ := hrel
    have HR := Lib.hid hR; have HB := Lib.hid hB
    clear hR hB
    by_cases hlt : k < m
    · obtain ⟨g, off, rfl, hc⟩ := H.out.2.resolve_left (by omega)
      obtain ⟨x, hx, c0, c1, c2, c3⟩ := hc k (by omega)
      replace c0 := bkeep HB.out c0; replace c1 := bkeep HB.out c1; replace c2 := bkeep HB.out c2; replace c3 := bkeep HB.out c3
      have hw1 : IntKind.i64.wrap ((k : Int) + 1) = (k : Int) + 1 := by rw [IntKind.wrap_i64]; omega
      have HO := Lib.hid (ownL_take hx t)
      have hkn : (k : Int) < n := by omega
      have hkn2 : k < n := by omega
      have HV := Lib.hid (HOK.out x (List.mem_of_getElem? hx))
      obtain ⟨xk, xa, xt, xv⟩ := x
      simp only at c0 c1 c2 c3
      clear hc hx
      cases e1 : (xa == t)
      · have HO2 := Lib.hid (show ownL (l.take (k + 1)) t = ownL (l.take k) t by rw [HO.out]; exact if_neg (by simpa using e1))
        go_wp2_with fail
        exact ⟨⟨k + 1, by go_num, by omega, by rw [HO2.out]; exact HR.out, HB.out⟩, by simp [intOf]; omega⟩
      · have HO2 := Lib.hid (show ownL (l.take (k + 1)) t = actS (ownL (l.take k) t) ⟨xk, xa, xt, xv⟩ by rw [HO.out]; exact if_pos (by simpa using e1))
        have HA := Lib.hid (ract_any wr q _ ⟨xk, xa, xt, xv⟩ HR.out (ownL_well _ _) HV.out)
        go_wp2_with fail
        refine HA.out.mono ?_
        rintro e w5 ⟨rfl, m5, o5⟩
        have HM5 := Lib.hid m5
        have HB5 := Lib.hid (HB.out.trans (o5.lo (fun k e => by omega) HB.out.size))
        clear m5 o5
        go_wp2_with fail
        exact ⟨⟨k + 1, by go_num, by omega, by rw [HO2.out]; exact HM5.out, HB5.out⟩, by simp [intOf]; omega⟩
    · obtain rfl : k = m := by omega
      go_wp2_with fail
      go_ret
      exact ⟨q, rfl, HR.out, hq, HB.out⟩
end Go.Proofs.YtganmdbhmihjpaaGreat.His
