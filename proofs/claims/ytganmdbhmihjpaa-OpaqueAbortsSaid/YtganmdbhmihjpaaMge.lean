/- Texts of this seat, one behind the other: OpaB, OpaC, TguB, TguC. -/
import Derived.Test.YtganmdbhmihjpaaMgd
import Derived.Maps.AppendAt
import Derived.Deep.RegionLaw
import Derived.Test.YtganmdbhmihjpaaChecked
import Derived.Lib.SliceRun
/- The real side: play, for a function that keeps a row of pairs. -/
namespace Go.Proofs.Ytganmdbhmihjpaa.His
open Go.RowKit Go.Proofs.Ytganmdbhmihjpaa.Wri
set_option linter.unusedSimpArgs false
set_option linter.unusedVariables false
set_option maxRecDepth 50000

/-- what a told function does that keeps a row of its own (V: its block) -/
structure ToldV (w : World) (f : FuncId) (cap : Array Value) (S : Nat → Prop) (I : List Ev → (Nat → Prop) → World → Prop) (L : List Ev) : Prop where
  ini : I [] (fun _ => False) w
  fn : ∀ args W, (callFunc f args).run Try.prog W = .ok (.enter f args) W
  lo : ∀ k, S k → k < w.heap.size
  odd : ∀ p V W, I p V W → Strange W S
  vty : ∀ p V W, I p V W → ∀ k, V k → ∃ cs, W.heap[k]? = some (.cells cs 102 (0, 0))
  vnew : ∀ p V W, I p V W → ∀ k, V k → w.heap.size ≤ k
  below : ∀ p V W W', I p V W → Below W.heap.size W W' → I p V W'
  turn : ∀ p V W W' q, I p V W → Only (fun k => k = q) W W' → (∃ cs, W.heap[q]? = some (.cells cs 114 (0, 0))) → w.heap.size ≤ q → I p V W'
  skip : ∀ p V x W, I p V W → x.k ≠ 2 → I (p ++ [x]) V W
  call : ∀ p V x W, I p V W → x.k = 2 → (∃ r, p ++ x :: r = L) → w.heap.size ≤ W.heap.size → Calls Try.prog f (#[evV x, .int .u64 ((getL (ownS p) x.t).getD 0), .bool (getL (ownS p) x.t).isSome] ++ cap) W fun e W' => e = .returned (.tuple #[]) ∧ ∃ V', I (p ++ [x]) V' W' ∧ Only (fun k => S k ∨ V k) W W' ∧ ∀ k, V' k → V k ∨ W.heap.size ≤ k
def PlayV (w : World) (S : Nat → Prop) (I : List Ev → (Nat → Prop) → World → Prop) (l : List Ev) (t : Int) (e : Ending) (w' : World) : Prop :=
  ∃ q, e = .returned (ptr q) ∧ LAt w' q (ownL l t) ∧ (∃ V, I (cutL l t) V w') ∧ Only S w w'
set_option maxHeartbeats 3200000 in
theorem playV_any (w : World) (a : Option Addr) (n c : Nat) (l : List Ev) (h : EvsIn w a n l) (hok : ∀ x ∈ l, 0 ≤ x.v ∧ x.v < 18446744073709551616) (hn : n ≤ 1000000) (t : Int) (f : FuncId) (cap : Array Value) (S : Nat → Prop) (I : List Ev → (Nat → Prop) → World → Prop) (hT : ToldV w f cap S I (cutL l t)) :
    Calls Try.prog 56 #[.slice a n c, .int .i64 t, .func (.func f) #[] cap] w (PlayV w S I l t) := by
  have H := Lib.hid h; have HT := Lib.hid hT; have HOK := Lib.hid (show ∀ x ∈ cutL l t, 0 ≤ x.v ∧ x.v < 18446744073709551616 from fun x hx => hok x (List.mem_filter.1 hx).1)
  have hLn : (cutL l t).length ≤ n := by
    have := cutL_len l t n
    rw [← h.1] at this ⊢
    rwa [List.take_length] at this
  unfold PlayV
  rw [← ownS_cut]
  obtain ⟨L, hL⟩ : ∃ L, cutL l t = L := ⟨_, rfl⟩
  have HC := Lib.hid (fun w1 (l1 : Below w.heap.size w w1) => cut_any w1 a n c l (h.below l1) hn t)
  rw [hL] at HT HOK HC hLn ⊢
  clear h hT hok hL
  go_enter Try.func56, Try.ntmps56
  go_wp2_with fail
  refine (new_any _).mono ?_
  rintro e w1 ⟨q, rfl, hq, hl1, l1⟩
  have HL1 := Lib.hid hl1; have L1 := Lib.hid l1
  have hs1 := l1.size
  clear hl1 l1
  go_wp2_with fail
  obtain ⟨W2, hW2⟩ : ∃ W2, w1.alloc (.cells #[ptr q, .bool false, .bool false] 96) = W2 := ⟨_, rfl⟩
  have l12 : Below w1.heap.size w1 W2 := by rw [← hW2]; repeat (first | (with_reducible exact Below.refl _ _) | (with_reducible apply Below.drew) | (with_reducible refine below_drewN ?_ _) | (with_reducible refine below_alloc' ?_ ?_ _; (focus ((try simp) <;> omega))) | (with_reducible refine below_set' ?_ ?_ _; (focus ((try simp) <;> omega))))
  have hb2 : W2.heap[w1.heap.size]? = some (.cells #[ptr q, .bool false, .bool false] 96 (0, 0)) := by rw [← hW2]; simp [↓heap_alloc_eq, ↓heap_set_eq, ↓heap_drew_eq, ↓heap_drewN_eq, setObj, size_drewN]
  have hat2 : AttV (fun _ => False) W2 w1.heap.size q ⟨[[]], false, false⟩ := ⟨hb2, LAv.below ⟨_, rfl, HL1.out, fun _ _ _ _ h => h⟩ l12, WellS.one⟩
  have l2 : Below w.heap.size w W2 := btrans L1.out (Nat.le_refl _) l12
  have HC2 := Lib.hid (HC.out _ l2)
  rw [hW2]
  clear hb2 hW2
  obtain ⟨p, hp⟩ : ∃ p, w1.heap.size = p := ⟨_, rfl⟩
  have hpw : w.heap.size ≤ p := by omega
  rw [hp] at hat2 ⊢
  have HAT2 := Lib.hid hat2; have L2 := Lib.hid l2
  clear hat2 l2 l12 hp
  refine HC2.out.mono ?_
  rintro e w3 ⟨v, rfl, hv, l3⟩
  obtain ⟨va, vc, rfl, hvi⟩ := EvsAt.open hv
  obtain ⟨m, hm⟩ : ∃ m, L.length = m := ⟨_, rfl⟩
  have HM := Lib.hid hm
  have hvb := ownsRow_base hv (base' := w.heap.size) (fun k hk => Nat.le_trans L2.out.size (hv.lt k hk).1)
  unfold EvsAt at hvb
  rw [hm] at hvb hLn ⊢
  have HV3 := Lib.hid (show EvsAt w.heap.size w3 (.slice va m vc) L by unfold EvsAt; rw [HM.out]; exact hvb)
  have HAT3 := Lib.hid (HAT2.out.below l3)
  have L3 := Lib.hid (btrans L2.out (Nat.le_refl _) l3)
  clear hv hvi hvb l3 hm HC HC2 HL1 L1
  go_wp2_with fail
  go_loopw [19] (fun i wr => ∃ (k : Nat) (V : Nat → Prop), i = .int .i64 k ∧ k ≤ m ∧ AttV V wr p q ⟨ownS (L.take k), false, false⟩ ∧ EvsAt w.heap.size wr (.slice va m vc) L ∧ I (L.take k) V wr ∧ Only S w wr ∧ w.heap.size ≤ wr.heap.size) (fun i _ => m - (intOf i).toNat)
  case atStart => exact ⟨0, fun _ => False, rfl, Nat.zero_le _, HAT3.out, HV3.out, by rw [List.take_zero]; exact HT.out.below _ _ _ _ HT.out.ini L3.out, Only.of_below L3.out (fun k hk h => absurd hk (Nat.not_lt.2 h)), L3.out.size⟩
  case round =>
    obtain ⟨k, V, rfl, hk, hat, hV, hI, hO, hsz⟩ := hrel
    by_cases hlt : k < m
    · obtain ⟨g, off, rfl, hc⟩ := (EvsAt.in' hV).2.resolve_left (by omega)
      obtain ⟨x, hx, c0, c1, c2, c3⟩ := hc k hlt
      have hw1 : IntKind.i64.wrap ((k : Int) + 1) = (k : Int) + 1 := by rw [IntKind.wrap_i64]; omega
      obtain ⟨xk, xa, xt, xv⟩ := x
      simp only at c0 c1 c2 c3
      obtain ⟨W, hW⟩ : ∃ W, wr.alloc (.cells #[.int .u8 xk, .int .i64 xa, .int .i64 xt, .int .u64 xv] 40) = W := ⟨_, rfl⟩
      have lX : Below wr.heap.size wr W := by rw [← hW]; repeat (first | (with_reducible exact Below.refl _ _) | (with_reducible apply Below.drew) | (with_reducible refine below_drewN ?_ _) | (with_reducible refine below_alloc' ?_ ?_ _; (focus ((try simp) <;> omega))) | (with_reducible refine below_set' ?_ ?_ _; (focus ((try simp) <;> omega))))
      have hbX : W.heap[wr.heap.size]? = some (.cells #[.int .u8 xk, .int .i64 xa, .int .i64 xt, .int .u64 xv] 40 (0, 0)) := by rw [← hW]; simp [↓heap_alloc_eq, ↓heap_set_eq, ↓heap_drew_eq, ↓heap_drewN_eq, setObj, size_drewN]
      have HX := Lib.hid hx; have HWD := Lib.hid hW; have HBX := Lib.hid hbX
      have HAT := Lib.hid (hat.below lX)
      have HV := Lib.hid (show EvsAt w.heap.size W _ L from ownsRow_only hV (Only.empty lX (Nat.le_refl _)) (fun _ _ h => h))
      have HI := Lib.hid (HT.out.below _ _ _ _ hI lX)
      have HO := Lib.hid (hO.trans (Only.of_below lX (fun k hk h => absurd hk (Nat.not_lt.2 h))))
      have hsz2 := lX.size
      have b0 := blk_cell HAT.out.blk 0
      have x0 := blk_cell hbX 0; have x1 := blk_cell hbX 1; have x2 := blk_cell hbX 2; have x3 := blk_cell hbX 3
      simp only [List.getElem?_toArray, List.getElem?_cons_zero, List.getElem?_cons_succ] at b0 x0 x1 x2 x3
      clear hc hx hW lX hbX hat hV hI hO
      have STEP := Lib.hid (fun (W' : World) (V' : Nat → Prop) (A' : AttV V' W' p q ⟨ownS (L.take k), false, false⟩) (R' : EvsAt w.heap.size W' (.slice (some ⟨g, off, none⟩) m vc) L) (I' : I (L.take k ++ [⟨xk, xa, xt, xv⟩]) V' W') (O' : Only S w W') =>
        (hact_v W' p q _ ⟨xk, xa, xt, xv⟩ A' (fun j hj => by obtain ⟨cs, hc⟩ := HT.out.vty _ _ _ I' j hj; exact blk_lt hc) (HOK.out _ (List.mem_of_getElem? HX.out))).mono (R' := fun e w5 => (∃ z, e = .returned (.int .i64 z)) ∧ AttV V' w5 p q ⟨ownS (L.take (k + 1)), false, false⟩ ∧ EvsAt w.heap.size w5 (.slice (some ⟨g, off, none⟩) m vc) L ∧ I (L.take (k + 1)) V' w5 ∧ Only S w w5 ∧ w.heap.size ≤ w5.heap.size) (fun e w5 hp => by
          obtain ⟨rfl, h1, h2⟩ := hp
          obtain ⟨cs, hc⟩ := LAt.blk A'.log.at
          refine ⟨⟨_, rfl⟩, ?_, ?_, ?_, ?_, ?_⟩
          · rw [take_at HX.out, ownS_snoc]; exact h1
          · exact ownsRow_only R' h2 (fun j hj e => by subst e; exact row_ne R' hc (by decide) hj)
          · rw [take_at HX.out]; exact HT.out.turn _ _ _ _ q I' h2 ⟨cs, hc⟩ hq
          · exact O'.after h2 (fun j hj e => by omega)
          · exact Nat.le_trans O'.size h2.size))
      by_cases hk2 : xk = 2
      · subst hk2
        have HATd := Lib.hid (HAT.out.below (Below.refl W.heap.size W).drew)
        have HVd := Lib.hid (show EvsAt w.heap.size W.drew (.slice (some ⟨g, off, none⟩) m vc) L from ownsRow_only HV.out (Only.empty (Below.refl W.heap.size W).drew (Nat.le_refl _)) (fun _ _ h => h))
        have HId := Lib.hid (HT.out.below _ _ _ _ HI.out (Below.refl W.heap.size W).drew)
        have HOd := Lib.hid (show Only S w W.drew from HO.out.drew)
        have hszd : w.heap.size ≤ W.drew.heap.size := by show w.heap.size ≤ W.heap.size; omega
        have KO := Lib.hid (show ∀ w', Below W.drew.heap.size W.drew w' → (w'.cell? ⟨p, 0, none⟩ = some (ptr q) ∧ w'.cell? ⟨wr.heap.size, 2, none⟩ = some (.int .i64 xt)) from fun w' l => ⟨bkeep l b0, bkeep l x2⟩)
        have QA := KO.out W.drew (Below.refl _ _)
        have HXd := Lib.hid (show W.drew.heap[wr.heap.size]? = some (.cells #[.int .u8 2, .int .i64 xa, .int .i64 xt, .int .u64 xv] 40 (0, 0)) from HBX.out)
        go_wp2_with fail
        rw [HWD.out]
        go_region_held3 (fun w' => w'.cell? ⟨p, 0, none⟩ = some (ptr q) ∧ w'.cell? ⟨wr.heap.size, 2, none⟩ = some (.int .i64 xt)) (first | (with_reducible exact QA) | (with_reducible exact QB)) ((go_at_call 73; (with_reducible refine Calls.mono (lget_p HATd.out.log.at xt) ?_); rintro e w4 ⟨rfl, l4⟩; have QB := KO.out w4 l4))
        have hb4 := bblk l4 HXd.out
        have y0 := blk_cell hb4 0; have y1 := blk_cell hb4 1; have y2 := blk_cell hb4 2; have y3 := blk_cell hb4 3
        simp only [List.getElem?_toArray, List.getElem?_cons_zero, List.getElem?_cons_succ] at y0 y1 y2 y3
        have hA4 := HATd.out.below l4
        have hV4 : EvsAt w.heap.size w4 (.slice (some ⟨g, off, none⟩) m vc) L := ownsRow_only HVd.out (Only.empty l4 (Nat.le_refl _)) (fun _ _ h => h)
        have hI4 := HT.out.below _ _ _ _ HId.out l4
        have hO4 : Only S w w4 := HOd.out.trans (Only.of_below l4 (fun k hk h => absurd hk (Nat.not_lt.2 h)))
        have hs4 := Nat.le_trans hszd l4.size
        have hcl := HT.out.call _ _ ⟨2, xa, xt, xv⟩ _ hI4 rfl (take_eq HX.out) hs4
        have hod := HT.out.odd _ _ _ hI4
        have HVT := Lib.hid (HT.out.vty _ _ _ hI4); have HVN := Lib.hid (HT.out.vnew _ _ _ hI4)
        have HCL := Lib.hid hcl; have HOD := Lib.hid hod
        have HA4 := Lib.hid hA4; have HV4 := Lib.hid hV4; have HI4 := Lib.hid hI4; have HO4 := Lib.hid hO4; have HB4 := Lib.hid hb4
        clear hcl hod hA4 hV4 hI4 hO4 hb4 QA QB l4 HATd HVd HId HOd KO HXd
        generalize (getL (ownS (L.take k)) xt).getD 0 = g1 at *
        generalize (getL (ownS (L.take k)) xt).isSome = g2 at *
        have hcf := HT.out.fn
        go_wp2_with fail
        refine HCL.out.mono ?_
        rintro e w5 ⟨rfl, V5, i5, o5, hv5⟩
        have lo := HT.out.lo
        have H5 := Lib.hid (show AttV V5 w5 p q ⟨ownS (L.take k), false, false⟩ ∧ EvsAt w.heap.size w5 (.slice (some ⟨g, off, none⟩) m vc) L ∧ I (L.take k ++ [⟨2, xa, xt, xv⟩]) V5 w5 ∧ Only S w w5 from ⟨HA4.out.keep o5 HOD.out (fun h => by have := lo _ h; omega) (fun h => by have := lo _ h; omega) HVT.out hv5, ownsRow_only HV4.out o5 (fun j hj h => by
          rcases h with h | h
          · have h6 := (HV4.out.lt j hj).1
            have := lo _ h
            omega
          · obtain ⟨cs, hc⟩ := HVT.out j h
            exact row_ne HV4.out hc (by decide) hj), i5, HO4.out.after o5 (fun j hj h => by
          rcases h with h | h
          · exact h
          · have := HVN.out j h
            omega)⟩)
        have z0 := (bblk (Below.refl w4.heap.size w4) HB4.out)
        have hb5 := o5.blk HB4.out (fun h => by
          rcases h with h | h
          · have := lo _ h
            omega
          · obtain ⟨cs, hc⟩ := HVT.out _ h
            rw [HB4.out] at hc
            injection hc with hc
            injection hc with _ hc _
            revert hc
            decide)
        have y0 := blk_cell hb5 0; have y1 := blk_cell hb5 1; have y2 := blk_cell hb5 2; have y3 := blk_cell hb5 3
        simp only [List.getElem?_toArray, List.getElem?_cons_zero, List.getElem?_cons_succ] at y0 y1 y2 y3
        clear i5 o5 lo z0 hb5 hv5
        go_wp2_with fail
        refine (STEP.out w5 V5 H5.out.1 H5.out.2.1 H5.out.2.2.1 H5.out.2.2.2).mono ?_
        rintro e w6 ⟨⟨z, rfl⟩, h1, h2, h3, h4, h5⟩
        have H6 := Lib.hid (And.intro h1 (And.intro h2 (And.intro h3 (And.intro h4 h5))))
        clear h1 h2 h3 h4 h5
        go_wp2_with fail
        exact ⟨⟨k + 1, V5, by go_num, by omega, H6.out⟩, by simp [intOf]; omega⟩
      · have q2 : (xk == 2) = false := by simpa using hk2
        have HI2 := Lib.hid (HT.out.skip _ _ ⟨xk, xa, xt, xv⟩ _ HI.out hk2)
        clear hk2
        go_wp2_with fail
        rw [HWD.out]
        refine (STEP.out W V HAT.out HV.out HI2.out HO.out).mono ?_
        rintro e w5 ⟨⟨z, rfl⟩, h1, h2, h3, h4, h5⟩
        have H5 := Lib.hid (And.intro h1 (And.intro h2 (And.intro h3 (And.intro h4 h5))))
        clear h1 h2 h3 h4 h5
        go_wp2_with fail
        exact ⟨⟨k + 1, V, by go_num, by omega, H5.out⟩, by simp [intOf]; omega⟩
    · obtain rfl : k = m := by omega
      rw [List.take_of_length_le (by rw [HM.out]; exact Nat.le_refl _)] at hat hI
      have b0 := blk_cell hat.blk 0
      simp only [List.getElem?_toArray, List.getElem?_cons_zero] at b0
      have HF := Lib.hid (show LAt wr q (ownS L) ∧ (∃ V, I L V wr) ∧ Only S w wr from ⟨hat.log.at, ⟨V, hI⟩, hO⟩)
      clear hat hI hO hV
      go_wp2_with fail
      go_ret
      exact ⟨q, rfl, HF.out.1, HF.out.2.1, HF.out.2.2⟩
end Go.Proofs.Ytganmdbhmihjpaa.His
/- The real side: Reads, whatever is read. -/
namespace Go.Proofs.Ytganmdbhmihjpaa.His
open Go.RowKit Go.Proofs.Ytganmdbhmihjpaa.Wri
set_option linter.unusedSimpArgs false
set_option linter.unusedVariables false
set_option maxRecDepth 50000

theorem readsG_snoc (x : Ev) : ∀ (p : List Ev) (fs : List Frm), readsG fs (p ++ [x]) = readsG fs p ++ (if (x.k == 2 && (getL (p.foldl actS fs) x.t).isNone) = true then [(x.t, x.v)] else []) := by
  intro p
  induction p with
  | nil =>
    intro fs
    show _ ++ [] = [] ++ _
    rw [List.append_nil, List.nil_append]
    rfl
  | cons y p ih =>
    intro fs
    rw [List.cons_append, readsG, ih, readsG, List.foldl_cons, List.append_assoc]
theorem readsG_len : ∀ (p : List Ev) (fs : List Frm), (readsG fs p).length ≤ p.length := by
  intro p
  induction p with
  | nil => intro fs; simp [readsG]
  | cons y p ih =>
    intro fs
    have := ih (actS fs y)
    unfold readsG
    rw [List.length_append, List.length_cons]
    split <;> simp <;> omega
/-- the box that the told function keeps -/
def PBox (b : Nat) (p : List Ev) (V : Nat → Prop) (W : World) : Prop := ∃ v, W.heap[b]? = some (.cells #[v] 77 (0, 0)) ∧ PairsAt (b + 1) W v (readsG [[]] p) ∧ V = fun k => v.ownBlock = some k
theorem PBox.odd {b : Nat} {p : List Ev} {V : Nat → Prop} {W : World} (h : PBox b p V W) : Strange W (fun k => k = b) := fun k hk => by
  subst hk
  obtain ⟨v, hb, _⟩ := h
  exact .inr ⟨_, _, _, hb, by decide, by decide, by decide⟩
theorem PBox.below {b : Nat} {p : List Ev} {V : Nat → Prop} {W W' : World} (h : PBox b p V W) (l : Below W.heap.size W W') : PBox b p V W' := by
  obtain ⟨v, hb, hv, hV⟩ := h
  exact ⟨v, bblk l hb, pairs_grow hv l, hV⟩
theorem PBox.turn {b : Nat} {p : List Ev} {V : Nat → Prop} {W W' : World} {q : Nat} (h : PBox b p V W) (o : Only (fun k => k = q) W W') (hq : ∃ cs, W.heap[q]? = some (.cells cs 114 (0, 0))) : PBox b p V W' := by
  obtain ⟨v, hb, hv, hV⟩ := h
  refine ⟨v, box_turn hb (by decide) o hq, ?_, hV⟩
  obtain ⟨cs, hc⟩ := hq
  exact ownsRow_only hv o (fun j hj e => by subst e; exact row_ne hv hc (by decide) hj)
def PPost (b : Nat) (p : List Ev) (V : Nat → Prop) (x : Ev) (W : World) (e : Ending) (W' : World) : Prop :=
  e = .returned (.tuple #[]) ∧ ∃ V', PBox b (p ++ [x]) V' W' ∧ Only (fun k => k = b ∨ V k) W W' ∧ ∀ k, V' k → V k ∨ W.heap.size ≤ k
set_option maxHeartbeats 1600000 in
theorem readsV_any (b : Nat) (p : List Ev) (V : Nat → Prop) (x : Ev) (W : World) (h : PBox b p V W) (hk : x.k = 2) (hl : p.length ≤ 1000000) :
    Calls Try.prog 57 #[evV x, .int .u64 ((getL (ownS p) x.t).getD 0), .bool (getL (ownS p) x.t).isSome, ptr b] W (PPost b p V x W) := by
  obtain ⟨i0, hi, hz0, hz1, hz2⟩ := info_parts infoP
  have hlen := readsG_len p [[]]
  have hS2 : readsG [[]] (p ++ [x]) = readsG [[]] p ++ (if (getL (ownS p) x.t).isNone = true then [(x.t, x.v)] else []) := by
    rw [readsG_snoc x p [[]]]
    simp only [hk, beq_self_eq_true, Bool.true_and]
    rfl
  obtain ⟨v, hb, hv, rfl⟩ := h
  obtain ⟨xk, xa, xt, xv⟩ := x
  simp only at hS2 hk ⊢
  subst hk
  have hblt := blk_lt hb
  unfold PPost
  cases hg : getL (ownS p) xt with
  | some u =>
    have hS3 : readsG [[]] (p ++ [⟨2, xa, xt, xv⟩]) = readsG [[]] p := by rw [hS2, hg]; simp
    have HF := Lib.hid (show PBox b (p ++ [⟨2, xa, xt, xv⟩]) (fun k => v.ownBlock = some k) (W.alloc (.cells #[.int .u8 2, .int .i64 xa, .int .i64 xt, .int .u64 xv] 40)) from (by
      refine PBox.below (W := W) ⟨v, hb, ?_, rfl⟩ (by repeat (first | (with_reducible exact Below.refl _ _) | (with_reducible apply Below.drew) | (with_reducible refine below_drewN ?_ _) | (with_reducible refine below_alloc' ?_ ?_ _; (focus ((try simp) <;> omega))) | (with_reducible refine below_set' ?_ ?_ _; (focus ((try simp) <;> omega)))))
      rw [hS3]; exact hv))
    clear hS2 hS3 hb hv hg
    simp only [Option.getD_some, Option.isSome_some]
    go_enter Try.func57, Try.ntmps57
    go_wp2_with fail
    exact bodyPost_end (results_none rfl _ _ _) rfl ⟨rfl, _, HF.out, (Only.refl _ _).alloc _, fun k hk => .inl hk⟩
  | none =>
    have hS3 : readsG [[]] (p ++ [⟨2, xa, xt, xv⟩]) = readsG [[]] p ++ [(xt, xv)] := by rw [hS2, hg]; simp
    have l2 : Below W.heap.size W (W.alloc (.cells #[.int .u8 2, .int .i64 xa, .int .i64 xt, .int .u64 xv] 40)) := by repeat (first | (with_reducible exact Below.refl _ _) | (with_reducible apply Below.drew) | (with_reducible refine below_drewN ?_ _) | (with_reducible refine below_alloc' ?_ ?_ _; (focus ((try simp) <;> omega))) | (with_reducible refine below_set' ?_ ?_ _; (focus ((try simp) <;> omega))))
    have hpb : ¬ b = W.heap.size := by omega
    have hpb1 : ¬ b = W.heap.size + 1 := by omega
    have b0w := blk_cell hb 0
    simp only [List.getElem?_toArray, List.getElem?_cons_zero] at b0w
    have HS := Lib.hid hS3; have HB := Lib.hid hb
    have hv2 := pairs_grow hv l2
    have lA : Below ((W.alloc (.cells #[.int .u8 2, .int .i64 xa, .int .i64 xt, .int .u64 xv] 40))).heap.size (W.alloc (.cells #[.int .u8 2, .int .i64 xa, .int .i64 xt, .int .u64 xv] 40)) (((W.alloc (.cells #[.int .u8 2, .int .i64 xa, .int .i64 xt, .int .u64 xv] 40))).alloc (.cells #[.int .i64 xt, .int .u64 xv] 102)) := by repeat (first | (with_reducible exact Below.refl _ _) | (with_reducible apply Below.drew) | (with_reducible refine below_drewN ?_ _) | (with_reducible refine below_alloc' ?_ ?_ _; (focus ((try simp) <;> omega))) | (with_reducible refine below_set' ?_ ?_ _; (focus ((try simp) <;> omega))))
    have HVA := Lib.hid (pairs_grow hv2 lA)
    have LA := Lib.hid (btrans l2 (Nat.le_refl _) lA)
    have HVl := Lib.hid (show ∀ k, v.ownBlock = some k → b + 1 ≤ k ∧ k < W.heap.size from fun k hk => hv.lt k hk)
    clear hS2 hS3 hb hv hg l2 hv2 lA
    simp only [Option.getD_none, Option.isSome_none]
    go_enter Try.func57, Try.ntmps57
    go_wp2_with (at_builtin; refine wpList_append_own_at _ rfl _ _ 77 rfl (b + 1) 102 i0 (.agg #[.int .i64 0, .int .u64 0]) 2 16 Try.underlying77 hi hz0 hz1 hz2 rfl (by decide) _ _ (pairVals (readsG [[]] p)) rfl HVA.out ⟨W.heap.size + 1, 0, none⟩ 1 1 [.int .i64 xt, .int .u64 xv] rfl rfl ?c1 ?c2 ?c3 ?c4 ?c5 ?_)
    case c1 =>
      intro j v' hv
      rw [Addr.add_lit]
      have := blk_cell (blk_new (W.alloc (.cells #[.int .u8 2, .int .i64 xa, .int .i64 xt, .int .u64 xv] 40)) (.cells #[.int .i64 xt, .int .u64 xv] 102)) j
      rw [show ((W.alloc (.cells #[.int .u8 2, .int .i64 xa, .int .i64 xt, .int .u64 xv] 40))).heap.size = W.heap.size + 1 by simp] at this
      rw [Nat.zero_add, this]
      simpa using hv
    case c2 => simp [Value.oneCell']
    case c3 => unfold maxLen; omega
    case c4 => omega
    case c5 => simp; omega
    intro v' w2 hown hgr _ hat
    obtain ⟨va, vc, rfl⟩ := ownsRow_slice hown
    have o2 : Only (fun k => v.ownBlock = some k) W w2 := (Only.of_below (S := fun k => v.ownBlock = some k) LA.out (fun k hk h => absurd hk (Nat.not_lt.2 h))).trans (Only.of_grown hgr (fun k hk => hk))
    have hb3 := o2.blk HB.out (fun h => by have := HVl.out _ h; omega)
    have b3 := blk_cell hb3 0; have f3 := blk_free hb3 0
    simp only [List.getElem?_toArray, List.getElem?_cons_zero] at b3
    have HB3 := Lib.hid hb3; have HOWN := Lib.hid hown; have O2 := Lib.hid o2; have HAT := Lib.hid hat
    clear hown hgr o2 hb3 hat
    go_wp2_with fail
    refine bodyPost_end (results_none rfl _ _ _) rfl ⟨rfl, _, ⟨_, blk_set HB3.out 0 _, ?_, rfl⟩, ?_, ?_⟩
    · rw [HS.out]
      unfold PairsAt
      rw [pairVals_append, List.length_append]
      exact ownsRow_only HOWN.out ((Only.refl (fun k => k = b) w2).setCell (p := ⟨b, 0, none⟩) (.inr rfl) _) (fun k hk e => by subst e; have := (HOWN.out.lt _ hk).1; omega)
    · exact (O2.out.mono (T := fun k => k = b ∨ v.ownBlock = some k) (fun k _ h => .inr h)).setCell (p := ⟨b, 0, none⟩) (.inr (.inl rfl)) _
    · intro k hk
      rcases HAT.out with h | h
      · exact .inl (by rw [← h]; exact hk)
      · rw [h] at hk
        injection hk with hk
        refine .inr ?_
        rw [← hk]
        omega
theorem readsH_any (w : World) (a : Option Addr) (n c : Nat) (l : List Ev) (h : EvsIn w a n l) (hok : ∀ x ∈ l, 0 ≤ x.v ∧ x.v < 18446744073709551616) (hn : n ≤ 1000000) (t : Int) :
    Calls Try.prog 39 #[.slice a n c, .int .i64 t] w (PairsPost w (readsL l t)) := by
  have l1 : Below w.heap.size w (w.alloc (.cells #[.slice none 0 0] 77)) := by repeat (first | (with_reducible exact Below.refl _ _) | (with_reducible apply Below.drew) | (with_reducible refine below_drewN ?_ _) | (with_reducible refine below_alloc' ?_ ?_ _; (focus ((try simp) <;> omega))) | (with_reducible refine below_set' ?_ ?_ _; (focus ((try simp) <;> omega))))
  have hbb : (w.alloc (.cells #[.slice none 0 0] 77)).heap[w.heap.size]? = some (.cells #[.slice none 0 0] 77 (0, 0)) := by simp [↓heap_alloc_eq, ↓heap_set_eq, ↓heap_drew_eq, ↓heap_drewN_eq, setObj, size_drewN]
  have hlt := blk_lt hbb
  have hcl : (cutL l t).length ≤ 1000000 := by
    have := cutL_len l t n
    rw [← h.1, List.take_length] at this
    rw [h.1] at this
    omega
  have hfV : (fun k => (Value.slice none 0 0).ownBlock = some k) = fun _ => False := by
    funext k
    simp [Value.ownBlock]
  have HP := Lib.hid (playV_any _ a n c l (h.below l1) hok hn t 57 #[ptr w.heap.size] (fun k => k = w.heap.size) (fun p V W => PBox w.heap.size p V W)
    { ini := ⟨_, hbb, World.ownsRow_nil _ _ _ _, hfV.symm⟩
      fn := fun args W => by kernel_rfl
      lo := fun k hk => by subst hk; exact hlt
      odd := fun p V W hI => hI.odd
      vty := fun p V W hI k hk => by
        obtain ⟨v, _, hv, rfl⟩ := hI
        exact row_obj hv hk
      vnew := fun p V W hI k hk => by
        obtain ⟨v, _, hv, rfl⟩ := hI
        have := (World.ownsRow.lt hv k hk).1
        rw [World.size_alloc]
        omega
      below := fun p V W W' hI l => hI.below l
      turn := fun p V W W' q hI o hq _ => hI.turn o hq
      skip := fun p V x W hI hk => by
        obtain ⟨v, h1, h2, h3⟩ := hI
        refine ⟨v, h1, ?_, h3⟩
        rw [readsG_snoc, show (x.k == 2) = false by simpa using hk]
        simpa using h2
      call := fun p V x W hI hk hL _ => readsV_any w.heap.size p V x W hI hk (by
        obtain ⟨r, hL⟩ := hL
        have := congrArg List.length hL
        rw [List.length_append] at this
        omega) })
  have L1 := Lib.hid l1
  have hmf : ∀ (fn : Fn) (first cap : Array Value) (w : World), (Instr.makeFunc fn first cap).run Try.prog w = .ok (.func fn first cap) w := fun _ _ _ _ => rfl
  clear h hok l1 hbb hlt hfV
  unfold PairsPost readsL
  go_enter Try.func39, Try.ntmps39
  go_wp2_with fail
  refine HP.out.mono ?_
  rintro e w1 ⟨q, rfl, _, ⟨V, v, hb, hv, _⟩, o1⟩
  have b0 := blk_cell hb 0
  simp only [List.getElem?_toArray, List.getElem?_cons_zero] at b0
  have HF := Lib.hid (show Below w.heap.size w w1 from L1.out.trans (o1.lo (fun k e => by omega) L1.out.size))
  have HV := Lib.hid (show PairsAt w.heap.size w1 v (readsG [[]] (cutL l t)) from ownsRow_base hv (fun k hk => by have := (World.ownsRow.lt hv k hk).1; omega))
  clear hb o1 hv
  go_wp2_with fail
  go_ret
  exact ⟨v, rfl, HV.out, HF.out⟩
end Go.Proofs.Ytganmdbhmihjpaa.His
/- Go's own: insertion sort of a few ints. -/
namespace Go.Proofs.Ytganmdbhmihjpaa.Tgu
open Go.RowKit
set_option linter.unusedSimpArgs false
set_option linter.unusedVariables false
set_option maxRecDepth 50000

def Sorted' (c : List Int) (m : Nat) : Prop := ∀ p q, p < q → q < m → c.getD p 0 ≤ c.getD q 0
def SortedBut (c : List Int) (m j : Nat) : Prop := ∀ p q, p < q → q < m → q ≠ j → c.getD p 0 ≤ c.getD q 0
theorem getD_set (c : List Int) (i p : Nat) (v : Int) (hi : i < c.length) : (c.set i v).getD p 0 = if p = i then v else c.getD p 0 := by
  rw [List.getD_eq_getElem?_getD, List.getElem?_set, List.getD_eq_getElem?_getD]
  by_cases h : p = i
  · subst h
    simp [hi]
  · have : ¬ i = p := fun e => h e.symm
    simp [h, this]
def swapL (c : List Int) (j : Nat) : List Int := (c.set j (c.getD (j - 1) 0)).set (j - 1) (c.getD j 0)
theorem swapL_get (c : List Int) (j p : Nat) (h0 : 0 < j) (hl : j < c.length) : (swapL c j).getD p 0 = if p = j - 1 then c.getD j 0 else if p = j then c.getD (j - 1) 0 else c.getD p 0 := by
  unfold swapL
  rw [getD_set _ _ _ _ (by rw [List.length_set]; omega), getD_set _ _ _ _ hl]
theorem swapL_len (c : List Int) (j : Nat) : (swapL c j).length = c.length := by simp [swapL]
theorem but_swap {c : List Int} {m j : Nat} (h0 : 0 < j) (hl : j < c.length) (h : SortedBut c m j) (hlt : c.getD j 0 < c.getD (j - 1) 0) : SortedBut (swapL c j) m (j - 1) := by
  intro p q hpq hqm hq
  rw [swapL_get c j p h0 hl, swapL_get c j q h0 hl]
  by_cases hqj : q = j
  · subst hqj
    rw [if_neg hq, if_pos rfl]
    by_cases hp : p = q - 1
    · rw [if_pos hp]; omega
    · rw [if_neg hp, if_neg (by omega)]
      exact h p (q - 1) (by omega) (by omega) (by omega)
  · rw [if_neg hq, if_neg hqj]
    by_cases hp : p = j - 1
    · rw [if_pos hp]
      exact h j q (by omega) hqm hqj
    · rw [if_neg hp]
      by_cases hpj : p = j
      · rw [if_pos hpj]
        exact h (j - 1) q (by omega) hqm hqj
      · rw [if_neg hpj]
        exact h p q hpq hqm hqj
theorem but_zero {c : List Int} {m : Nat} (h : SortedBut c m 0) : Sorted' c m := fun p q hpq hq => h p q hpq hq (by omega)
theorem but_end {c : List Int} {m j : Nat} (h0 : 0 < j) (h : SortedBut c m j) (hge : ¬ c.getD j 0 < c.getD (j - 1) 0) : Sorted' c m := by
  intro p q hpq hq
  by_cases hqj : q = j
  · subst hqj
    by_cases hp : p = q - 1
    · rw [hp]; omega
    · have := h p (q - 1) (by omega) (by omega) (by omega)
      omega
  · exact h p q hpq hq hqj
theorem sorted_next {c : List Int} {i : Nat} (h : Sorted' c i) : SortedBut c (i + 1) i := fun p q hpq hq hne => h p q hpq (by omega)
theorem getD_mem {c : List Int} {i : Nat} (h : i < c.length) : c.getD i 0 ∈ c := by
  rw [List.getD_eq_getElem?_getD, List.getElem?_eq_getElem h]
  exact List.getElem_mem _
theorem swapL_mem {c ts : List Int} {j : Nat} (h0 : 0 < j) (hl : j < c.length) (h : ∀ x ∈ c, x ∈ ts) : ∀ x ∈ swapL c j, x ∈ ts := by
  intro x hx
  unfold swapL at hx
  rcases List.mem_or_eq_of_mem_set hx with hx | rfl
  · rcases List.mem_or_eq_of_mem_set hx with hx | rfl
    · exact h x hx
    · exact h _ (getD_mem (by omega))
  · exact h _ (getD_mem hl)
abbrev RowI (w : World) (g n cap : Nat) (ts : List Int) : Prop := w.ownsRow 0 3 1 (.slice (some ⟨g, 0, none⟩) n cap) n (ts.map fun t => .int .i64 t)
theorem RowI.len {w : World} {g n cap : Nat} {ts : List Int} (h : RowI w g n cap ts) : ts.length = n := by have := h.1; simpa using this
theorem RowI.cell {w : World} {g n cap : Nat} {ts : List Int} (h : RowI w g n cap ts) {i : Nat} (hi : i < n) : w.cell? ⟨g, i, none⟩ = some (.int .i64 (ts.getD i 0)) := by
  have hl := h.len
  refine row_cell1 (v := .nilFunc) h ?_
  rw [List.getElem?_map, List.getElem?_eq_getElem (by omega), List.getD_eq_getElem?_getD, List.getElem?_eq_getElem (by omega)]
  rfl
theorem RowI.free {w : World} {g n cap : Nat} {ts : List Int} (h : RowI w g n cap ts) (i : Nat) : w.frozen? ⟨g, i, none⟩ = false := by
  obtain ⟨cs, hg⟩ := row_obj h (k := g) rfl
  exact blk_free hg i
theorem RowI.below {w w' : World} {g n cap : Nat} {ts : List Int} (h : RowI w g n cap ts) (l : Below w.heap.size w w') : RowI w' g n cap ts := ownsRow_only h (Only.empty l (Nat.le_refl _)) (fun _ _ h => h)
theorem RowI.set {w : World} {g n cap : Nat} {ts : List Int} (h : RowI w g n cap ts) {i : Nat} (hi : i < n) (t : Int) : RowI (w.setCell ⟨g, i, none⟩ (.int .i64 t)) g n cap (ts.set i t) := by
  have := row_set h (k := i) (by omega) (u := .int .i64 t)
  unfold RowI
  rw [List.map_set]
  exact this
theorem RowI.drew {w : World} {g n cap : Nat} {ts : List Int} (h : RowI w g n cap ts) : RowI w.drew g n cap ts := h.below (Below.refl w.heap.size w).drew
theorem less_any (w : World) (x y : Int) (r : Bool) (hr : decide (x < y) = r) : Calls Try.prog 93 #[.int .i64 x, .int .i64 y] w fun e w' => e = .returned (.bool r) ∧ w = w' := by
  have h1 : (x != x) = false := by simp
  go_enter Try.func93, Try.ntmps93
  go_wp2
  go_ret
  exact ⟨rfl, rfl⟩
def InsPost (w : World) (g n cap : Nat) (ts : List Int) (e : Ending) (w' : World) : Prop :=
  e = .returned (.tuple #[]) ∧ (∃ c, RowI w' g n cap c ∧ Sorted' c n ∧ ∀ x ∈ c, x ∈ ts) ∧ Only (fun k => k = g) w w'
set_option maxHeartbeats 6400000 in
theorem ins_any (w : World) (g n cap : Nat) (ts : List Int) (h : RowI w g n cap ts) (hn : n ≤ 1000) : Calls Try.prog 87 #[.slice (some ⟨g, 0, none⟩) n cap, .int .i64 0, .int .i64 n] w (InsPost w g n cap ts) := by
  have H := Lib.hid h
  clear h
  unfold InsPost
  go_enter Try.func87, Try.ntmps87
  go_wp2_with fail
  go_loopw [6] (fun i wr => ∃ (k : Nat) (c : List Int), i = .int .i64 k ∧ 1 ≤ k ∧ k ≤ n + 1 ∧ RowI wr g n cap c ∧ Sorted' c k ∧ (∀ x ∈ c, x ∈ ts) ∧ Only (fun k => k = g) w wr) (fun i _ => n + 1 - (intOf i).toNat)
  case atStart => exact ⟨1, ts, rfl, Nat.le_refl _, by omega, H.out, fun p q hpq hq => by omega, fun x hx => hx, Only.refl _ _⟩
  case round =>
    obtain ⟨k, c, rfl, hk1, hk, hR, hSd, hM, hO⟩ := hrel
    have HR := Lib.hid hR; have HSd := Lib.hid hSd; have HM := Lib.hid hM; have HO := Lib.hid hO
    clear hR hSd hM hO
    by_cases hlt : k < n
    · have hlt' : (k : Int) < n := by omega
      have hw1 : IntKind.i64.wrap ((k : Int) + 1) = (k : Int) + 1 := by rw [IntKind.wrap_i64]; omega
      go_wp2_with fail
      obtain ⟨wo, rfl⟩ : ∃ wo, wo = wr := ⟨wr, rfl⟩
      go_loopw [7] (fun j wq => ∃ (q : Nat) (d : List Int), j = .int .i64 q ∧ q ≤ k ∧ RowI wq g n cap d ∧ SortedBut d (k + 1) q ∧ (∀ x ∈ d, x ∈ ts) ∧ Only (fun k => k = g) w wq) (fun j _ => (intOf j).toNat)
      case atStart => exact ⟨k, c, rfl, Nat.le_refl _, HR.out, sorted_next HSd.out, HM.out, HO.out⟩
      case round =>
        obtain ⟨q, d, rfl, hq, hRd, hSB, hMd, hOd⟩ := hrel
        have HRd := Lib.hid hRd; have HSB := Lib.hid hSB; have HMd := Lib.hid hMd; have HOd := Lib.hid hOd
        clear hRd hSB hMd hOd
        by_cases hq0 : q = 0
        · subst hq0
          have HS2 := Lib.hid (but_zero HSB.out)
          go_wp2_with fail
          refine wp_region_tail 14 (by kernel_rfl) (by kernel_rfl) ?_; simp only [List.take_succ_cons, List.take_zero, List.drop_succ_cons, List.drop_zero]
          (repeat (first | (with_reducible refine wpStill_skip ?_ ?_; (focus (first | (simp [Region.wanted, yielded]; done) | (rfl) | (simp [Region.wanted, yielded, undef]; done))); simp only [Act.put, List.setIfInBounds_toArray, List.set_cons_succ, List.set_cons_zero]) | (with_reducible refine wpStill_step (fun KK hKK => ?_); go_simp; refine hKK _ ?_; clear hKK KK)))
          with_reducible refine wpStill_nil ?_
          go_wp2_with fail
          exact ⟨⟨k + 1, d, by go_num, by omega, by omega, HRd.out.drew, HS2.out, HMd.out, HOd.out.drew⟩, by simp [intOf]; omega⟩
        · obtain ⟨r, hr⟩ : ∃ r, q = r + 1 := ⟨q - 1, by omega⟩
          have hqn : q < n := by omega
          have hrn : r < n := by omega
          have e0 := HRd.out.cell hqn
          have e1 := HRd.out.cell hrn
          have f0 := HRd.out.free q; have f1 := HRd.out.free r
          have hwq : IntKind.i64.wrap ((q : Int) - 1) = (r : Int) := by rw [IntKind.wrap_i64]; omega
          have hd0 : decide ((0 : Int) < q) = true := by simp; omega
          have hd0n : decide (0 < q) = true := by simp; omega
          have hq0n : 0 < q := by omega
          have hq0i : (0 : Int) < q := by omega
          have hqn' : (q : Int) < n := by omega
          have hrn' : (r : Int) < n := by omega
          have hr1 : q - 1 = r := by omega
          have hdl : q < d.length := by rw [HRd.out.len]; exact hqn
          obtain ⟨x, hx⟩ : ∃ x, d.getD q 0 = x := ⟨_, rfl⟩
          obtain ⟨y, hy⟩ : ∃ y, d.getD r 0 = y := ⟨_, rfl⟩
          rw [hx] at e0; rw [hy] at e1
          have HXY := Lib.hid (And.intro hx hy)
          have HQR := Lib.hid hr1
          have hS0 : wr.drew.cell? ⟨g, q, none⟩ = some (.int .i64 x) ∧ wr.drew.cell? ⟨g, r, none⟩ = some (.int .i64 y) := ⟨e0, e1⟩
          clear hx hy hr1 hr
          cases hlx : decide (x < y)
          · have HEND := Lib.hid (show Sorted' d (k + 1) from but_end (by omega) HSB.out (by rw [HQR.out, HXY.out.1, HXY.out.2]; simpa using hlx))
            have HLX := Lib.hid hlx
            clear hlx
            go_wp2_with fail
            go_region_held3 (fun w' => w'.cell? ⟨g, q, none⟩ = some (.int .i64 x) ∧ w'.cell? ⟨g, r, none⟩ = some (.int .i64 y)) (with_reducible exact hS0) ((go_at_call 93; (with_reducible refine Calls.mono (less_any _ x y _ HLX.out) ?_); rintro e w0 ⟨rfl, rfl⟩))
            go_wp2_with fail
            exact ⟨⟨k + 1, d, by go_num, by omega, by omega, HRd.out.drew, HEND.out, HMd.out, HOd.out.drew⟩, by simp [intOf]; omega⟩
          · have HSW := Lib.hid (show SortedBut (swapL d q) (k + 1) r from by
              have := but_swap (by omega) hdl HSB.out (by rw [HQR.out, HXY.out.1, HXY.out.2]; simpa using hlx)
              rwa [HQR.out] at this)
            have HMS := Lib.hid (swapL_mem (by omega) hdl HMd.out)
            have HLX := Lib.hid hlx
            clear hlx
            go_wp2_with fail
            go_region_held3 (fun w' => w'.cell? ⟨g, q, none⟩ = some (.int .i64 x) ∧ w'.cell? ⟨g, r, none⟩ = some (.int .i64 y)) (with_reducible exact hS0) ((go_at_call 93; (with_reducible refine Calls.mono (less_any _ x y _ HLX.out) ?_); rintro e w0 ⟨rfl, rfl⟩))
            go_wp2_with fail
            clear hS0
            have hset := HRd.out.set hqn y
            have e2 : (wr.setCell ⟨g, q, none⟩ (.int .i64 y)).cell? ⟨g, r, none⟩ = some (.int .i64 y) := by
              have h2 := hset.cell hrn
              have hrq : ¬ r = q := by have := HQR.out; omega
              rw [getD_set _ _ _ _ hdl, if_neg hrq, HXY.out.2] at h2
              exact h2
            have f2 := hset.free r
            have HROW := Lib.hid (show RowI ((wr.setCell ⟨g, q, none⟩ (.int .i64 y)).setCell ⟨g, r, none⟩ (.int .i64 x)).drew.drew g n cap (swapL d q) from by
              have h3 := (hset.set hrn x).drew.drew
              unfold swapL
              rw [HQR.out, HXY.out.1, HXY.out.2]
              exact h3)
            have HOD := Lib.hid (show Only (fun k => k = g) w ((wr.setCell ⟨g, q, none⟩ (.int .i64 y)).setCell ⟨g, r, none⟩ (.int .i64 x)).drew.drew from ((HOd.out.setCell (p := ⟨g, q, none⟩) (.inr rfl) _).setCell (p := ⟨g, r, none⟩) (.inr rfl) _).drew.drew)
            clear hset
            have hrq2 : r + 1 = q := by
              have := HQR.out
              omega
            have HRQ2 := Lib.hid hrq2
            clear hrq2
            go_region_law (fail)
            all_goals go_wp2_with fail
            all_goals have hrq3 := HRQ2.out
            all_goals exact ⟨⟨r, swapL d q, rfl, by omega, HROW.out, HSW.out, HMS.out, HOD.out⟩, by simp [intOf]; omega⟩
    · have HS2 := Lib.hid (show Sorted' c n from fun p q hpq hq => HSd.out p q hpq (by omega))
      go_wp2_with fail
      exact bodyPost_end (results_none rfl _ _ _) rfl ⟨rfl, ⟨c, HR.out, HS2.out, HM.out⟩, HO.out⟩
/-! ### the length of a number, pdqsort, Sort -/
theorem bLen64_any (w : World) (n : Nat) (hn : n ≤ 8) : Calls Try.prog 97 #[.int .u64 n] w fun e w' => (∃ z : Int, e = .returned (.int .i64 z)) ∧ w = w' := by
  have : n = 0 ∨ n = 1 ∨ n = 2 ∨ n = 3 ∨ n = 4 ∨ n = 5 ∨ n = 6 ∨ n = 7 ∨ n = 8 := by omega
  rcases this with rfl | rfl | rfl | rfl | rfl | rfl | rfl | rfl | rfl
  all_goals
    go_enter Try.func97, Try.ntmps97
    go_wp2
    go_ret
    exact ⟨⟨_, rfl⟩, rfl⟩
theorem bLen_any (w : World) (n : Nat) (hn : n ≤ 8) : Calls Try.prog 84 #[.int .u64 n] w fun e w' => (∃ z : Int, e = .returned (.int .i64 z)) ∧ w = w' := by
  have HL := Lib.hid (bLen64_any w n hn)
  go_enter Try.func84, Try.ntmps84
  go_wp2_with fail
  refine HL.out.mono ?_
  rintro e w1 ⟨⟨z, rfl⟩, rfl⟩
  go_wp2_with fail
  go_ret
  exact ⟨⟨z, rfl⟩, rfl⟩
set_option maxHeartbeats 1600000 in
theorem pdq_any (w : World) (g n cap : Nat) (ts : List Int) (h : RowI w g n cap ts) (hn : n ≤ 8) (z : Int) : Calls Try.prog 83 #[.slice (some ⟨g, 0, none⟩) n cap, .int .i64 0, .int .i64 n, .int .i64 z] w (InsPost w g n cap ts) := by
  have HI := Lib.hid (ins_any w g n cap ts h (by omega))
  have hn12 : (n : Int) ≤ 12 := by omega
  have hn12n : n ≤ 12 := by omega
  clear h
  unfold InsPost at HI ⊢
  go_enter Try.func83, Try.ntmps83
  go_wp2_with fail
  go_loopw [1, 2] (fun a b wr => a = .int .i64 0 ∧ b = .int .i64 n ∧ wr = w) (fun _ _ _ => 0)
  case atStart => exact ⟨rfl, rfl, rfl⟩
  case round =>
    obtain ⟨rfl, rfl, rfl⟩ := hrel
    go_wp2_with fail
    refine HI.out.mono ?_
    rintro e w1 ⟨rfl, h1⟩
    have H1 := Lib.hid h1
    clear h1
    go_wp2_with fail
    exact bodyPost_ret (results_none rfl _ _ _) rfl ⟨rfl, H1.out⟩
def SortPost (w : World) (v : Value) (n : Nat) (ts : List Int) (e : Ending) (w' : World) : Prop :=
  e = .returned (.tuple #[]) ∧ (∃ c, w'.ownsRow 0 3 1 v n (c.map fun t => .int .i64 t) ∧ Sorted' c n ∧ ∀ x ∈ c, x ∈ ts) ∧ Only (fun k => v.ownBlock = some k) w w'
theorem sortPost_nil (w : World) : SortPost w (.slice none 0 0) 0 [] (.returned (.tuple #[])) w :=
  ⟨rfl, ⟨[], World.ownsRow_nil _ _ _ _, fun p q hpq hq => by omega, fun x hx => hx⟩, Only.refl _ _⟩
set_option maxHeartbeats 1600000 in
theorem ins_nil (w : World) : Calls Try.prog 87 #[.slice none 0 0, .int .i64 0, .int .i64 0] w fun e w' => e = .returned (.tuple #[]) ∧ w = w' := by
  go_enter Try.func87, Try.ntmps87
  go_wp2_with fail
  go_loopw [6] (fun i wr => i = .int .i64 1 ∧ wr = w) (fun _ _ => 0)
  case atStart => exact ⟨rfl, rfl⟩
  case round =>
    obtain ⟨rfl, rfl⟩ := hrel
    go_wp2_with fail
    exact bodyPost_end (results_none rfl _ _ _) rfl ⟨rfl, rfl⟩
set_option maxHeartbeats 1600000 in
theorem pdq_nil (w : World) (z : Int) : Calls Try.prog 83 #[.slice none 0 0, .int .i64 0, .int .i64 0, .int .i64 z] w fun e w' => e = .returned (.tuple #[]) ∧ w = w' := by
  have HI := Lib.hid (ins_nil w)
  go_enter Try.func83, Try.ntmps83
  go_wp2_with fail
  go_loopw [1, 2] (fun a b wr => a = .int .i64 0 ∧ b = .int .i64 0 ∧ wr = w) (fun _ _ _ => 0)
  case atStart => exact ⟨rfl, rfl, rfl⟩
  case round =>
    obtain ⟨rfl, rfl, rfl⟩ := hrel
    go_wp2_with fail
    refine HI.out.mono ?_
    rintro e w1 ⟨rfl, rfl⟩
    go_wp2_with fail
    exact bodyPost_ret (results_none rfl _ _ _) rfl ⟨rfl, rfl⟩
theorem sort_any (w : World) (v : Value) (n : Nat) (ts : List Int) (h : w.ownsRow 0 3 1 v n (ts.map fun t => .int .i64 t)) (hn : n ≤ 8) : Calls Try.prog 75 #[v] w (SortPost w v n ts) := by
  rcases h.2 with ⟨rfl, rfl⟩ | ⟨g, cap, cur, rfl, _⟩
  · obtain rfl : ts = [] := by have := h.1; simpa using this
    have HF := Lib.hid (sortPost_nil w)
    have HL := Lib.hid (bLen_any w 0 (by decide))
    have HP := Lib.hid (pdq_nil w)
    clear h
    go_enter Try.func75, Try.ntmps75
    go_wp2_with fail
    refine HL.out.mono ?_
    rintro e w1 ⟨⟨z, rfl⟩, rfl⟩
    go_wp2_with fail
    refine (HP.out z).mono ?_
    rintro e w1 ⟨rfl, rfl⟩
    go_wp2_with fail
    exact bodyPost_end (results_none rfl _ _ _) rfl HF.out
  · have HL := Lib.hid (bLen_any w n hn)
    have HP := Lib.hid (fun z => pdq_any w g n cap ts h hn z)
    have hw1 : IntKind.u64.wrap (n : Int) = n := by rw [IntKind.wrap_u64]; omega
    clear h
    go_enter Try.func75, Try.ntmps75
    go_wp2_with fail
    refine HL.out.mono ?_
    rintro e w1 ⟨⟨z, rfl⟩, rfl⟩
    go_wp2_with fail
    refine (HP.out z).mono ?_
    rintro e w1 ⟨rfl, ⟨c, h1, h2, h3⟩, h4⟩
    have HF := Lib.hid (show SortPost w (.slice (some ⟨g, 0, none⟩) n cap) n ts (.returned (.tuple #[])) w1 from ⟨rfl, ⟨c, h1, h2, h3⟩, h4.mono fun k _ e => by subst e; rfl⟩)
    clear h1 h2 h3 h4
    go_wp2_with fail
    exact bodyPost_end (results_none rfl _ _ _) rfl HF.out
end Go.Proofs.Ytganmdbhmihjpaa.Tgu
/- Go's own: Compact of a few ints that rise. -/
namespace Go.Proofs.Ytganmdbhmihjpaa.Tgu
open Go.RowKit
set_option linter.unusedSimpArgs false
set_option linter.unusedVariables false
set_option maxRecDepth 50000

def Strict (c : List Int) (m : Nat) : Prop := ∀ p q, p < q → q < m → c.getD p 0 < c.getD q 0
theorem zeroI (w : World) : (zeroValue 3).run Try.prog w = .ok (.int .i64 0) w := by kernel_rfl
theorem strict_one (c : List Int) : Strict c 1 := fun p q hpq hq => by omega
theorem strict_snoc {c : List Int} {k : Nat} (h0 : 0 < k) (h : Strict c k) (hlt : c.getD (k - 1) 0 < c.getD k 0) : Strict c (k + 1) := by
  intro p q hpq hq
  by_cases hqk : q = k
  · subst hqk
    by_cases hp : p = q - 1
    · rw [hp]; exact hlt
    · have := h p (q - 1) (by omega) (by omega)
      omega
  · exact h p q hpq (by omega)
theorem strict_set {c : List Int} {k : Nat} {v : Int} (hk : k < c.length) (h0 : 0 < k) (h : Strict c k) (hlt : c.getD (k - 1) 0 < v) : Strict (c.set k v) (k + 1) := by
  refine strict_snoc h0 (fun p q hpq hq => ?_) ?_
  · rw [getD_set _ _ _ _ hk, getD_set _ _ _ _ hk, if_neg (by omega), if_neg (by omega)]
    exact h p q hpq hq
  · rw [getD_set _ _ _ _ hk, getD_set _ _ _ _ hk, if_neg (by omega), if_pos rfl]
    exact hlt
theorem strict_take {c : List Int} {k : Nat} (hk : k ≤ c.length) (h : Strict c k) : Strict (c.take k) (c.take k).length := by
  have hl : (c.take k).length = k := by rw [List.length_take]; omega
  intro p q hpq hq
  rw [hl] at hq
  have hg : ∀ i, i < k → (c.take k).getD i 0 = c.getD i 0 := fun i hi => by
    rw [List.getD_eq_getElem?_getD, List.getElem?_take, if_pos hi, List.getD_eq_getElem?_getD]
  rw [hg p (by omega), hg q hq]
  exact h p q hpq hq
def CmpPost (w : World) (g cap : Nat) (ts : List Int) (e : Ending) (w' : World) : Prop :=
  ∃ c, e = .returned (.slice (some ⟨g, 0, none⟩) c.length cap) ∧ RowI w' g c.length cap c ∧ Strict c c.length ∧ (∀ x ∈ c, x ∈ ts) ∧ Only (fun k => k = g) w w'
set_option maxHeartbeats 6400000 in
theorem cmp_any (w : World) (g n cap : Nat) (c ts : List Int) (h : RowI w g n cap c) (hs : Sorted' c n) (hm : ∀ x ∈ c, x ∈ ts) (hn : n ≤ 1000) : Calls Try.prog 65 #[.slice (some ⟨g, 0, none⟩) n cap] w (CmpPost w g cap ts) := by
  have hl := h.len
  have hcap : n ≤ cap := by
    rcases h.2 with ⟨h0, _⟩ | ⟨_, _, _, h0, _, _, hc, _⟩
    · cases h0
    · injection h0 with _ _ h2; omega
  have H := Lib.hid h; have HS := Lib.hid hs; have HM := Lib.hid hm
  have HL := Lib.hid hl
  clear h hs hm
  unfold CmpPost
  by_cases h2 : n < 2
  · have h2' : (n : Int) < 2 := by omega
    go_enter Try.func65, Try.ntmps65
    go_wp2_with fail
    go_ret
    exact ⟨c, by rw [HL.out]; rfl, by rw [HL.out]; exact H.out, fun p q hpq hq => by have := HL.out; omega, HM.out, Only.refl _ _⟩
  have h2' : ¬ (n : Int) < 2 := by omega
  go_enter Try.func65, Try.ntmps65
  go_wp2_with fail
  go_loopw [3] (fun i wr => ∃ k : Nat, i = .int .i64 k ∧ 1 ≤ k ∧ k ≤ n ∧ Strict c k ∧ RowI wr g n cap c ∧ Only (fun k => k = g) w wr) (fun i _ => n - (intOf i).toNat)
  case atStart => exact ⟨1, rfl, Nat.le_refl _, by omega, strict_one c, H.out, Only.refl _ _⟩
  case round =>
    obtain ⟨k, rfl, hk1, hk, hSt, hR, hO⟩ := hrel
    have HST := Lib.hid hSt; have HR := Lib.hid hR; have HO := Lib.hid hO
    clear hSt hR hO
    by_cases hlt : k < n
    · obtain ⟨r, hr⟩ : ∃ r, k = r + 1 := ⟨k - 1, by omega⟩
      have hrn : r < n := by omega
      have e0 := HR.out.cell hlt
      have e1 := HR.out.cell hrn
      have hwq : IntKind.i64.wrap ((k : Int) - 1) = (r : Int) := by rw [IntKind.wrap_i64]; omega
      have hw1 : IntKind.i64.wrap ((k : Int) + 1) = (k : Int) + 1 := by rw [IntKind.wrap_i64]; omega
      have hlt' : (k : Int) < n := by omega
      have hrn' : (r : Int) < n := by omega
      have hcs := HS.out r k (by omega) hlt
      obtain ⟨x, hx⟩ : ∃ x, c.getD k 0 = x := ⟨_, rfl⟩
      obtain ⟨y, hy⟩ : ∃ y, c.getD r 0 = y := ⟨_, rfl⟩
      rw [hx] at e0 hcs; rw [hy] at e1 hcs
      have HXY := Lib.hid (And.intro hx hy)
      have HRK := Lib.hid hr
      clear hx hy hr
      cases hxy : (x == y)
      · have HS2 := Lib.hid (show Strict c (k + 1) from strict_snoc (by omega) HST.out (by
          rw [show k - 1 = r by have := HRK.out; omega, HXY.out.1, HXY.out.2]
          have : ¬ x = y := by simpa using hxy
          omega))
        go_wp2_with fail
        go_quiet (fail)
        go_wp2_with fail
        exact ⟨⟨k + 1, by go_num, by omega, by omega, HS2.out, HR.out.below (below_drewN (Below.refl _ _) _), HO.out.drewN _⟩, by simp [intOf]; omega⟩
      · have hxe : x = y := by simpa using hxy
        subst hxe
        have hkc : (k : Int) ≤ cap := by omega
        have hkn : (k : Int) ≤ n := by omega
        go_wp2_with fail
        go_quiet (fail)
        go_wp2_with fail
        obtain ⟨K, hK⟩ : ∃ K, K = k := ⟨k, rfl⟩
        obtain ⟨wo, rfl⟩ : ∃ wo, wo = wr := ⟨wr, rfl⟩
        have HKR := Lib.hid (show c.getD (K - 1) 0 = c.getD K 0 from by
          rw [show K - 1 = r by have := HRK.out; omega, hK, HXY.out.1, HXY.out.2])
        rw [← hK] at HST hkc hkn hlt hk1 hlt' ⊢
        clear hK e0 e1 hwq hw1 hrn' hcs HRK HXY hk
        go_loopw [3, 5] (fun s3 s5 wr => ∃ (i q : Nat) (d : List Int), s3 = .int .i64 i ∧ s5 = .int .i64 q ∧ 1 ≤ q ∧ q ≤ n - K ∧ K ≤ i ∧ i + 1 ≤ K + q ∧ Strict d i ∧ d.getD (i - 1) 0 = c.getD (K + q - 1) 0 ∧ (∀ p, K + q - 1 ≤ p → d.getD p 0 = c.getD p 0) ∧ (∀ x ∈ d, x ∈ ts) ∧ RowI wr g n cap d ∧ Only (fun k => k = g) w wr) (fun _ q _ => n - (intOf q).toNat)
        case atStart => exact ⟨K, 1, c, rfl, rfl, Nat.le_refl _, by omega, Nat.le_refl _, Nat.le_refl _, HST.out, HKR.out, fun p _ => rfl, HM.out, HR.out.below (below_drewN (Below.refl _ _) _), HO.out.drewN _⟩
        case round =>
          obtain ⟨i, q, d, rfl, rfl, hq1, hq, hKi, hiq, hSd, hdl, hdp, hMd, hRd, hOd⟩ := hrel
          have HSd := Lib.hid hSd; have HDL := Lib.hid hdl; have HDP := Lib.hid hdp; have HMd := Lib.hid hMd; have HRd := Lib.hid hRd; have HOd := Lib.hid hOd
          clear hSd hdl hdp hMd hRd hOd
          by_cases hqn : q < n - K
          · obtain ⟨r2, hr2⟩ : ∃ r2, q = r2 + 1 := ⟨q - 1, by omega⟩
            have hm : K + q < n := by omega
            have hin : i < n := by omega
            have e0 := HRd.out.cell hm
            have e1 := HRd.out.cell (show K + r2 < n by omega)
            have ei := HRd.out.cell hin
            have fi := HRd.out.free i
            rw [HDP.out (K + q) (by omega)] at e0
            rw [HDP.out (K + r2) (by omega)] at e1
            have hcs := HS.out (K + r2) (K + q) (by omega) hm
            have hwq : IntKind.i64.wrap ((q : Int) - 1) = (r2 : Int) := by rw [IntKind.wrap_i64]; omega
            have hw1 : IntKind.i64.wrap ((q : Int) + 1) = (q : Int) + 1 := by rw [IntKind.wrap_i64]; omega
            have hwi : IntKind.i64.wrap ((i : Int) + 1) = (i : Int) + 1 := by rw [IntKind.wrap_i64]; omega
            have hqn' : (q : Int) < ((n - K : Nat) : Int) := by omega
            have hr2n' : (r2 : Int) < ((n - K : Nat) : Int) := by omega
            have hr2n : r2 < n - K := by omega
            have hin' : (i : Int) < n := by omega
            obtain ⟨x2, hx⟩ : ∃ x2, c.getD (K + q) 0 = x2 := ⟨_, rfl⟩
            obtain ⟨y2, hy⟩ : ∃ y2, c.getD (K + r2) 0 = y2 := ⟨_, rfl⟩
            obtain ⟨z2, hz⟩ : ∃ z2, d.getD i 0 = z2 := ⟨_, rfl⟩
            rw [hx] at e0 hcs; rw [hy] at e1 hcs; rw [hz] at ei
            have HXY := Lib.hid (And.intro hx hy)
            have HR2 := Lib.hid hr2
            have hKr : K + q - 1 = K + r2 := by omega
            have hdl2 := HDL.out
            rw [hKr, hy] at hdl2
            have HDL2 := Lib.hid hdl2
            clear hx hy hz hr2 hKr hdl2
            cases hxy : (x2 == y2)
            · have hne : (x2 != y2) = true := by simp only [bne, hxy]; rfl
              have hdlen : i < d.length := by rw [HRd.out.len]; exact hin
              have HSN := Lib.hid (show Strict (d.set i x2) (i + 1) from strict_set hdlen (by omega) HSd.out (by
                rw [HDL2.out]
                have : ¬ x2 = y2 := by simpa using hxy
                omega))
              have HDN := Lib.hid (show (d.set i x2).getD (i + 1 - 1) 0 = c.getD (K + (q + 1) - 1) 0 from by
                rw [show i + 1 - 1 = i by omega, getD_set _ _ _ _ hdlen, if_pos rfl, show K + (q + 1) - 1 = K + q by omega, HXY.out.1])
              have HPN := Lib.hid (show ∀ p, K + (q + 1) - 1 ≤ p → (d.set i x2).getD p 0 = c.getD p 0 from fun p hp => by
                rw [getD_set _ _ _ _ hdlen, if_neg (by omega)]
                exact HDP.out p (by omega))
              have HMN := Lib.hid (show ∀ x ∈ d.set i x2, x ∈ ts from fun x hx => by
                rcases List.mem_or_eq_of_mem_set hx with hx | rfl
                · exact HMd.out x hx
                · have := HM.out _ (getD_mem (c := c) (i := K + q) (by rw [HL.out]; exact hm))
                  rwa [HXY.out.1] at this)
              go_wp2_with fail
              go_quiet (fail)
              go_wp2_with fail
              exact ⟨⟨i + 1, q + 1, d.set i x2, by go_num, by go_num, by omega, by omega, by omega, by omega, HSN.out, HDN.out, HPN.out, HMN.out, (HRd.out.below (below_drewN (Below.refl _ _) _)).set hin x2, (HOd.out.drewN _).setCell (p := ⟨g, i, none⟩) (.inr rfl) _⟩, by simp [intOf]; omega⟩
            · have hne : (x2 != y2) = false := by simp only [bne, hxy]; rfl
              have HDN := Lib.hid (show d.getD (i - 1) 0 = c.getD (K + (q + 1) - 1) 0 from by
                rw [HDL2.out, show K + (q + 1) - 1 = K + q by omega, HXY.out.1]
                have : x2 = y2 := by simpa using hxy
                exact this.symm)
              have HPN := Lib.hid (show ∀ p, K + (q + 1) - 1 ≤ p → d.getD p 0 = c.getD p 0 from fun p hp => HDP.out p (by omega))
              go_wp2_with fail
              go_quiet (fail)
              go_wp2_with fail
              exact ⟨⟨i, q + 1, d, rfl, by go_num, by omega, by omega, by omega, by omega, HSd.out, HDN.out, HPN.out, HMd.out, HRd.out.below (below_drewN (Below.refl _ _) _), HOd.out.drewN _⟩, by simp [intOf]; omega⟩
          · obtain rfl : q = n - K := by omega
            have hin : i < n := by omega
            have hcl : ∀ ty, (Builtin.clear_ #[24] ty #[.slice (some ⟨g, 0 + i, none⟩) (n - i) (cap - i)]).run Try.prog wr = .ok (.tuple #[]) (wr.setCells g (0 + i) (List.replicate (n - i) (.int .i64 0))) :=
              fun ty => Lib.run_clear_slice wr _ _ ty _ Try.underlying24 zeroI rfl rfl g (0 + i) _ _ (by omega) (fun p hp => by
                rw [Nat.zero_add, HRd.out.cell (i := i + p) (by omega)]
                rfl) (fun p hp => HRd.out.free _)
            simp only [Nat.zero_add] at hcl
            have hini : (i : Int) ≤ n := by omega
            have hic : (i : Int) ≤ cap := by omega
            go_wp2_with fail
            go_ret
            have hdl := HRd.out.len
            have htl : (d.take i).length = i := by rw [List.length_take]; omega
            have hrow := row_setCells (List.replicate (n - i) (Value.int .i64 0)) i wr _ HRd.out (by rw [List.length_replicate]; omega)
            have hshr := row_shrink hrow (i := i) (by omega)
            rw [Nat.mul_one, setL_take _ _ _ (by rw [List.length_replicate, List.length_map]; omega), ← List.map_take] at hshr
            refine ⟨d.take i, by rw [htl]; rfl, by rw [htl]; exact hshr, ?_, fun x hx => HMd.out x (List.mem_of_mem_take hx), only_setCells (S := fun k => k = g) (.inr rfl) _ _ _ HOd.out⟩
            exact strict_take (by omega) HSd.out
    · obtain rfl : k = n := by omega
      go_wp2_with fail
      go_ret
      exact ⟨c, by rw [HL.out]; rfl, by rw [HL.out]; exact HR.out, by rw [HL.out]; exact HST.out, HM.out, HO.out⟩
theorem cmp_nil (w : World) : Calls Try.prog 65 #[.slice none 0 0] w fun e w' => e = .returned (.slice none 0 0) ∧ w = w' := by
  go_enter Try.func65, Try.ntmps65
  go_wp2_with fail
  go_ret
  exact ⟨rfl, rfl⟩
def CmpRow (w : World) (v : Value) (ts : List Int) (e : Ending) (w' : World) : Prop :=
  ∃ a cap c, e = .returned (.slice a c.length cap) ∧ w'.ownsRow 0 3 1 (.slice a c.length cap) c.length (c.map fun t => .int .i64 t) ∧ Strict c c.length ∧ (∀ x ∈ c, x ∈ ts) ∧ Only (fun k => v.ownBlock = some k) w w' ∧ (Value.slice a c.length cap).ownBlock = v.ownBlock
theorem cmp_row (w : World) (v : Value) (n : Nat) (c ts : List Int) (h : w.ownsRow 0 3 1 v n (c.map fun t => .int .i64 t)) (hs : Sorted' c n) (hm : ∀ x ∈ c, x ∈ ts) (hn : n ≤ 1000) : Calls Try.prog 65 #[v] w (CmpRow w v ts) := by
  rcases h.2 with ⟨rfl, rfl⟩ | ⟨g, cap, cur, rfl, _⟩
  · refine (cmp_nil w).mono ?_
    rintro e w' ⟨rfl, rfl⟩
    exact ⟨none, 0, [], rfl, World.ownsRow_nil _ _ _ _, (fun p q hpq hq => absurd hq (by simp)), (fun x hx => absurd hx (by simp)), Only.refl _ _, rfl⟩
  · refine (cmp_any w g n cap c ts h hs hm hn).mono ?_
    rintro e w' ⟨d, rfl, h1, h2, h3, h4⟩
    exact ⟨_, _, d, rfl, h1, h2, h3, h4.mono fun k _ e => by subst e; rfl, rfl⟩
end Go.Proofs.Ytganmdbhmihjpaa.Tgu
