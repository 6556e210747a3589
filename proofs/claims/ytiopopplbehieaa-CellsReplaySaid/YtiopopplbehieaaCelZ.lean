/- Replay and Last of the other side. -/
import Derived.Test.YtiopopplbehieaaCelY
import Derived.Laws.StructEq
namespace Go.Proofs.Ytiopopplbehieaa.Cel
open Go.RowKit
set_option linter.unusedSimpArgs false
set_option linter.unusedVariables false

theorem rreplay_any (w : World) (n : Int) (a : Option Addr) (len cap : Nat) (ds : List Dn) (h : Dones w a len ds) (hl : len ≤ 900) : Calls Try.prog 23 #[.int .i64 n, .slice a len cap] w (ReplayPost w n ds) := by
  have HD := Lib.hid h
  clear h
  go_enter Try.func23, Try.ntmps23
  go_wp2_with fail
  refine (rnew_any w n).mono ?_
  rintro e w1 ⟨l1, ⟨hn, rfl⟩ | ⟨hn, rfl, hc⟩⟩
  · go_wp2_with fail
    go_ret2
    refine ⟨.slice none 0 0, ?_, ?_, l1⟩
    · rw [repV, if_pos hn]
      rfl
    · rw [repV, if_pos hn]
      exact World.ownsRow_nil _ _ _ _
  · have hW : Way w w1 71 (w.heap.size + 1) n ds 0 (Grow (fun _ => False) w w1) (zeros n) :=
      ⟨hc, ⟨by simp [zeros, U64], by simp [zeros]; omega, by simp [zeros]⟩, by simp [zeros], by simp [zeros]; omega, by simp [rep], grow_lo (fun _ h => h.elim) (Nat.le_refl _), l1⟩
    have HW := Lib.hid hW
    have HN := Lib.hid hn
    clear hW hc l1 hn
    generalize w.heap.size + 1 = c at *
    go_wp2_with fail
    go_loopw [7] (fun i wr => ∃ (k : Nat) (F : Nat → Prop) (s : CSt), i = .int .i64 k ∧ k ≤ len ∧ Way w wr 71 c n ds k F s) (fun i _ => len - (intOf i).toNat)
    case atStart => exact ⟨0, _, _, rfl, Nat.zero_le _, HW.out⟩
    case round =>
      obtain ⟨k, F, s, rfl, hk, hR⟩ := hrel
      have H := Lib.hid hR; clear hR HW
      have hnr : ¬ (n < 1 ∨ 32 < n) := by have := HN.out; omega
      by_cases hlt : k < len
      · obtain ⟨d, hd⟩ : ∃ d, ds[k]? = some d := ⟨ds[k]'(by rw [HD.out.1]; exact hlt), List.getElem?_eq_getElem _⟩
        obtain ⟨b, off, rfl, hc⟩ := HD.out.2.2.resolve_left (by omega)
        have hfit : d.o.Fit := HD.out.2.1 d (List.mem_of_getElem? hd)
        obtain ⟨c0, c1, c2, c3, c4, c5⟩ := hc k d hd
        have c0w := c0
        replace c0 := bkeep H.out.lo c0; replace c1 := bkeep H.out.lo c1; replace c2 := bkeep H.out.lo c2; replace c3 := bkeep H.out.lo c3; replace c4 := bkeep H.out.lo c4; replace c5 := bkeep H.out.lo c5
        have hspl := split_at ds k d hd
        have hbad : ¬ (s.doE d.o = 0 ∧ s.doD d.o = d) → (repV n ds) = (3, []) := by
          intro hx
          rw [repV, if_neg hnr]
          rw [hspl, rep_bad H.out.at' hx]
        have hgood : s.doE d.o = 0 ∧ s.doD d.o = d → rep (zeros n) (ds.take (k + 1)) = some (s.doS d.o) := by
          intro hx
          rw [List.take_add_one, hd]
          exact rep_snoc H.out.at' hx
        have HBAD := Lib.hid hbad; have HGOOD := Lib.hid hgood; have HFIT := Lib.hid hfit
        clear hc hd hspl hbad hgood hfit
        have hbw0 : b < w.heap.size := World.block_lt_of_cell? w _ c0w
        have hnb : ¬ F b := fun h => by have := H.out.f _ h; omega
        by_cases hE : s.doE d.o = 0
        · obtain ⟨gw, gok, hg⟩ : ∃ gw gok, s.doD d.o = ⟨d.o, gw, gok⟩ := ⟨_, _, by rw [CSt.doD, if_pos hE]⟩
          have HG := Lib.hid hg; have HE := Lib.hid hE; clear hg hE
          go_wp2_with fail
          refine (rdo_to H.out.inv (by have := H.out.log; omega) H.out.c d.o HFIT.out HE.out HG.out rfl).mono ?_
          rintro e w3 ⟨rfl, h3, o3⟩
          replace c0 := o3.cell c0 hnb; replace c1 := o3.cell c1 hnb; replace c2 := o3.cell c2 hnb; replace c3 := o3.cell c3 hnb; replace c4 := o3.cell c4 hnb; replace c5 := o3.cell c5 hnb
          have L3 := Lib.hid (H.out.lo.trans (o3.lo H.out.f H.out.lo.size))
          have F3 := Lib.hid (grow_lo (w := wr) (w' := w3) H.out.f H.out.lo.size)
          have H3 := Lib.hid h3
          have hI3 := Lib.hid (inv_do H.out.inv (by have := H.out.log; omega) HFIT.out)
          have hlen3 := Lib.hid (doS_len s d.o)
          have hlog := H.out.log
          have hws := Lib.hid H.out.ws
          have lb : Below w3.heap.size w3 (w3.alloc (.cells #[.int .u8 d.o.k, .int .i64 d.o.c, .int .u64 d.o.a, .int .u64 d.o.b, .int .u64 gw, .bool gok] 37)) := by repeat (first | (with_reducible exact Below.refl _ _) | (with_reducible apply Below.drew) | (with_reducible refine below_drewN ?_ _) | (with_reducible refine below_alloc' ?_ ?_ _; (focus ((try simp) <;> omega))) | (with_reducible refine below_set' ?_ ?_ _; (focus ((try simp) <;> omega))))
          have hbk := blk_new w3 (.cells #[.int .u8 d.o.k, .int .i64 d.o.c, .int .u64 d.o.a, .int .u64 d.o.b, .int .u64 gw, .bool gok] 37)
          have x0 := blk_cell hbk 0; have x1 := blk_cell hbk 1; have x2 := blk_cell hbk 2; have x3 := blk_cell hbk 3; have x4 := blk_cell hbk 4; have x5 := blk_cell hbk 5
          simp only [List.getElem?_toArray, List.getElem?_cons_zero, List.getElem?_cons_succ] at x0 x1 x2 x3 x4 x5
          replace c0 := bkeep lb c0; replace c1 := bkeep lb c1; replace c2 := bkeep lb c2; replace c3 := bkeep lb c3; replace c4 := bkeep lb c4; replace c5 := bkeep lb c5
          have LB := Lib.hid lb
          clear h3 o3 hbk lb hnb c0w
          go_wp2_with fail
          generalize w3.alloc (.cells #[.int .u8 d.o.k, .int .i64 d.o.c, .int .u64 d.o.a, .int .u64 d.o.b, .int .u64 gw, .bool gok] 37) = w4 at *
          by_cases hw : gw = d.w
          · by_cases hok : gok = d.ok
            · subst hw hok
              have hgd := HGOOD.out ⟨HE.out, HG.out⟩
              have HGD := Lib.hid hgd; clear hgd
              go_quiet (fail)
              go_wp2_with fail
              refine ⟨⟨k + 1, Grow F wr w3, s.doS d.o, by go_num, by omega, ?_, hI3.out, ?_, ?_, HGD.out, F3.out, ?_⟩, by simp [intOf]; omega⟩
              · exact H3.out.below (btrans LB.out (Nat.le_refl _) (by repeat (first | (with_reducible exact Below.refl _ _) | (with_reducible apply Below.drew) | (with_reducible refine below_drewN ?_ _) | (with_reducible refine below_alloc' ?_ ?_ _; (focus ((try simp) <;> omega))) | (with_reducible refine below_set' ?_ ?_ _; (focus ((try simp) <;> omega))))))
              · have := hlen3.out.2.1; omega
              · have := hlen3.out.1; have := hws.out; omega
              · exact L3.out.trans ((btrans LB.out (Nat.le_refl _) (by repeat (first | (with_reducible exact Below.refl _ _) | (with_reducible apply Below.drew) | (with_reducible refine below_drewN ?_ _) | (with_reducible refine below_alloc' ?_ ?_ _; (focus ((try simp) <;> omega))) | (with_reducible refine below_set' ?_ ?_ _; (focus ((try simp) <;> omega)))))).mono L3.out.size)
            · have hq : (gok == d.ok) = false := by simpa using hok
              have hbad := HBAD.out (fun h => hok (by have h2 := HG.out.symm.trans h.2; exact congrArg Dn.ok h2))
              have HB := Lib.hid hbad; clear hbad
              go_quiet (fail)
              go_wp2_with fail
              go_ret2
              refine ⟨.slice none 0 0, ?_, ?_, L3.out.trans ((btrans LB.out (Nat.le_refl _) (by repeat (first | (with_reducible exact Below.refl _ _) | (with_reducible apply Below.drew) | (with_reducible refine below_drewN ?_ _) | (with_reducible refine below_alloc' ?_ ?_ _; (focus ((try simp) <;> omega))) | (with_reducible refine below_set' ?_ ?_ _; (focus ((try simp) <;> omega)))))).mono L3.out.size)⟩
              · rw [HB.out]
                rfl
              · rw [HB.out]
                exact World.ownsRow_nil _ _ _ _
          · have hq : (gw == d.w) = false := by simpa using hw
            have hbad := HBAD.out (fun h => hw (by have h2 := HG.out.symm.trans h.2; exact congrArg Dn.w h2))
            have HB := Lib.hid hbad; clear hbad
            go_quiet (fail)
            go_wp2_with fail
            go_ret2
            refine ⟨.slice none 0 0, ?_, ?_, L3.out.trans ((btrans LB.out (Nat.le_refl _) (by repeat (first | (with_reducible exact Below.refl _ _) | (with_reducible apply Below.drew) | (with_reducible refine below_drewN ?_ _) | (with_reducible refine below_alloc' ?_ ?_ _; (focus ((try simp) <;> omega))) | (with_reducible refine below_set' ?_ ?_ _; (focus ((try simp) <;> omega)))))).mono L3.out.size)⟩
            · rw [HB.out]
              rfl
            · rw [HB.out]
              exact World.ownsRow_nil _ _ _ _
        · have hg : s.doD d.o = noDn := by rw [CSt.doD, if_neg hE]
          obtain ⟨ee, he⟩ : ∃ ee, s.doE d.o = ee := ⟨_, rfl⟩
          have hbad0 := HBAD.out (fun h => hE h.1)
          have hq : (ee != 0) = true := by rw [he] at hE; simpa using hE
          have HG := Lib.hid hg; have HEE := Lib.hid he; have HB0 := Lib.hid hbad0; clear hg hE he hbad0
          go_wp2_with fail
          refine (rdo_to H.out.inv (by have := H.out.log; omega) H.out.c d.o HFIT.out HEE.out HG.out rfl).mono ?_
          rintro e w3 ⟨rfl, h3, o3⟩
          have L3 := Lib.hid (H.out.lo.trans (o3.lo H.out.f H.out.lo.size))
          clear h3 o3 hnb c0 c1 c2 c3 c4 c5 c0w
          simp only [noDn]
          go_wp2_with fail
          go_quiet (fail)
          go_wp2_with fail
          go_ret2
          refine ⟨.slice none 0 0, ?_, ?_, L3.out.trans ((show Below w3.heap.size w3 _ by repeat (first | (with_reducible exact Below.refl _ _) | (with_reducible apply Below.drew) | (with_reducible refine below_drewN ?_ _) | (with_reducible refine below_alloc' ?_ ?_ _; (focus ((try simp) <;> omega))) | (with_reducible refine below_set' ?_ ?_ _; (focus ((try simp) <;> omega))))).mono L3.out.size)⟩
          · rw [HB0.out]
            rfl
          · rw [HB0.out]
            exact World.ownsRow_nil _ _ _ _
      · have hke : k = len := by omega
        subst hke
        have hall : rep (zeros n) ds = some s := by
          have := H.out.at'
          rwa [← HD.out.1, List.take_length] at this
        have hv : repV n ds = (0, s.ws) := by rw [repV, if_neg hnr, hall]
        obtain ⟨wb, wcap, v, hr, _⟩ := H.out.c
        have h0 := blk_cell hr.obj 0
        simp only [List.getElem?_toArray, List.getElem?_cons_zero] at h0
        have HV := Lib.hid hv; have HR := Lib.hid hr
        clear hall hv hr
        go_wp2_with fail
        go_ret2
        refine ⟨.slice (some ⟨wb, 0, none⟩) s.ws.length wcap, ?_, ?_, H.out.lo⟩
        · rw [HV.out]
          rfl
        · rw [HV.out]
          exact HR.out.ws


/-! ### Last -/
def Dn.hits (d : Dn) (c : Int) : Bool := d.ok && (d.o.c == c) && (d.o.k != 1)
/-- the last of the first k that changed cell c -/
def LastIs (ds : List Dn) (c : Int) (k : Nat) (a : Int) (b : Bool) : Prop :=
  (b = false ∧ a = 0 ∧ ∀ i d, i < k → ds[i]? = some d → d.hits c = false) ∨
  (b = true ∧ ∃ i : Nat, i < k ∧ a = i ∧ (∃ d, ds[i]? = some d ∧ d.hits c = true) ∧ ∀ j d, i < j → j < k → ds[j]? = some d → d.hits c = false)
theorem LastIs.unique {ds : List Dn} {c : Int} {k : Nat} {a a' : Int} {b b' : Bool} (h : LastIs ds c k a b) (h' : LastIs ds c k a' b') : a = a' ∧ b = b' := by
  rcases h with ⟨rfl, rfl, h⟩ | ⟨rfl, i, hi, rfl, ⟨d, hd, hh⟩, h⟩ <;> rcases h' with ⟨rfl, rfl, h'⟩ | ⟨rfl, i', hi', rfl, ⟨d', hd', hh'⟩, h'⟩
  · exact ⟨rfl, rfl⟩
  · rw [h i' d' hi' hd'] at hh'; cases hh'
  · rw [h' i d hi hd] at hh; cases hh
  · refine ⟨?_, rfl⟩
    rcases Nat.lt_trichotomy i i' with e | e | e
    · rw [h i' d' e hi' hd'] at hh'; cases hh'
    · rw [e]
    · rw [h' i d e hi hd] at hh; cases hh
theorem LastIs.hit {ds : List Dn} {c : Int} {k : Nat} {d : Dn} (hd : ds[k]? = some d) (hh : d.hits c = true) : LastIs ds c (k + 1) k true :=
  .inr ⟨rfl, k, by omega, rfl, ⟨d, hd, hh⟩, fun j _ h1 h2 _ => by omega⟩
theorem LastIs.miss {ds : List Dn} {c : Int} {k : Nat} {a : Int} {b : Bool} {d : Dn} (h : LastIs ds c k a b) (hd : ds[k]? = some d) (hh : d.hits c = false) : LastIs ds c (k + 1) a b := by
  rcases h with ⟨rfl, rfl, h⟩ | ⟨rfl, i, hi, rfl, hx, h⟩
  · refine .inl ⟨rfl, rfl, fun i d' hi hd' => ?_⟩
    by_cases hik : i = k
    · subst hik; rw [hd] at hd'; injection hd' with e; rw [← e]; exact hh
    · exact h i d' (by omega) hd'
  · refine .inr ⟨rfl, i, by omega, rfl, hx, fun j d' h1 h2 hd' => ?_⟩
    by_cases hik : j = k
    · subst hik; rw [hd] at hd'; injection hd' with e; rw [← e]; exact hh
    · exact h j d' h1 (by omega) hd'
def LastPost (w : World) (ds : List Dn) (c : Int) (e : Ending) (w' : World) : Prop := ∃ a b, e = .returned (.tuple #[.int .i64 a, .bool b]) ∧ LastIs ds c ds.length a b ∧ Below w.heap.size w w'
theorem rlast_any (w : World) (a : Option Addr) (len cap : Nat) (ds : List Dn) (h : Dones w a len ds) (hl : len ≤ 900) (c : Int) : Calls Try.prog 25 #[.slice a len cap, .int .i64 c] w (LastPost w ds c) := by
  have HD := Lib.hid h
  clear h
  unfold LastPost
  go_enter Try.func25, Try.ntmps25
  go_wp2_with fail
  go_loopw [6, 7, 8] (fun x y i wr => ∃ (k : Nat) (a : Int) (b : Bool), i = .int .i64 k ∧ x = .int .i64 a ∧ y = .bool b ∧ k ≤ len ∧ LastIs ds c k a b ∧ Below w.heap.size w wr) (fun _ _ i _ => len - (intOf i).toNat)
  case atStart => exact ⟨0, 0, false, rfl, rfl, rfl, Nat.zero_le _, .inl ⟨rfl, rfl, fun i d hi => by omega⟩, Below.refl _ _⟩
  case round =>
    obtain ⟨k, x, y, rfl, rfl, rfl, hk, hL, hB⟩ := hrel
    have HL := Lib.hid hL; have HB := Lib.hid hB
    clear hL hB
    by_cases hlt : k < len
    · obtain ⟨d, hd⟩ : ∃ d, ds[k]? = some d := ⟨ds[k]'(by rw [HD.out.1]; exact hlt), List.getElem?_eq_getElem _⟩
      obtain ⟨b, off, rfl, hc⟩ := HD.out.2.2.resolve_left (by omega)
      obtain ⟨c0, c1, c2, c3, c4, c5⟩ := hc k d hd
      have lb : Below wr.heap.size wr (wr.alloc (.cells #[.int .u8 d.o.k, .int .i64 d.o.c, .int .u64 d.o.a, .int .u64 d.o.b] 35)) := by repeat (first | (with_reducible exact Below.refl _ _) | (with_reducible apply Below.drew) | (with_reducible refine below_drewN ?_ _) | (with_reducible refine below_alloc' ?_ ?_ _; (focus ((try simp) <;> omega))) | (with_reducible refine below_set' ?_ ?_ _; (focus ((try simp) <;> omega))))
      replace c0 := bkeep HB.out c0; replace c1 := bkeep HB.out c1; replace c2 := bkeep HB.out c2; replace c3 := bkeep HB.out c3; replace c5 := bkeep lb (bkeep HB.out c5)
      have hits : d.hits c = (d.ok && (d.o.c == c) && (d.o.k != 1)) := rfl
      have HN := Lib.hid (btrans HB.out (Nat.le_refl _) lb)
      have HHIT := Lib.hid (show d.hits c = true → LastIs ds c (k + 1) k true from fun h => LastIs.hit hd h)
      have HMISS := Lib.hid (show d.hits c = false → LastIs ds c (k + 1) x y from fun h => HL.out.miss hd h)
      clear hc hd c4 lb
      cases h1 : d.ok <;> cases h2 : (d.o.c == c) <;> cases h3 : (d.o.k != 1) <;> rw [h1, h2, h3] at hits <;> rw [h1] at c5
      all_goals
        go_wp2_with fail
        first
          | exact ⟨⟨k + 1, _, _, by go_num, rfl, rfl, by omega, HMISS.out hits, HN.out⟩, by simp [intOf]; omega⟩
          | exact ⟨⟨k + 1, _, _, by go_num, rfl, rfl, by omega, HHIT.out hits, HN.out⟩, by simp [intOf]; omega⟩
    · have hke : k = len := by omega
      subst hke
      go_wp2_with fail
      go_ret2
      exact ⟨x, y, rfl, by rw [HD.out.1]; exact HL.out, HB.out⟩
end Go.Proofs.Ytiopopplbehieaa.Cel
