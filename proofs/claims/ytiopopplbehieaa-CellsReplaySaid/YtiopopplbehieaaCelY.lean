/- Replay and Right of both. -/
import Derived.Test.YtiopopplbehieaaCelP
namespace Go.Proofs.Ytiopopplbehieaa.Cel
open Go.RowKit
set_option linter.unusedSimpArgs false
set_option linter.unusedVariables false

/-- the state that a log leaves, if it can have been -/
def rep (s : CSt) : List Dn → Option CSt
  | [] => some s
  | d :: l => if s.doE d.o = 0 ∧ s.doD d.o = d then rep (s.doS d.o) l else none
theorem rep_append (s : CSt) (l m : List Dn) : rep s (l ++ m) = (rep s l).bind fun s' => rep s' m := by
  induction l generalizing s with
  | nil => rfl
  | cons d l ih =>
    simp only [List.cons_append, rep]
    split
    · exact ih _
    · rfl
theorem rep_snoc {s s' : CSt} {l : List Dn} {d : Dn} (h : rep s l = some s') (hd : s'.doE d.o = 0 ∧ s'.doD d.o = d) : rep s (l ++ [d]) = some (s'.doS d.o) := by
  rw [rep_append, h]
  simp [rep, hd]
theorem rep_bad {s s' : CSt} {l m : List Dn} {d : Dn} (h : rep s l = some s') (hd : ¬ (s'.doE d.o = 0 ∧ s'.doD d.o = d)) : rep s (l ++ d :: m) = none := by
  rw [rep_append, h]
  simp only [Option.bind_some, rep, if_neg hd]
theorem split_at {α : Type} (l : List α) (k : Nat) (d : α) (h : l[k]? = some d) : l = l.take k ++ d :: l.drop (k + 1) := by
  induction l generalizing k with
  | nil => simp at h
  | cons x l ih =>
    cases k with
    | zero => simp at h; simp [h]
    | succ k => simpa using ih k (by simpa using h)
def zeros (n : Int) : CSt := ⟨List.replicate n.toNat 0, []⟩
def repV (n : Int) (ds : List Dn) : Int × List Int :=
  if n < 1 ∨ 32 < n then (2, []) else match rep (zeros n) ds with
    | none => (3, [])
    | some s => (0, s.ws)

/-- a slice of what was done, as it is read -/
def Dones (w : World) (a : Option Addr) (len : Nat) (ds : List Dn) : Prop :=
  ds.length = len ∧ (∀ d ∈ ds, d.o.Fit) ∧ (len = 0 ∨ ∃ b off, a = some ⟨b, off, none⟩ ∧ ∀ (i : Nat) d, ds[i]? = some d →
    w.cell? ⟨b, off + i * 6, none⟩ = some (.int .u8 d.o.k) ∧ w.cell? ⟨b, off + i * 6 + 1, none⟩ = some (.int .i64 d.o.c) ∧ w.cell? ⟨b, off + i * 6 + 2, none⟩ = some (.int .u64 d.o.a) ∧
    w.cell? ⟨b, off + i * 6 + 3, none⟩ = some (.int .u64 d.o.b) ∧ w.cell? ⟨b, off + i * 6 + 4, none⟩ = some (.int .u64 d.w) ∧ w.cell? ⟨b, off + i * 6 + 5, none⟩ = some (.bool d.ok))
theorem Dones.below {w w' : World} {a : Option Addr} {len : Nat} {ds : List Dn} (h : Dones w a len ds) (hb : Below w.heap.size w w') : Dones w' a len ds := by
  refine ⟨h.1, h.2.1, h.2.2.imp id ?_⟩
  rintro ⟨b, off, rfl, hc⟩
  refine ⟨b, off, rfl, fun i d hi => ?_⟩
  obtain ⟨c0, c1, c2, c3, c4, c5⟩ := hc i d hi
  exact ⟨bkeep hb c0, bkeep hb c1, bkeep hb c2, bkeep hb c3, bkeep hb c4, bkeep hb c5⟩

def ReplayPost (w : World) (n : Int) (ds : List Dn) (e : Ending) (w' : World) : Prop :=
  ∃ v, e = .returned (.tuple #[v, .int .i64 (repV n ds).1]) ∧ w'.ownsRow 0 23 1 v (repV n ds).2.length (wordVals (repV n ds).2) ∧ Below w.heap.size w w'
/-- on the way through the log -/
structure Way (w wr : World) (T : TypeId) (c : Nat) (n : Int) (ds : List Dn) (k : Nat) (F : Nat → Prop) (s : CSt) : Prop where
  c : CellsAt T wr c F s
  inv : s.Inv
  log : s.log.length ≤ k
  ws : s.ws.length ≤ 32
  at' : rep (zeros n) (ds.take k) = some s
  f : ∀ i, F i → w.heap.size ≤ i
  lo : Below w.heap.size w wr

theorem replay_any (w : World) (n : Int) (a : Option Addr) (len cap : Nat) (ds : List Dn) (h : Dones w a len ds) (hl : len ≤ 900) : Calls Try.prog 22 #[.int .i64 n, .slice a len cap] w (ReplayPost w n ds) := by
  have HD := Lib.hid h
  clear h
  go_enter Try.func22, Try.ntmps22
  go_wp2_with fail
  refine (new_any w n).mono ?_
  rintro e w1 ⟨l1, ⟨hn, rfl⟩ | ⟨hn, rfl, hc⟩⟩
  · go_wp2_with fail
    go_ret2
    refine ⟨.slice none 0 0, ?_, ?_, l1⟩
    · rw [repV, if_pos hn]
      rfl
    · rw [repV, if_pos hn]
      exact World.ownsRow_nil _ _ _ _
  · have hW : Way w w1 66 (w.heap.size + 1) n ds 0 (Grow (fun _ => False) w w1) (zeros n) :=
      ⟨hc, ⟨by simp [zeros, U64], by simp [zeros]; omega, by simp [zeros]⟩, by simp [zeros], by simp [zeros]; omega, by simp [rep], grow_lo (fun _ h => h.elim) (Nat.le_refl _), l1⟩
    have HW := Lib.hid hW
    have HN := Lib.hid hn
    clear hW hc l1 hn
    generalize w.heap.size + 1 = c at *
    go_wp2_with fail
    go_loopw [17] (fun i wr => ∃ (k : Nat) (F : Nat → Prop) (s : CSt), i = .int .i64 k ∧ k ≤ len ∧ Way w wr 66 c n ds k F s) (fun i _ => len - (intOf i).toNat)
    case atStart => exact ⟨0, _, _, rfl, Nat.zero_le _, HW.out⟩
    case round =>
      obtain ⟨k, F, s, rfl, hk, hR⟩ := hrel
      have H := Lib.hid hR; clear hR HW
      have hnr : ¬ (n < 1 ∨ 32 < n) := by have := HN.out; omega
      by_cases hlt : k < len
      · obtain ⟨d, hd⟩ : ∃ d, ds[k]? = some d := ⟨ds[k]'(by rw [HD.out.1]; exact hlt), List.getElem?_eq_getElem _⟩
        obtain ⟨b, off, rfl, hc⟩ := HD.out.2.2.resolve_left (by omega)
        have hfit : d.o.Fit := HD.out.2.1 d (List.mem_of_getElem? hd)
        obtain ⟨c0, c1, c2, c3, c4, c5⟩ := hc k d hd
        replace c0 := bkeep H.out.lo c0; replace c1 := bkeep H.out.lo c1; replace c2 := bkeep H.out.lo c2; replace c3 := bkeep H.out.lo c3; replace c4 := bkeep H.out.lo c4; replace c5 := bkeep H.out.lo c5
        have hspl := split_at ds k d hd
        have hbad : ¬ (s.doE d.o = 0 ∧ s.doD d.o = d) → (repV n ds) = (3, []) := by
          intro hx
          rw [repV, if_neg hnr]
          rw [hspl, rep_bad H.out.at' hx]
        have hgood : s.doE d.o = 0 ∧ s.doD d.o = d → rep (zeros n) (ds.take (k + 1)) = some (s.doS d.o) := by
          intro hx
          rw [List.take_add_one, hd]
          exact rep_snoc H.out.at' hx
        have HBAD := Lib.hid hbad; have HGOOD := Lib.hid hgood; have HFIT := Lib.hid hfit
        clear hc hd hspl hbad hgood hfit
        go_wp2_with fail
        have hbx := blk_new wr (.cells #[.int .u8 d.o.k, .int .i64 d.o.c, .int .u64 d.o.a, .int .u64 d.o.b, .int .u64 d.w, .bool d.ok] 37)
        have lx : Below wr.heap.size wr (wr.alloc (.cells #[.int .u8 d.o.k, .int .i64 d.o.c, .int .u64 d.o.a, .int .u64 d.o.b, .int .u64 d.w, .bool d.ok] 37)) := by repeat (first | (with_reducible exact Below.refl _ _) | (with_reducible apply Below.drew) | (with_reducible refine below_drewN ?_ _) | (with_reducible refine below_alloc' ?_ ?_ _; (focus ((try simp) <;> omega))) | (with_reducible refine below_set' ?_ ?_ _; (focus ((try simp) <;> omega))))
        have sx : (wr.alloc (.cells #[.int .u8 d.o.k, .int .i64 d.o.c, .int .u64 d.o.a, .int .u64 d.o.b, .int .u64 d.w, .bool d.ok] 37)).heap.size = wr.heap.size + 1 := by simp
        generalize wr.alloc (.cells #[.int .u8 d.o.k, .int .i64 d.o.c, .int .u64 d.o.a, .int .u64 d.o.b, .int .u64 d.w, .bool d.ok] 37) = w2 at *
        have hc2 := Lib.hid (H.out.c.below lx)
        have l2 := Lib.hid (H.out.lo.trans (lx.mono H.out.lo.size))
        have hnb : ¬ F wr.heap.size := fun h => by have := H.out.c.within _ h; omega
        by_cases hE : s.doE d.o = 0
        · obtain ⟨gw, gok, hg⟩ : ∃ gw gok, s.doD d.o = ⟨d.o, gw, gok⟩ := ⟨_, _, by rw [CSt.doD, if_pos hE]⟩
          have HG := Lib.hid hg; have HE := Lib.hid hE; clear hg hE
          refine (do_to H.out.inv (by have := H.out.log; omega) hc2.out d.o HFIT.out HE.out HG.out rfl).mono ?_
          rintro e w3 ⟨rfl, h3, o3⟩
          have hb3 := o3.blk hbx hnb
          have hlt3 := blk_lt hb3
          have hne3 : wr.heap.size ≠ w3.heap.size := by omega
          have x0 := blk_cell hb3 0; have x1 := blk_cell hb3 1; have x2 := blk_cell hb3 2; have x3 := blk_cell hb3 3; have x4 := blk_cell hb3 4; have x5 := blk_cell hb3 5
          simp only [List.getElem?_toArray, List.getElem?_cons_zero, List.getElem?_cons_succ] at x0 x1 x2 x3 x4 x5
          have L3 := Lib.hid (l2.out.trans (o3.lo H.out.f l2.out.size))
          have F3 := Lib.hid (grow_lo (w := w2) (w' := w3) H.out.f l2.out.size)
          have H3 := Lib.hid h3
          have hI3 := Lib.hid (inv_do H.out.inv (by have := H.out.log; omega) HFIT.out)
          have hlen3 := Lib.hid (doS_len s d.o)
          have hlog := H.out.log
          have hws := Lib.hid H.out.ws
          clear h3 o3 hb3 c0 c1 c2 c3 c4 c5 hbx lx sx hc2 l2 hnb
          by_cases hw : gw = d.w
          · by_cases hok : gok = d.ok
            · subst hw hok
              have hgd := HGOOD.out ⟨HE.out, HG.out⟩
              have HGD := Lib.hid hgd; clear hgd
              go_wp2_with fail
              refine ⟨⟨k + 1, Grow F w2 w3, s.doS d.o, by go_num, by omega, ?_, hI3.out, ?_, ?_, HGD.out, F3.out, ?_⟩, by simp [intOf]; omega⟩
              · exact H3.out.below (by repeat (first | (with_reducible exact Below.refl _ _) | (with_reducible apply Below.drew) | (with_reducible refine below_drewN ?_ _) | (with_reducible refine below_alloc' ?_ ?_ _; (focus ((try simp) <;> omega))) | (with_reducible refine below_set' ?_ ?_ _; (focus ((try simp) <;> omega)))))
              · have := hlen3.out.2.1; omega
              · have := hlen3.out.1; have := hws.out; omega
              · exact L3.out.trans ((show Below w3.heap.size w3 _ by repeat (first | (with_reducible exact Below.refl _ _) | (with_reducible apply Below.drew) | (with_reducible refine below_drewN ?_ _) | (with_reducible refine below_alloc' ?_ ?_ _; (focus ((try simp) <;> omega))) | (with_reducible refine below_set' ?_ ?_ _; (focus ((try simp) <;> omega))))).mono L3.out.size)
            · have hq : (gok == d.ok) = false := by simpa using hok
              have hbad := HBAD.out (fun h => hok (by have h2 := HG.out.symm.trans h.2; exact congrArg Dn.ok h2))
              have HB := Lib.hid hbad; clear hbad
              go_wp2_with fail
              go_ret2
              refine ⟨.slice none 0 0, ?_, ?_, L3.out.trans ((show Below w3.heap.size w3 _ by repeat (first | (with_reducible exact Below.refl _ _) | (with_reducible apply Below.drew) | (with_reducible refine below_drewN ?_ _) | (with_reducible refine below_alloc' ?_ ?_ _; (focus ((try simp) <;> omega))) | (with_reducible refine below_set' ?_ ?_ _; (focus ((try simp) <;> omega))))).mono L3.out.size)⟩
              · rw [HB.out]
                rfl
              · rw [HB.out]
                exact World.ownsRow_nil _ _ _ _
          · have hq : (gw == d.w) = false := by simpa using hw
            have hbad := HBAD.out (fun h => hw (by have h2 := HG.out.symm.trans h.2; exact congrArg Dn.w h2))
            have HB := Lib.hid hbad; clear hbad
            go_wp2_with fail
            go_ret2
            refine ⟨.slice none 0 0, ?_, ?_, L3.out.trans ((show Below w3.heap.size w3 _ by repeat (first | (with_reducible exact Below.refl _ _) | (with_reducible apply Below.drew) | (with_reducible refine below_drewN ?_ _) | (with_reducible refine below_alloc' ?_ ?_ _; (focus ((try simp) <;> omega))) | (with_reducible refine below_set' ?_ ?_ _; (focus ((try simp) <;> omega))))).mono L3.out.size)⟩
            · rw [HB.out]
              rfl
            · rw [HB.out]
              exact World.ownsRow_nil _ _ _ _
        · have hg : s.doD d.o = noDn := by rw [CSt.doD, if_neg hE]
          obtain ⟨ee, he⟩ : ∃ ee, s.doE d.o = ee := ⟨_, rfl⟩
          have hbad0 := HBAD.out (fun h => hE h.1)
          have hq : (ee != 0) = true := by rw [he] at hE; simpa using hE
          have HG := Lib.hid hg; have HEE := Lib.hid he; have HB0 := Lib.hid hbad0; clear hg hE he hbad0
          refine (do_to H.out.inv (by have := H.out.log; omega) hc2.out d.o HFIT.out HEE.out HG.out rfl).mono ?_
          rintro e w3 ⟨rfl, h3, o3⟩
          have L3 := Lib.hid (l2.out.trans (o3.lo H.out.f l2.out.size))
          clear h3 o3 hbx lx sx hc2 l2 hnb c0 c1 c2 c3 c4 c5
          simp only [noDn]
          go_wp2_with fail
          go_ret2
          refine ⟨.slice none 0 0, ?_, ?_, L3.out.trans ((show Below w3.heap.size w3 _ by repeat (first | (with_reducible exact Below.refl _ _) | (with_reducible apply Below.drew) | (with_reducible refine below_drewN ?_ _) | (with_reducible refine below_alloc' ?_ ?_ _; (focus ((try simp) <;> omega))) | (with_reducible refine below_set' ?_ ?_ _; (focus ((try simp) <;> omega))))).mono L3.out.size)⟩
          · rw [HB0.out]
            rfl
          · rw [HB0.out]
            exact World.ownsRow_nil _ _ _ _
      · have hke : k = len := by omega
        subst hke
        have hall : rep (zeros n) ds = some s := by
          have := H.out.at'
          rwa [← HD.out.1, List.take_length] at this
        have hv : repV n ds = (0, s.ws) := by rw [repV, if_neg hnr, hall]
        obtain ⟨wb, wcap, v, hr, _⟩ := H.out.c
        have h0 := blk_cell hr.obj 0
        simp only [List.getElem?_toArray, List.getElem?_cons_zero] at h0
        have HV := Lib.hid hv; have HR := Lib.hid hr
        clear hall hv hr
        go_wp2_with fail
        go_ret2
        refine ⟨.slice (some ⟨wb, 0, none⟩) s.ws.length wcap, ?_, ?_, H.out.lo⟩
        · rw [HV.out]
          rfl
        · rw [HV.out]
          exact HR.out.ws

theorem right_any (w : World) (n : Int) (a : Option Addr) (len cap : Nat) (ds : List Dn) (h : Dones w a len ds) (hl : len ≤ 900) : Calls Try.prog 27 #[.int .i64 n, .slice a len cap] w fun e w' =>
    e = .returned (.bool ((repV n ds).1 == 0)) ∧ Below w.heap.size w w' := by
  have HD := Lib.hid h
  clear h
  go_enter Try.func27, Try.ntmps27
  go_wp2_with fail
  refine (replay_any w n a len cap ds HD.out hl).mono ?_
  rintro e w1 ⟨v, rfl, _, l1⟩
  have L1 := Lib.hid l1; clear l1

  go_wp2_with fail
  go_ret
  exact ⟨by simp, L1.out⟩
end Go.Proofs.Ytiopopplbehieaa.Cel
