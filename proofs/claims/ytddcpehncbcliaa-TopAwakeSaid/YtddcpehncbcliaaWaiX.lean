/- Deeds; play, same, live. -/
import Derived.Test.YtddcpehncbcliaaWaiW
namespace Go.Proofs.Ytddcpehncbcliaa.Wai
open Go.RowKit Go.ChangeShapes Go.WideShapes Go.ChangeAt
set_option linter.unusedSimpArgs false
set_option linter.unusedVariables false

theorem fits_slice {H : Type} {enc : TypeId × Value → H} {P : Program} {w : World} {t e : TypeId} {v : Value} (h : Fits enc P w t [v]) (ht : P.underlying t = some (.slice e)) : ∃ a len cap, v = .slice a len cap ∧ len ≤ cap := by
  obtain ⟨n, x, h⟩ := h
  rcases Go.Deep.open_slice ht h with ⟨h0, _⟩ | ⟨a', len', cap', m, n', D, Pl, hcs, _, hl, _⟩
  · injection h0 with h0
    exact ⟨none, 0, 0, h0, Nat.le_refl _⟩
  · injection hcs with hcs
    exact ⟨_, _, _, hcs, hl⟩
theorem cells_int : Try.prog.cellsOf 3 = 1 := by kernel_rfl
theorem ints_of {H : Type} {enc : TypeId × Value → H} {w : World} {a : Option Addr} {m c : Nat} (h : Fits enc Try.prog w 28 [.slice a m c]) : m ≤ 9223372036854775807 ∧ ∃ ts, IntsIn w a m ts := by
  obtain ⟨hm, hh⟩ := h.slice Try.underlying28 (by rw [cells_int]; decide)
  refine ⟨hm, ?_⟩
  rcases hh with rfl | ⟨b, off, rfl, hh⟩
  · exact ⟨[], rfl, .inl rfl⟩
  obtain ⟨f, hf⟩ := Go.Deep.choose_lt (α := Int) (p := fun i x => w.cell? ⟨b, off + i, none⟩ = some (.int .i64 x)) (fun i hi => by
    obtain ⟨cs, hl, hc, hfit⟩ := hh i hi
    obtain ⟨x, rfl, _⟩ := hfit.int (k := .i64) (by kernel_rfl)
    have := hc 0 (by rw [cells_int]; decide)
    rw [cells_int] at this
    exact ⟨x, by simpa using this⟩)
  refine ⟨(List.range m).map f, by simp, .inr ⟨b, off, rfl, fun i hi => ?_⟩⟩
  rw [hf i hi, List.getD_eq_getElem?_getD, List.getElem?_map, List.getElem?_range hi]
  rfl
theorem cells_deed : Try.prog.cellsOf 47 = 3 := by kernel_rfl
def TheDeed (w : World) (cs : List Value) : Prop := ∃ kd th a m c ts, cs = [.int .i64 kd, .int .i64 th, .slice a m c] ∧ IntsIn w a m ts ∧ m ≤ 9223372036854775807 ∧ m ≤ c
theorem deed_of {H : Type} {enc : TypeId × Value → H} {w : World} {cs : List Value} (h : Fits enc Try.prog w 47 cs) : TheDeed w cs := by
  obtain ⟨hl, hf⟩ := h.struct Try.underlying47
  rw [cells_deed] at hl
  match cs, hl with
  | [c0, c1, c2], _ =>
    obtain ⟨k, h0, w0⟩ := (hf 0 _ rfl).int (k := .i64) (by kernel_rfl)
    obtain ⟨t, h1, w1⟩ := (hf 1 _ rfl).int (k := .i64) (by kernel_rfl)
    have e0 := take_one h0; have e1 := take_one h1
    simp at e0 e1
    have h2 : Fits enc Try.prog w 28 [c2] := hf 2 _ rfl
    obtain ⟨a, m, c, rfl, hmc⟩ := fits_slice h2 Try.underlying28
    obtain ⟨hm, ts, hts⟩ := ints_of h2
    exact ⟨k, t, a, m, c, ts, by rw [e0, e1], hts, hm, hmc⟩
def Deeds (w : World) (a : Option Addr) (len : Nat) : Prop :=
  len ≤ 9223372036854775807 ∧ (len = 0 ∨ ∃ b off, a = some ⟨b, off, none⟩ ∧ ∀ i, i < len → ∃ kd th ta tm tc ts, (w.cell? ⟨b, off + i * 3, none⟩ = some (.int .i64 kd) ∧ w.cell? ⟨b, off + i * 3 + 1, none⟩ = some (.int .i64 th) ∧ w.cell? ⟨b, off + i * 3 + 2, none⟩ = some (.slice ta tm tc)) ∧ IntsIn w ta tm ts ∧ tm ≤ 9223372036854775807 ∧ tm ≤ tc)
theorem deeds_of {H : Type} {enc : TypeId × Value → H} {w : World} {a : Option Addr} {len cap : Nat} (h : Fits enc Try.prog w 22 [.slice a len cap]) : Deeds w a len := by
  obtain ⟨hm, hh⟩ := h.slice Try.underlying22 (by rw [cells_deed]; decide)
  refine ⟨hm, ?_⟩
  rcases hh with hh | ⟨b, off, rfl, hh⟩
  · exact .inl hh
  refine .inr ⟨b, off, rfl, fun i hi => ?_⟩
  obtain ⟨cs, hl, hc, hf⟩ := hh i hi
  obtain ⟨kd, th, ta, tm, tc, ts, rfl, hts, hmm, hmc⟩ := deed_of hf
  rw [cells_deed] at hc
  exact ⟨kd, th, ta, tm, tc, ts, ⟨hc 0 (by decide), hc 1 (by decide), hc 2 (by decide)⟩, hts, hmm, hmc⟩
theorem Deeds.below {w w' : World} {a : Option Addr} {len : Nat} (h : Deeds w a len) (l : Below w.heap.size w w') : Deeds w' a len :=
  ⟨h.1, h.2.imp id fun ⟨b, off, e, hc⟩ => ⟨b, off, e, fun i hi => by
    obtain ⟨kd, th, ta, tm, tc, ts, ⟨c0, c1, c2⟩, hts, hr⟩ := hc i hi
    exact ⟨kd, th, ta, tm, tc, ts, ⟨bkeep l c0, bkeep l c1, bkeep l c2⟩, hts.below l, hr⟩⟩⟩
theorem IntsIn.block {w : World} {a : Option Addr} {n : Nat} {ts : List Int} (h : IntsIn w a n ts) (h0 : 0 < n) : ∀ g off, a = some ⟨g, off, none⟩ → g < w.heap.size := by
  intro g off e
  obtain ⟨b, o, e2, hc⟩ := h.2.resolve_left (by omega)
  rw [e] at e2
  injection e2 with e2
  injection e2 with e2 _ _
  subst e2
  exact World.block_lt_of_cell? w _ (hc 0 h0)
/-- what play leaves -/
structure Playing (w w' : World) (b rb : Nat) (F : Nat → Prop) (n : Nat) (ws : Ws) : Prop where
  both : Both w' b rb F n ws
  lo : Below w.heap.size w w'
  fl : ∀ k, F k → w.heap.size ≤ k
  rl : w.heap.size ≤ rb
theorem Playing.step {w w1 w2 : World} {b rb n n' : Nat} {F F' : Nat → Prop} {ws ws' : Ws} (h : Playing w w1 b rb F n ws) (hB : Both w2 b rb F' n' ws') (hF : ∀ k, F' k → F k ∨ w1.heap.size ≤ k) (ho : Only (fun j => F j ∨ j = rb) w1 w2) : Playing w w2 b rb F' n' ws' := by
  have hb := h.fl; have hr := h.rl; have hs := h.lo.size
  refine ⟨hB, h.lo.trans (ho.below hs fun k hk e => ?_), fun k hk => ?_, hr⟩
  · rcases e with e | e
    · exact absurd hk (Nat.not_lt.2 (hb k e))
    · omega
  · rcases hF k hk with h | h
    · exact hb k h
    · omega
theorem Playing.below {w w1 w2 : World} {b rb n : Nat} {F : Nat → Prop} {ws : Ws} (h : Playing w w1 b rb F n ws) (l : Below w1.heap.size w1 w2) : Playing w w2 b rb F n ws :=
  ⟨h.both.below l, btrans h.lo (Nat.le_refl _) l, h.fl, h.rl⟩
def PlayPost (w : World) (e : Ending) (w' : World) : Prop := ∃ b rb F ws, e = .returned (.tuple #[ptr b, ptr rb, .bool true]) ∧ Playing w w' b rb F 60 ws
theorem rnew2_any (w : World) : Calls Try.prog 28 #[] w fun e w' => e = .returned (ptr w.heap.size) ∧ RAt w' w.heap.size [] ∧ Below w.heap.size w w' ∧ ∀ v, w'.cell? ⟨w.heap.size, 0, none⟩ = some v → v.ownBlock = none := by
  go_enter Try.func28, Try.ntmps28
  go_wp2
  go_ret
  refine ⟨rfl, ⟨none, 0, by simp [↓heap_alloc_eq, ↓heap_set_eq, ↓heap_drew_eq, ↓heap_drewN_eq, setObj, size_drewN], World.ownsRow_nil _ _ _ _, WfW.nil⟩, by repeat (first | (with_reducible exact Below.refl _ _) | (with_reducible apply Below.drew) | (with_reducible refine below_drewN ?_ _) | (with_reducible refine below_alloc' ?_ ?_ _; (focus ((try simp) <;> omega))) | (with_reducible refine below_set' ?_ ?_ _; (focus ((try simp) <;> omega)))), ?_⟩
  intro v hv
  simp at hv
  subst hv
  rfl
set_option maxHeartbeats 1600000 in
theorem play_any (w : World) (a : Option Addr) (len cap : Nat) (h : Deeds w a len) : Calls Try.prog 10 #[.slice a len cap] w (PlayPost w) := by
  obtain ⟨hm, hd⟩ := h
  have HD := Lib.hid hd; clear hd
  unfold PlayPost
  go_enter Try.func10, Try.ntmps10
  go_wp2_with fail
  refine (new_any w).mono ?_
  rintro e w1 ⟨b, rfl, h1, l1⟩
  have H1 := Lib.hid h1; have L1 := Lib.hid l1; clear h1 l1
  go_wp2_with fail
  refine (rnew2_any _).mono ?_
  rintro e w2 ⟨rfl, h2, l2, hz⟩
  obtain ⟨rb, hrb⟩ : ∃ rb, w1.heap.size = rb := ⟨_, rfl⟩
  have HP := Lib.hid (show Playing w w2 b rb (Grow (fun _ => False) w w1) 0 [] from ⟨⟨H1.out.below l2, hrb ▸ h2, fun hf => by rcases hf with hf | hf; exact hf.elim; omega, fun v k hv hk => by subst hrb; rw [hz v hv] at hk; cases hk⟩, btrans L1.out (Nat.le_refl _) l2, fun k hk => by rcases hk with hk | hk; exact hk.elim; exact hk.1, by have := L1.out.size; omega⟩)
  rw [hrb]
  clear h2 l2 H1 L1 hrb hz
  go_wp2_with fail
  go_loopw [7] (fun i wr => ∃ (q : Nat) (F : Nat → Prop) (ws : Ws), i = .int .i64 q ∧ q ≤ len ∧ q ≤ 60 ∧ Playing w wr b rb F q ws) (fun i _ => len - (intOf i).toNat)
  case atStart => exact ⟨0, _, _, rfl, Nat.zero_le _, Nat.zero_le _, HP.out⟩
  case round =>
    obtain ⟨q, F, ws, rfl, hq, hq6, hP⟩ := hrel
    have H := Lib.hid hP; clear hP HP
    by_cases hlt : q < len
    · by_cases h60 : q < 60
      · obtain ⟨db, off, rfl, hc⟩ := HD.out.resolve_left (by omega)
        obtain ⟨kd, th, ta, tm, tc, ts, ⟨c0, c1, c2⟩, hts, hmm, hmc⟩ := hc q hlt
        replace c0 := bkeep H.out.lo c0; replace c1 := bkeep H.out.lo c1; replace c2 := bkeep H.out.lo c2
        have HAP := Lib.hid (show ApartT F rb tm ta from fun h0 g off e => by
          have h1 := hts.block h0 g off e
          have h2 := H.out.rl
          exact ⟨fun hf => by have := H.out.fl g hf; omega, by omega⟩)
        have HTS := Lib.hid (hts.below H.out.lo)
        clear hc hts
        go_wp2_with fail
        refine (do_any _ b rb q ws H.out.both (by omega) kd th ta tm tc ts HTS.out hmm hmc HAP.out).mono ?_
        rintro e w3 ⟨rfl, F', ws', hB, hF, ho⟩
        have H3 := Lib.hid (H.out.step hB hF ho)
        clear hB hF ho c0 c1 c2
        go_wp2_with fail
        exact ⟨⟨q + 1, F', ws', by go_num, by omega, by omega, H3.out⟩, by simp [intOf]; omega⟩
      · have h60' : ¬ ((q : Int) < 60) := by omega
        have HE := Lib.hid (show Playing w wr b rb F 60 ws from ⟨⟨H.out.both.l.mono (by omega), H.out.both.r, H.out.both.nb, H.out.both.ng⟩, H.out.lo, H.out.fl, H.out.rl⟩)
        go_wp2_with fail
        go_ret3
        exact ⟨b, rb, rfl, F, ws, HE.out⟩
    · have HE := Lib.hid (show Playing w wr b rb F 60 ws from ⟨⟨H.out.both.l.mono (by omega), H.out.both.r, H.out.both.nb, H.out.both.ng⟩, H.out.lo, H.out.fl, H.out.rl⟩)
      go_wp2_with fail
      go_ret3
      exact ⟨b, rb, F, ws, rfl, HE.out⟩
end Go.Proofs.Ytddcpehncbcliaa.Wai
