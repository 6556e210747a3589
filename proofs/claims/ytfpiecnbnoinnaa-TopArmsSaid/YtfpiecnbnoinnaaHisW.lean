/- slices.DeleteFunc over ints, for whatever function it is told. -/
import Derived.Test.YtfpiecnbnoinnaaHisJ
import Derived.Test.YtfpiecnbnoinnaaRws
import Derived.Lib.SliceRun
namespace Go.Proofs.Ytfpiecnbnoinnaa.His
open Go.RowKit
set_option linter.unusedSimpArgs false
set_option linter.unusedVariables false
set_option maxRecDepth 50000

theorem take_snoc (ts : List Int) (k : Nat) (h : k < ts.length) : ts.take (k + 1) = ts.take k ++ [ts.getD k 0] := by
  rw [List.take_add_one, List.getElem?_eq_getElem h, List.getD_eq_getElem?_getD, List.getElem?_eq_getElem h]; rfl
/-- a function of ints: what it tells as long as nothing but g changes -/
structure Says (w : World) (g : Nat) (f : FuncId) (cap : Array Value) (del : Int → Bool) : Prop where
  fn : ∀ args W, (callFunc f args).run Try.prog W = .ok (.enter f args) W
  call : ∀ t W, Only (fun k => k = g) w W → Calls Try.prog f (#[.int .i64 t] ++ cap) W fun e W' => e = .returned (.bool (del t)) ∧ Below W.heap.size W W'
theorem Says.on {w W : World} {g : Nat} {f : FuncId} {cap : Array Value} {del : Int → Bool} (h : Says w g f cap del) (o : Only (fun k => k = g) w W) : Says W g f cap del :=
  ⟨h.fn, fun t W' o' => h.call t W' (o.trans o')⟩
theorem only_lo {g : Nat} {w W : World} (l : Below w.heap.size w W) : Only (fun k => k = g) w W := Only.of_below l fun k hk h => absurd hk (Nat.not_lt.2 h)
def IdxPost (w : World) (ts : List Int) (del : Int → Bool) (e : Ending) (w' : World) : Prop :=
  Below w.heap.size w w' ∧ (((∀ t ∈ ts, del t = false) ∧ e = .returned (.int .i64 (-1))) ∨ ∃ k : Nat, k < ts.length ∧ del (ts.getD k 0) = true ∧ (∀ t ∈ ts.take k, del t = false) ∧ e = .returned (.int .i64 k))
set_option maxHeartbeats 1600000 in
theorem idxF_any (w : World) (g : Nat) (a : Option Addr) (n c : Nat) (ts : List Int) (h : IntsIn w a n ts) (hn : n ≤ 1000000) (f : FuncId) (cp : Array Value) (del : Int → Bool) (hS : Says w g f cp del) :
    Calls Try.prog 60 #[.slice a n c, .func (.func f) #[] cp] w (IdxPost w ts del) := by
  have HA := Lib.hid h; have HL := Lib.hid h.1
  have HS := Lib.hid hS
  have hcf := hS.fn
  clear h hS
  unfold IdxPost
  go_enter Try.func60, Try.ntmps60
  go_wp2_with fail
  go_loopw [8] (fun i wr => ∃ k : Nat, i = .int .i64 k ∧ k ≤ n ∧ (∀ t ∈ ts.take k, del t = false) ∧ Below w.heap.size w wr) (fun i _ => n - (intOf i).toNat)
  case atStart => exact ⟨0, rfl, Nat.zero_le _, by simp, Below.refl _ _⟩
  case round =>
    obtain ⟨k, rfl, hk, hno, hB⟩ := hrel
    have HB := Lib.hid hB
    clear hB
    by_cases hlt : k < n
    · obtain ⟨b, off, rfl, hc⟩ := HA.out.2.resolve_left (by omega)
      have c0 := bkeep HB.out (hc k hlt)
      have hT := take_snoc ts k (by rw [HL.out]; exact hlt)
      have HT := Lib.hid hT; have HNO := Lib.hid hno
      have hw1 : IntKind.i64.wrap ((k : Int) + 1) = (k : Int) + 1 := by rw [IntKind.wrap_i64]; omega
      clear hc hT hno
      obtain ⟨t, ht⟩ : ∃ t, ts.getD k 0 = t := ⟨_, rfl⟩
      rw [ht] at c0 HT
      have HGT := Lib.hid ht
      have hC := HS.out.call t wr (only_lo HB.out)
      clear ht
      cases hd : del t with
      | true =>
        rw [hd] at hC
        have HC := Lib.hid hC; have HD := Lib.hid hd
        clear hC hd
        go_wp2_with fail
        refine HC.out.mono ?_
        rintro e w1 ⟨rfl, l1⟩
        have HB1 := Lib.hid (btrans HB.out (Nat.le_refl _) l1)
        clear l1
        go_wp2_with fail
        go_ret
        exact ⟨HB1.out, .inr ⟨k, by rw [HL.out]; exact hlt, by rw [HGT.out]; exact HD.out, HNO.out, rfl⟩⟩
      | false =>
        rw [hd] at hC
        have HC := Lib.hid hC
        have HN2 := Lib.hid (show ∀ s ∈ ts.take (k + 1), del s = false from fun s hs => by
          rw [HT.out, List.mem_append, List.mem_singleton] at hs
          rcases hs with hs | rfl
          · exact HNO.out s hs
          · exact hd)
        clear hC hd
        go_wp2_with fail
        refine HC.out.mono ?_
        rintro e w1 ⟨rfl, l1⟩
        have HB1 := Lib.hid (btrans HB.out (Nat.le_refl _) l1)
        clear l1
        go_wp2_with fail
        exact ⟨⟨k + 1, by go_num, by omega, HN2.out, HB1.out⟩, by simp [intOf]; omega⟩
    · obtain rfl : k = n := by omega
      rw [List.take_of_length_le (by rw [HL.out]; exact Nat.le_refl _)] at hno
      have HNO := Lib.hid hno
      clear hno
      go_wp2_with fail
      go_ret
      exact ⟨HB.out, .inl ⟨HNO.out, rfl⟩⟩
/-! ### DeleteFunc -/
def keepT (ts : List Int) (del : Int → Bool) : List Int := ts.filter fun t => !del t
theorem keepT_none {ts : List Int} {del : Int → Bool} (h : ∀ t ∈ ts, del t = false) : keepT ts del = ts := List.filter_eq_self.2 fun t ht => by rw [h t ht]; rfl
/-- the row in the midst of it: what was kept of the first j, behind it what stood there -/
def midT (ts : List Int) (del : Int → Bool) (j : Nat) : List Int := keepT (ts.take j) del ++ ts.drop (keepT (ts.take j) del).length
theorem keepT_len (ts : List Int) (del : Int → Bool) (j : Nat) : (keepT (ts.take j) del).length ≤ j := by
  have h1 := List.length_filter_le (fun t => !del t) (ts.take j)
  have h2 : (ts.take j).length ≤ j := by rw [List.length_take]; omega
  unfold keepT
  omega
theorem midT_len (ts : List Int) (del : Int → Bool) (j : Nat) (h : j ≤ ts.length) : (midT ts del j).length = ts.length := by
  have := keepT_len ts del j
  unfold midT
  rw [List.length_append, List.length_drop]
  omega
theorem midT_get (ts : List Int) (del : Int → Bool) (j : Nat) (h : j < ts.length) : (midT ts del j)[j]? = some (ts.getD j 0) := by
  have h1 := keepT_len ts del j
  unfold midT
  rw [List.getElem?_append_right (by omega), List.getElem?_drop, show (keepT (ts.take j) del).length + (j - (keepT (ts.take j) del).length) = j by omega, List.getElem?_eq_getElem h, List.getD_eq_getElem?_getD, List.getElem?_eq_getElem h]
  rfl
theorem midT_skip (ts : List Int) (del : Int → Bool) (j : Nat) (h : j < ts.length) (he : del (ts.getD j 0) = true) : keepT (ts.take (j + 1)) del = keepT (ts.take j) del ∧ midT ts del (j + 1) = midT ts del j := by
  have e : keepT (ts.take (j + 1)) del = keepT (ts.take j) del := by
    unfold keepT
    rw [take_snoc ts j h, List.filter_append, List.filter_cons_of_neg (by rw [he]; decide)]
    simp
  exact ⟨e, by unfold midT; rw [e]⟩
theorem midT_keep (ts : List Int) (del : Int → Bool) (j : Nat) (h : j < ts.length) (he : del (ts.getD j 0) = false) : keepT (ts.take (j + 1)) del = keepT (ts.take j) del ++ [ts.getD j 0] ∧ midT ts del (j + 1) = (midT ts del j).set (keepT (ts.take j) del).length (ts.getD j 0) := by
  have e : keepT (ts.take (j + 1)) del = keepT (ts.take j) del ++ [ts.getD j 0] := by
    unfold keepT
    rw [take_snoc ts j h, List.filter_append]
    congr 1
    rw [List.filter_cons_of_pos (by rw [he]; decide), List.filter_nil]
  refine ⟨e, ?_⟩
  have h1 := keepT_len ts del j
  unfold midT
  rw [e, List.set_append_right _ _ (Nat.le_refl _), Nat.sub_self, List.length_append, List.length_singleton, List.append_assoc]
  congr 1
  rw [List.drop_eq_getElem_cons (show (keepT (ts.take j) del).length < ts.length by omega)]
  rfl
theorem zeroI (w : World) : (zeroValue 3).run Try.prog w = .ok (.int .i64 0) w := by kernel_rfl
abbrev RowI (w : World) (g n cap : Nat) (ts : List Int) : Prop := w.ownsRow 0 3 1 (.slice (some ⟨g, 0, none⟩) n cap) n (ts.map fun t => .int .i64 t)
theorem RowI.cell {w : World} {g n cap : Nat} {ts : List Int} (h : RowI w g n cap ts) {i : Nat} {t : Int} (hi : ts[i]? = some t) : w.cell? ⟨g, i, none⟩ = some (.int .i64 t) :=
  row_cell1 (v := .nilFunc) h (by rw [List.getElem?_map, hi]; rfl)
theorem RowI.free {w : World} {g n cap : Nat} {ts : List Int} (h : RowI w g n cap ts) (i : Nat) : w.frozen? ⟨g, i, none⟩ = false := by
  obtain ⟨cs, hg⟩ := row_obj h (k := g) rfl
  exact blk_free hg i
theorem RowI.below {w w' : World} {g n cap : Nat} {ts : List Int} (h : RowI w g n cap ts) (l : Below w.heap.size w w') : RowI w' g n cap ts := ownsRow_only h (Only.empty l (Nat.le_refl _)) (fun _ _ h => h)
theorem RowI.intsIn {w : World} {g n cap : Nat} {ts : List Int} (h : RowI w g n cap ts) : IntsIn w (some ⟨g, 0, none⟩) n ts := by
  have hl : ts.length = n := by have := h.1; simpa using this
  refine ⟨hl, .inr ⟨g, 0, rfl, fun i hi => ?_⟩⟩
  rw [Nat.zero_add]
  exact h.cell (by rw [List.getElem?_eq_getElem (by omega), List.getD_eq_getElem?_getD, List.getElem?_eq_getElem (by omega)]; rfl)
theorem RowI.set {w : World} {g n cap : Nat} {ts : List Int} (h : RowI w g n cap ts) {i : Nat} (hi : i < n) (t : Int) : RowI (w.setCell ⟨g, i, none⟩ (.int .i64 t)) g n cap (ts.set i t) := by
  have := row_set h (k := i) (by omega) (u := .int .i64 t)
  unfold RowI
  rw [List.map_set]
  exact this
def DelPost (w : World) (g n cap : Nat) (ts : List Int) (del : Int → Bool) (e : Ending) (w' : World) : Prop :=
  e = .returned (.slice (some ⟨g, 0, none⟩) (keepT ts del).length cap) ∧ RowI w' g (keepT ts del).length cap (keepT ts del) ∧ Only (fun k => k = g) w w'
set_option maxHeartbeats 3200000 in
theorem delF_any (w : World) (g n cap : Nat) (ts : List Int) (h : RowI w g n cap ts) (hn : n ≤ 1000000) (f : FuncId) (cp : Array Value) (del : Int → Bool) (hS : Says w g f cp del) :
    Calls Try.prog 42 #[.slice (some ⟨g, 0, none⟩) n cap, .func (.func f) #[] cp] w (DelPost w g n cap ts del) := by
  have hl : ts.length = n := by have := h.1; simpa using this
  have hcap : n ≤ cap := by
    rcases h.2 with ⟨h0, _⟩ | ⟨_, _, _, h0, _, _, hc, _⟩
    · cases h0
    · injection h0 with _ _ h2; omega
  have hI := idxF_any w g (some ⟨g, 0, none⟩) n cap ts h.intsIn hn f cp del hS
  have HI := Lib.hid hI; have HR0 := Lib.hid h; have HL := Lib.hid hl; have HS := Lib.hid hS
  have hcf := hS.fn
  have hglt0 : g < w.heap.size := by obtain ⟨cs, hg⟩ := row_obj h (k := g) rfl; exact blk_lt hg
  clear hI h hl hS
  unfold DelPost
  go_enter Try.func42, Try.ntmps42
  go_wp2_with fail
  refine HI.out.mono ?_
  rintro e w0 ⟨l0, ⟨hno, rfl⟩ | ⟨k0, hk0, hke, hkn, rfl⟩⟩
  · have HNO := Lib.hid hno; have L0 := Lib.hid l0
    clear hno l0
    go_wp2_with fail
    go_ret
    rw [keepT_none HNO.out]
    exact ⟨by rw [HL.out]; rfl, by rw [HL.out]; exact HR0.out.below L0.out, only_lo L0.out⟩
  · have HR := Lib.hid (HR0.out.below l0)
    have HO0 := Lib.hid (only_lo (g := g) l0)
    have hglt : g < w0.heap.size := Nat.lt_of_lt_of_le hglt0 l0.size
    have hst : keepT (ts.take (k0 + 1)) del = ts.take k0 := by
      rw [(midT_skip ts del k0 hk0 hke).1, keepT_none hkn]
    have hmid : midT ts del (k0 + 1) = ts := by
      unfold midT
      rw [hst, List.length_take, Nat.min_eq_left (Nat.le_of_lt hk0), List.take_append_drop]
    have HST := Lib.hid hst; have HMID := Lib.hid hmid
    rw [HL.out] at hk0
    have hk1 : ((k0 : Int) == -1) = false := by simp
    clear hst hmid hke hkn l0
    go_wp2_with fail
    go_loopw [5, 6] (fun s5 s6 wr => ∃ (i j : Nat), s5 = .int .i64 i ∧ s6 = .int .i64 j ∧ j ≤ n ∧ i < j ∧ i = (keepT (ts.take j) del).length ∧ RowI wr g n cap (midT ts del j) ∧ Only (fun k => k = g) w wr) (fun _ j _ => n - (intOf j).toNat)
    case atStart => exact ⟨k0, k0 + 1, rfl, by go_num, by omega, by omega, by rw [HST.out, List.length_take, HL.out]; omega, by rw [HMID.out]; exact HR.out, HO0.out⟩
    case round =>
      obtain ⟨i, j, rfl, rfl, hj, hij, hi, hrow, ho⟩ := hrel
      have HI2 := Lib.hid hi; have HO := Lib.hid ho; have HRW := Lib.hid hrow
      clear hi ho hrow
      by_cases hlt : j < n
      · have hjl : j < ts.length := by rw [HL.out]; exact hlt
        have c0 := HRW.out.cell (midT_get ts del j hjl)
        have hC := HS.out.call (ts.getD j 0) wr HO.out
        cases he : del (ts.getD j 0) with
        | true =>
          obtain ⟨e1, e2⟩ := midT_skip ts del j hjl he
          have E1 := Lib.hid e1; have E2 := Lib.hid e2
          rw [he] at hC
          have HQ2 := Lib.hid hC
          clear e1 e2 he hC
          generalize ts.getD j 0 = t at *
          go_wp2_with fail
          refine HQ2.out.mono ?_
          rintro e w1 ⟨rfl, l1⟩
          have HRW1 := Lib.hid (HRW.out.below l1); have HO1 := Lib.hid (HO.out.trans (only_lo l1))
          clear l1
          go_wp2_with fail
          exact ⟨⟨i, j + 1, rfl, by go_num, by omega, by omega, by rw [E1.out]; exact HI2.out, by rw [E2.out]; exact HRW1.out, HO1.out⟩, by simp [intOf]; omega⟩
        | false =>
          obtain ⟨e1, e2⟩ := midT_keep ts del j hjl he
          have hc1 : ∀ W, RowI W g n cap (midT ts del j) → W.cell? ⟨g, i, none⟩ = some (.int .i64 ((midT ts del j).getD i 0)) := fun W hr => hr.cell (by
            have hm := midT_len ts del j (by omega)
            rw [List.getD_eq_getElem?_getD, List.getElem?_eq_getElem (show i < (midT ts del j).length by rw [hm, HL.out]; omega)]; rfl)
          have hin : (i : Int) < n := by omega
          have E1 := Lib.hid e1; have E2 := Lib.hid e2; have HC1 := Lib.hid hc1
          rw [he] at hC
          have HQ2 := Lib.hid hC
          clear e1 e2 he hC hc1
          obtain ⟨t, ht⟩ : ∃ t, ts.getD j 0 = t := ⟨_, rfl⟩
          rw [ht] at c0 HQ2 E1 E2
          clear ht
          go_wp2_with fail
          refine HQ2.out.mono ?_
          rintro e w1 ⟨rfl, l1⟩
          have hr1 := HRW.out.below l1
          have hc2 := HC1.out _ hr1
          have hf1 := hr1.free i
          have hset := hr1.set (i := i) (by omega) t
          rw [HI2.out, ← E2.out, ← HI2.out] at hset
          have HSET := Lib.hid hset; have HO1 := Lib.hid (HO.out.trans (only_lo l1))
          clear l1 hr1 hset
          generalize (midT ts del j).getD i 0 = t1 at *
          go_wp2_with fail
          exact ⟨⟨i + 1, j + 1, by go_num, by go_num, by omega, by omega, by rw [E1.out, List.length_append, ← HI2.out]; rfl, HSET.out, HO1.out.setCell (p := ⟨g, i, none⟩) (.inr rfl) _⟩, by simp [intOf]; omega⟩
      · obtain rfl : j = n := by omega
        have hK : keepT (ts.take j) del = keepT ts del := by rw [List.take_of_length_le (by rw [HL.out]; exact Nat.le_refl _)]
        have hcl : ∀ ty, (Builtin.clear_ #[39] ty #[.slice (some ⟨g, 0 + i, none⟩) (j - i) (cap - i)]).run Try.prog wr = .ok (.tuple #[]) (wr.setCells g (0 + i) (List.replicate (j - i) (.int .i64 0))) :=
          fun ty => Lib.run_clear_slice wr _ _ ty _ Try.underlying39 zeroI rfl rfl g (0 + i) _ _ (by omega) (fun q hq => by
            rw [Nat.zero_add, HRW.out.cell (i := i + q) (t := (midT ts del j).getD (i + q) 0) (by
              have hm := midT_len ts del j (by rw [HL.out]; exact Nat.le_refl _)
              rw [List.getD_eq_getElem?_getD, List.getElem?_eq_getElem (show i + q < (midT ts del j).length by rw [hm, HL.out]; omega)]; rfl)]
            rfl) (fun q hq => HRW.out.free _)
        simp only [Nat.zero_add] at hcl
        have hin : (i : Int) ≤ j := by omega
        have hic : (i : Int) ≤ cap := by omega
        go_wp2_with fail
        go_ret
        have hi := HI2.out
        rw [hK] at hi
        have hm := midT_len ts del j (by rw [HL.out]; exact Nat.le_refl _)
        have hrow := row_setCells (List.replicate (j - i) (Value.int .i64 0)) i wr _ HRW.out (by rw [List.length_replicate]; omega)
        have hshr := row_shrink hrow (i := i) (by omega)
        rw [Nat.mul_one, setL_take _ _ _ (by rw [List.length_replicate, List.length_map, hm, HL.out]; omega), ← List.map_take] at hshr
        have hmt : (midT ts del j).take i = keepT ts del := by
          unfold midT
          rw [hK, hi, List.take_left']
          rfl
        rw [hmt] at hshr
        rw [← hi]
        exact ⟨rfl, hshr, only_setCells (S := fun k => k = g) (.inr rfl) _ _ _ HO.out⟩
theorem delF_nil (w : World) (g : Nat) (f : FuncId) (cp : Array Value) (del : Int → Bool) (hS : Says w g f cp del) :
    Calls Try.prog 42 #[.slice none 0 0, .func (.func f) #[] cp] w fun e w' => e = .returned (.slice none 0 0) ∧ Below w.heap.size w w' := by
  have HI := Lib.hid (idxF_any w g none 0 0 [] ⟨rfl, .inl rfl⟩ (by decide) f cp del hS)
  clear hS
  go_enter Try.func42, Try.ntmps42
  go_wp2_with fail
  refine HI.out.mono ?_
  rintro e w0 ⟨l0, ⟨hno, rfl⟩ | ⟨k0, hk0, _⟩⟩
  · have L0 := Lib.hid l0
    clear l0
    go_wp2_with fail
    go_ret
    exact ⟨rfl, L0.out⟩
  · cases hk0
end Go.Proofs.Ytfpiecnbnoinnaa.His
