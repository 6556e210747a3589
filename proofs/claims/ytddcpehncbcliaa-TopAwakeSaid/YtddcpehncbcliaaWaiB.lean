/- Go's own: Clone, IndexFunc, DeleteFunc at numbers. -/
import Derived.Test.YtddcpehncbcliaaWaiA
import Derived.Test.YtddcpehncbcliaaRws
import Derived.Lib.SliceRun
namespace Go.Proofs.Ytddcpehncbcliaa.Wai
open Go.RowKit
set_option linter.unusedSimpArgs false
set_option linter.unusedVariables false

theorem out1_any (w : World) (t th : Int) (x : Nat) (hx : w.cell? ⟨x, 0, none⟩ = some (.int .i64 th)) : Calls Try.prog 46 #[.int .i64 t, ptr x] w fun e w' => e = .returned (.bool (t == th)) ∧ w = w' := by
  go_enter Try.func46, Try.ntmps46
  go_wp2
  go_ret
  exact ⟨rfl, rfl⟩
theorem cloneI_any (w : World) (v : Value) (n : Nat) (xs : List Value) (h : w.ownsRow 0 3 1 v n xs) (hn : n ≤ 1000) (h1 : ∀ u ∈ xs, u.oneCell' = true) : Calls Try.prog 29 #[v] w fun e w' =>
    ∃ v', e = .returned v' ∧ w'.ownsRow w.heap.size 3 1 v' n xs ∧ Below w.heap.size w w' := by
  obtain ⟨i0, hi, hz0, hz1, hz2⟩ := info_parts infoI
  have hnil : ∀ (a : Option Addr) (l c : Nat) (w : World), (binOp .eql 28 (.slice a l c) (.slice none 0 0)).run Try.prog w = .ok (.bool a.isNone) w := fun a l c w => Lib.run_eql_slice_nil (P := Try.prog) w 28 3 a l c 0 0 Try.underlying28
  rcases h.2 with ⟨rfl, rfl⟩ | ⟨g, cap, cur, rfl, _, hg, _⟩
  · have h0 : w.ownsRow w.heap.size 3 1 (.slice none 0 0) 0 xs := ⟨h.1, .inl ⟨rfl, rfl⟩⟩
    have H := Lib.hid h0; clear h0 h h1 hn
    go_enter Try.func29, Try.ntmps29
    go_wp2
    go_ret
    exact ⟨_, rfl, H.out, Below.refl _ _⟩
  · have hl : xs.length = n * 1 := h.1
    have hE : (w.alloc (.cells #[] 3)).ownsRow w.heap.size 3 1 (.slice (some ⟨w.heap.size, 0, none⟩) 0 0) 0 [] := by
      have := World.ownsRow_lit (base := w.heap.size) (e := 3) (size := 1) w #[] 0 (Nat.le_refl _) (by decide) (by simp)
      simpa using this
    have hs := h.cells (g := g) rfl
    have hglt := blk_lt hg
    have HS := Lib.hid hs; have H1 := Lib.hid h1; have HE := Lib.hid hE; have HL := Lib.hid hl
    clear hs h1 hE hl h hg
    go_enter Try.func29, Try.ntmps29
    go_wp2_with (at_builtin; refine wpList_append_own _ rfl _ _ 28 rfl w.heap.size 3 i0 (.int .i64 0) 1 8 Try.underlying28 hi hz0 hz1 hz2 rfl (by decide) _ 0 [] rfl HE.out ⟨g, 0, none⟩ n cap xs rfl HL.out ?c1 H1.out ?c3 ?c4 ?c5 ?_)
    case c1 =>
      intro j u hu
      have := HS.out j u hu
      rw [Addr.add_lit] at this ⊢
      exact bkeep ((Below.refl _ _).alloc (Nat.le_refl _) _) this
    case c3 => unfold maxLen; omega
    case c4 => omega
    case c5 => simp
    intro v' w1 hown hgr _
    have hB : Below w.heap.size w w1 := ((Below.refl _ w).alloc (Nat.le_refl _) (.cells #[] 3)).grown hgr (by simp) (by simp [Value.ownBlock])
    have hW := Lib.hid hown; have HB := Lib.hid hB
    clear hown hgr hB HS H1 HE
    go_wp2
    go_ret
    exact ⟨_, rfl, by simpa using hW.out, HB.out⟩
def IdxPost (w : World) (ts : List Int) (th : Int) (e : Ending) (w' : World) : Prop :=
  w = w' ∧ ((th ∉ ts ∧ e = .returned (.int .i64 (-1))) ∨ ∃ k : Nat, k < ts.length ∧ ts.getD k 0 = th ∧ th ∉ ts.take k ∧ e = .returned (.int .i64 k))
theorem idxF_any (w : World) (a : Option Addr) (n c : Nat) (ts : List Int) (h : IntsIn w a n ts) (hn : n ≤ 1000000) (x : Nat) (th : Int) (hx : w.cell? ⟨x, 0, none⟩ = some (.int .i64 th)) :
    Calls Try.prog 49 #[.slice a n c, .func (.func 46) #[] #[ptr x]] w (IdxPost w ts th) := by
  have HA := Lib.hid h.2; have HL := Lib.hid h.1
  have HX := Lib.hid (fun t => out1_any w t th x hx)
  clear h hx
  unfold IdxPost
  go_enter Try.func49, Try.ntmps49
  go_wp2_with fail
  go_loopw [8] (fun i wr => ∃ k : Nat, i = .int .i64 k ∧ k ≤ n ∧ th ∉ ts.take k ∧ wr = w) (fun i _ => n - (intOf i).toNat)
  case atStart => exact ⟨0, rfl, Nat.zero_le _, by simp, rfl⟩
  case round =>
    obtain ⟨k, rfl, hk, hno, rfl⟩ := hrel
    by_cases hlt : k < n
    · obtain ⟨b, off, rfl, hc⟩ := HA.out.resolve_left (by omega)
      have c0 := hc k hlt
      have hT := take_snoc ts k (by rw [HL.out]; exact hlt)
      have HT := Lib.hid hT; have HNO := Lib.hid hno
      clear hc hT hno
      obtain ⟨t, ht⟩ : ∃ t, ts.getD k 0 = t := ⟨_, rfl⟩
      rw [ht] at c0 HT
      have HGT := Lib.hid ht
      clear ht
      by_cases he : t = th
      · subst he
        have hq : (t == t) = true := by simp
        have HXT := HX.out t
        rw [hq] at HXT
        have HXU := Lib.hid HXT
        clear HXT hq
        go_wp2_with fail
        refine HXU.out.mono ?_
        rintro e w0 ⟨rfl, rfl⟩
        go_wp2_with fail
        go_ret
        exact ⟨rfl, .inr ⟨k, by rw [HL.out]; exact hlt, HGT.out, HNO.out, rfl⟩⟩
      · have hq : (t == th) = false := by simpa using he
        have HN2 := Lib.hid (show th ∉ ts.take (k + 1) by rw [HT.out, List.mem_append, List.mem_singleton]; rintro (h | h); exact HNO.out h; exact he h.symm)
        clear he
        go_wp2_with fail
        refine (HX.out t).mono ?_
        rw [hq]
        rintro e w0 ⟨rfl, rfl⟩
        go_wp2_with fail
        exact ⟨⟨k + 1, by go_num, by omega, HN2.out, trivial⟩, by simp [intOf]; omega⟩
    · obtain rfl : k = n := by omega
      rw [List.take_of_length_le (by rw [HL.out]; exact Nat.le_refl _)] at hno
      have HNO := Lib.hid hno
      clear hno
      go_wp2_with fail
      go_ret
      exact ⟨rfl, .inl ⟨HNO.out, rfl⟩⟩
/-! ### DeleteFunc -/
def keepT (ts : List Int) (th : Int) : List Int := ts.filter fun t => decide (t ≠ th)
theorem keepT_none {ts : List Int} {th : Int} (h : th ∉ ts) : keepT ts th = ts := List.filter_eq_self.2 fun t ht => by
  have : t ≠ th := fun e => h (e ▸ ht)
  simpa using this
/-- the row in the midst of it: what was kept of the first j, behind it what stood there -/
def midT (ts : List Int) (th : Int) (j : Nat) : List Int := keepT (ts.take j) th ++ ts.drop (keepT (ts.take j) th).length
theorem keepT_len (ts : List Int) (th : Int) (j : Nat) : (keepT (ts.take j) th).length ≤ j := by
  have h1 := List.length_filter_le (fun t => decide (t ≠ th)) (ts.take j)
  have h2 : (ts.take j).length ≤ j := by rw [List.length_take]; omega
  unfold keepT
  omega
theorem midT_len (ts : List Int) (th : Int) (j : Nat) (h : j ≤ ts.length) : (midT ts th j).length = ts.length := by
  have := keepT_len ts th j
  unfold midT
  rw [List.length_append, List.length_drop]
  omega
theorem midT_get (ts : List Int) (th : Int) (j : Nat) (h : j < ts.length) : (midT ts th j)[j]? = some (ts.getD j 0) := by
  have h1 := keepT_len ts th j
  unfold midT
  rw [List.getElem?_append_right (by omega), List.getElem?_drop, show (keepT (ts.take j) th).length + (j - (keepT (ts.take j) th).length) = j by omega, List.getElem?_eq_getElem h, List.getD_eq_getElem?_getD, List.getElem?_eq_getElem h]
  rfl
theorem midT_skip (ts : List Int) (th : Int) (j : Nat) (h : j < ts.length) (he : ts.getD j 0 = th) : keepT (ts.take (j + 1)) th = keepT (ts.take j) th ∧ midT ts th (j + 1) = midT ts th j := by
  have e : keepT (ts.take (j + 1)) th = keepT (ts.take j) th := by
    unfold keepT
    rw [take_snoc ts j h, List.filter_append, he]
    simp
  exact ⟨e, by unfold midT; rw [e]⟩
theorem midT_keep (ts : List Int) (th : Int) (j : Nat) (h : j < ts.length) (he : ts.getD j 0 ≠ th) : keepT (ts.take (j + 1)) th = keepT (ts.take j) th ++ [ts.getD j 0] ∧ midT ts th (j + 1) = (midT ts th j).set (keepT (ts.take j) th).length (ts.getD j 0) := by
  have e : keepT (ts.take (j + 1)) th = keepT (ts.take j) th ++ [ts.getD j 0] := by
    unfold keepT
    rw [take_snoc ts j h, List.filter_append]
    congr 1
    rw [List.filter_cons_of_pos (by simpa using he), List.filter_nil]
  refine ⟨e, ?_⟩
  have h1 := keepT_len ts th j
  unfold midT
  rw [e, List.set_append_right _ _ (Nat.le_refl _), Nat.sub_self, List.length_append, List.length_singleton, List.append_assoc]
  congr 1
  rw [List.drop_eq_getElem_cons (show (keepT (ts.take j) th).length < ts.length by omega)]
  rfl
theorem zeroI (w : World) : (zeroValue 3).run Try.prog w = .ok (.int .i64 0) w := by kernel_rfl
abbrev RowI (w : World) (g n cap : Nat) (ts : List Int) : Prop := w.ownsRow 0 3 1 (.slice (some ⟨g, 0, none⟩) n cap) n (ts.map fun t => .int .i64 t)
theorem RowI.cell {w : World} {g n cap : Nat} {ts : List Int} (h : RowI w g n cap ts) {i : Nat} {t : Int} (hi : ts[i]? = some t) : w.cell? ⟨g, i, none⟩ = some (.int .i64 t) :=
  row_cell1 (v := .nilFunc) h (by rw [List.getElem?_map, hi]; rfl)
theorem RowI.free {w : World} {g n cap : Nat} {ts : List Int} (h : RowI w g n cap ts) (i : Nat) : w.frozen? ⟨g, i, none⟩ = false := by
  obtain ⟨cs, hg⟩ := row_obj h (k := g) rfl
  exact blk_free hg i
theorem RowI.intsIn {w : World} {g n cap : Nat} {ts : List Int} (h : RowI w g n cap ts) : IntsIn w (some ⟨g, 0, none⟩) n ts := by
  have hl : ts.length = n := by have := h.1; simpa using this
  refine ⟨hl, .inr ⟨g, 0, rfl, fun i hi => ?_⟩⟩
  rw [Nat.zero_add]
  exact h.cell (by rw [List.getElem?_eq_getElem (by omega), List.getD_eq_getElem?_getD, List.getElem?_eq_getElem (by omega)]; rfl)
theorem RowI.set {w : World} {g n cap : Nat} {ts : List Int} (h : RowI w g n cap ts) {i : Nat} (hi : i < n) (t : Int) : RowI (w.setCell ⟨g, i, none⟩ (.int .i64 t)) g n cap (ts.set i t) := by
  have := row_set h (k := i) (by omega) (u := .int .i64 t)
  unfold RowI
  rw [List.map_set]
  exact this
def DelPost (w : World) (g n cap : Nat) (ts : List Int) (th : Int) (e : Ending) (w' : World) : Prop :=
  e = .returned (.slice (some ⟨g, 0, none⟩) (keepT ts th).length cap) ∧ RowI w' g (keepT ts th).length cap (keepT ts th) ∧ Only (fun k => k = g) w w'
set_option maxHeartbeats 3200000 in
theorem delF_any (w : World) (g n cap : Nat) (ts : List Int) (h : RowI w g n cap ts) (hn : n ≤ 1000000) (x : Nat) (th : Int) (hx : w.cell? ⟨x, 0, none⟩ = some (.int .i64 th)) (hxg : x ≠ g) :
    Calls Try.prog 45 #[.slice (some ⟨g, 0, none⟩) n cap, .func (.func 46) #[] #[ptr x]] w (DelPost w g n cap ts th) := by
  have hl : ts.length = n := by have := h.1; simpa using this
  have hcap : n ≤ cap := by
    rcases h.2 with ⟨h0, _⟩ | ⟨_, _, _, h0, _, _, hc, _⟩
    · cases h0
    · injection h0 with _ _ h2; omega
  have hI := idxF_any w (some ⟨g, 0, none⟩) n cap ts h.intsIn hn x th hx
  have HI := Lib.hid hI; have HR := Lib.hid h; have HL := Lib.hid hl; have HX := Lib.hid hx
  have hglt : g < w.heap.size := by obtain ⟨cs, hg⟩ := row_obj h (k := g) rfl; exact blk_lt hg
  clear hI h hl hx
  unfold DelPost
  go_enter Try.func45, Try.ntmps45
  go_wp2_with fail
  refine HI.out.mono ?_
  rintro e w0 ⟨rfl, ⟨hno, rfl⟩ | ⟨k0, hk0, hke, hkn, rfl⟩⟩
  · have HNO := Lib.hid hno
    clear hno
    go_wp2_with fail
    go_ret
    rw [keepT_none HNO.out]
    exact ⟨by rw [HL.out]; rfl, by rw [HL.out]; exact HR.out, Only.refl _ _⟩
  · have hst : keepT (ts.take (k0 + 1)) th = ts.take k0 := by
      rw [(midT_skip ts th k0 hk0 hke).1, keepT_none hkn]
    have hmid : midT ts th (k0 + 1) = ts := by
      unfold midT
      rw [hst, List.length_take, Nat.min_eq_left (Nat.le_of_lt hk0), List.take_append_drop]
    have HST := Lib.hid hst; have HMID := Lib.hid hmid
    rw [HL.out] at hk0
    have hk1 : ((k0 : Int) == -1) = false := by simp
    clear hst hmid hke hkn
    go_wp2_with fail
    go_loopw [5, 6] (fun s5 s6 wr => ∃ (i j : Nat), s5 = .int .i64 i ∧ s6 = .int .i64 j ∧ j ≤ n ∧ i < j ∧ i = (keepT (ts.take j) th).length ∧ RowI wr g n cap (midT ts th j) ∧ Only (fun k => k = g) w wr) (fun _ j _ => n - (intOf j).toNat)
    case atStart => exact ⟨k0, k0 + 1, rfl, by go_num, by omega, by omega, by rw [HST.out, List.length_take, HL.out]; omega, by rw [HMID.out]; exact HR.out, Only.refl _ _⟩
    case round =>
      obtain ⟨i, j, rfl, rfl, hj, hij, hi, hrow, ho⟩ := hrel
      have HI2 := Lib.hid hi; have HO := Lib.hid ho; have HRW := Lib.hid hrow
      have cx : Lib.hid (HX.out) = HX.out := rfl
      have hx2 := ho.cell HX.out hxg
      clear hi ho hrow cx
      by_cases hlt : j < n
      · have hjl : j < ts.length := by rw [HL.out]; exact hlt
        have c0 := HRW.out.cell (midT_get ts th j hjl)
        have hO := fun t => out1_any wr t th x hx2
        have HOU := Lib.hid hO
        clear hO hx2
        by_cases he : ts.getD j 0 = th
        · obtain ⟨e1, e2⟩ := midT_skip ts th j hjl he
          have E1 := Lib.hid e1; have E2 := Lib.hid e2
          have hq : (ts.getD j 0 == th) = true := by simpa using he
          have HQ := HOU.out (ts.getD j 0)
          rw [hq] at HQ
          have HQ2 := Lib.hid HQ
          clear e1 e2 hq he HQ
          generalize ts.getD j 0 = t at *
          go_wp2_with fail
          refine HQ2.out.mono ?_
          rintro e w1 ⟨rfl, rfl⟩
          go_wp2_with fail
          exact ⟨⟨i, j + 1, rfl, by go_num, by omega, by omega, by rw [E1.out]; exact HI2.out, by rw [E2.out]; exact HRW.out, HO.out⟩, by simp [intOf]; omega⟩
        · obtain ⟨e1, e2⟩ := midT_keep ts th j hjl he
          have hset := HRW.out.set (i := i) (by omega) (ts.getD j 0)
          have hc1 : wr.cell? ⟨g, i, none⟩ = some (.int .i64 ((midT ts th j).getD i 0)) := HRW.out.cell (by
            have hm := midT_len ts th j (by omega)
            rw [List.getD_eq_getElem?_getD, List.getElem?_eq_getElem (show i < (midT ts th j).length by rw [hm, HL.out]; omega)]; rfl)
          have hf1 := HRW.out.free i
          have hin : (i : Int) < n := by omega
          rw [HI2.out, ← e2, ← HI2.out] at hset
          have E1 := Lib.hid e1; have HSET := Lib.hid hset
          have hq : (ts.getD j 0 == th) = false := by simpa using he
          have HQ := HOU.out (ts.getD j 0)
          rw [hq] at HQ
          have HQ2 := Lib.hid HQ
          clear e1 e2 hq he HQ hset
          generalize ts.getD j 0 = t at *
          generalize (midT ts th j).getD i 0 = t1 at *
          go_wp2_with fail
          refine HQ2.out.mono ?_
          rintro e w1 ⟨rfl, rfl⟩
          go_wp2_with fail
          exact ⟨⟨i + 1, j + 1, by go_num, by go_num, by omega, by omega, by rw [E1.out, List.length_append, ← HI2.out]; rfl, HSET.out, HO.out.setCell (p := ⟨g, i, none⟩) (.inr rfl) _⟩, by simp [intOf]; omega⟩
      · obtain rfl : j = n := by omega
        have hK : keepT (ts.take j) th = keepT ts th := by rw [List.take_of_length_le (by rw [HL.out]; exact Nat.le_refl _)]
        have hcl : ∀ ty, (Builtin.clear_ #[28] ty #[.slice (some ⟨g, 0 + i, none⟩) (j - i) (cap - i)]).run Try.prog wr = .ok (.tuple #[]) (wr.setCells g (0 + i) (List.replicate (j - i) (.int .i64 0))) :=
          fun ty => Lib.run_clear_slice wr _ _ ty _ Try.underlying28 zeroI rfl rfl g (0 + i) _ _ (by omega) (fun q hq => by
            rw [Nat.zero_add, HRW.out.cell (i := i + q) (t := (midT ts th j).getD (i + q) 0) (by
              have hm := midT_len ts th j (by rw [HL.out]; exact Nat.le_refl _)
              rw [List.getD_eq_getElem?_getD, List.getElem?_eq_getElem (show i + q < (midT ts th j).length by rw [hm, HL.out]; omega)]; rfl)]
            rfl) (fun q hq => HRW.out.free _)
        simp only [Nat.zero_add] at hcl
        have hin : (i : Int) ≤ j := by omega
        have hic : (i : Int) ≤ cap := by omega
        go_wp2_with fail
        go_ret
        have hi := HI2.out
        rw [hK] at hi
        have hm := midT_len ts th j (by rw [HL.out]; exact Nat.le_refl _)
        have hrow := row_setCells (List.replicate (j - i) (Value.int .i64 0)) i wr _ HRW.out (by rw [List.length_replicate]; omega)
        have hshr := row_shrink hrow (i := i) (by omega)
        rw [Nat.mul_one, setL_take _ _ _ (by rw [List.length_replicate, List.length_map, hm, HL.out]; omega), ← List.map_take] at hshr
        have hmt : (midT ts th j).take i = keepT ts th := by
          unfold midT
          rw [hK, hi, List.take_left']
          rfl
        rw [hmt] at hshr
        rw [← hi]
        exact ⟨rfl, hshr, only_setCells (S := fun k => k = g) (.inr rfl) _ _ _ HO.out⟩
theorem delF_nil (w : World) (x : Nat) (th : Int) (hx : w.cell? ⟨x, 0, none⟩ = some (.int .i64 th)) :
    Calls Try.prog 45 #[.slice none 0 0, .func (.func 46) #[] #[ptr x]] w fun e w' => e = .returned (.slice none 0 0) ∧ w = w' := by
  have HI := Lib.hid (idxF_any w none 0 0 [] ⟨rfl, .inl rfl⟩ (by decide) x th hx)
  clear hx
  go_enter Try.func45, Try.ntmps45
  go_wp2_with fail
  refine HI.out.mono ?_
  rintro e w0 ⟨rfl, ⟨hno, rfl⟩ | ⟨k0, hk0, _⟩⟩
  · go_wp2_with fail
    go_ret
    exact ⟨rfl, rfl⟩
  · cases hk0
theorem delF_row (w : World) (v : Value) (n : Nat) (ts : List Int) (h : w.ownsRow 0 3 1 v n (ts.map fun t => .int .i64 t)) (hn : n ≤ 1000000) (x : Nat) (th : Int) (hx : w.cell? ⟨x, 0, none⟩ = some (.int .i64 th)) (hxg : v.ownBlock ≠ some x) :
    Calls Try.prog 45 #[v, .func (.func 46) #[] #[ptr x]] w fun e w' => ∃ a c, e = .returned (.slice a (keepT ts th).length c) ∧ w'.ownsRow 0 3 1 (.slice a (keepT ts th).length c) (keepT ts th).length ((keepT ts th).map fun t => .int .i64 t) ∧
      Only (fun k => v.ownBlock = some k) w w' ∧ (Value.slice a (keepT ts th).length c).ownBlock = v.ownBlock := by
  have h2 := h.2
  rcases h2 with ⟨rfl, rfl⟩ | ⟨g, cap, cur, rfl, _⟩
  · have ht : ts = [] := by have := h.1; simpa using this
    subst ht
    refine (delF_nil w x th hx).mono ?_
    rintro e w' ⟨rfl, rfl⟩
    exact ⟨none, 0, rfl, World.ownsRow_nil _ _ _ _, Only.refl _ _, rfl⟩
  · refine (delF_any w g n cap ts h hn x th hx (fun e => hxg (by subst e; rfl))).mono ?_
    rintro e w' ⟨rfl, hr, ho⟩
    exact ⟨_, _, rfl, hr, ho.mono fun k _ e => by subst e; rfl, rfl⟩
end Go.Proofs.Ytddcpehncbcliaa.Wai
