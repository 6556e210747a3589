/- Register, Sleep. -/
import Derived.Test.YtddcpehncbcliaaWaiC
namespace Go.Proofs.Ytddcpehncbcliaa.Wai
open Go.RowKit
set_option linter.unusedSimpArgs false
set_option linter.unusedVariables false

def OpPost (w : World) (b : Nat) (F : Nat → Prop) (n : Nat) (er : Int) (ws : Ws) (e : Ending) (w' : World) : Prop :=
  e = .returned (.int .i64 er) ∧ ListsAt w' b (Grow F w w') (n + 1) ws ∧ Only F w w'
theorem ListsAt.op {F : Nat → Prop} {w w' : World} {b n : Nat} {ws : Ws} (h : ListsAt w b F n ws) (l : Below w.heap.size w w') : ListsAt w' b (Grow F w w') (n + 1) ws ∧ Only F w w' :=
  ⟨(h.grow l).mono (Nat.le_succ _), Only.of_below l fun k hk h => absurd hk (Nat.not_lt.2 h)⟩
set_option maxHeartbeats 1600000 in
theorem reg_bad {F : Nat → Prop} (w : World) (b n : Nat) (ws : Ws) (h : ListsAt w b F n ws) (th : Int) (a : Option Addr) (m c : Nat) (ts : List Int) (hts : IntsIn w a m ts) (hm : m ≤ 1000000) (hE : regE ws th ts ≠ 0) :
    Calls Try.prog 20 #[ptr b, .int .i64 th, .slice a m c] w fun e w' => e = .returned (.int .i64 (regE ws th ts)) ∧ Below w.heap.size w w' := by
  have HT := Lib.hid hts
  by_cases ht : okTh th
  · have hge : getEr th = 0 := by unfold getEr; rw [if_pos ht]
    have hget := get_any w b n ws h th
    rw [hge] at hget
    have HGET := Lib.hid hget
    have hE' : regE ws th ts = if ts.all okB = false then 2 else if ts = [] then 3 else if (findW ws th).isSome then 6 else 0 := by
      unfold regE
      rw [if_neg (by simpa using ht)]
    rw [hE'] at hE ⊢
    have hset : ∀ W, Below w.heap.size w W → _ := fun W l => setOf_any W a m c ts (hts.below l) hm
    have HSET := Lib.hid hset
    clear hget hset hE' hge hts h ht
    cases hall : ts.all okB
    · rw [if_pos rfl]
      rw [hall] at HSET
      clear hE hall
      go_enter Try.func20, Try.ntmps20
      go_wp2_with fail
      refine HGET.out.mono ?_
      rintro e w1 ⟨rfl, l1⟩
      have L1 := Lib.hid l1
      clear l1
      go_wp2_with fail
      refine (HSET.out _ (btrans L1.out (Nat.le_refl _) (by repeat (first | (with_reducible exact Below.refl _ _) | (with_reducible apply Below.drew) | (with_reducible refine below_drewN ?_ _) | (with_reducible refine below_alloc' ?_ ?_ _; (focus ((try simp) <;> omega))) | (with_reducible refine below_set' ?_ ?_ _; (focus ((try simp) <;> omega))))))).mono ?_
      rintro e w2 ⟨rfl, rfl⟩
      go_wp2_with fail
      go_ret
      exact ⟨rfl, btrans L1.out (Nat.le_refl _) (by repeat (first | (with_reducible exact Below.refl _ _) | (with_reducible apply Below.drew) | (with_reducible refine below_drewN ?_ _) | (with_reducible refine below_alloc' ?_ ?_ _; (focus ((try simp) <;> omega))) | (with_reducible refine below_set' ?_ ?_ _; (focus ((try simp) <;> omega)))))⟩
    · rw [if_neg (by decide)]
      have hok : ∀ t ∈ ts, okB t = true := List.all_eq_true.1 hall
      have hsr : setR ts = setN ts := by unfold setR; rw [if_pos hall]
      rw [hall, if_neg (by decide)] at hE
      rw [hall, hsr] at HSET
      by_cases hnil : ts = []
      · rw [if_pos hnil]
        have hz : setN ts = 0 := (setN_zero hok).2 hnil
        rw [hz] at HSET
        clear hE hall hok hsr hnil hz
        go_enter Try.func20, Try.ntmps20
        go_wp2_with fail
        refine HGET.out.mono ?_
        rintro e w1 ⟨rfl, l1⟩
        have L1 := Lib.hid l1
        clear l1
        go_wp2_with fail
        refine (HSET.out _ (btrans L1.out (Nat.le_refl _) (by repeat (first | (with_reducible exact Below.refl _ _) | (with_reducible apply Below.drew) | (with_reducible refine below_drewN ?_ _) | (with_reducible refine below_alloc' ?_ ?_ _; (focus ((try simp) <;> omega))) | (with_reducible refine below_set' ?_ ?_ _; (focus ((try simp) <;> omega))))))).mono ?_
        rintro e w2 ⟨rfl, rfl⟩
        go_wp2_with fail
        go_ret
        exact ⟨rfl, btrans L1.out (Nat.le_refl _) (by repeat (first | (with_reducible exact Below.refl _ _) | (with_reducible apply Below.drew) | (with_reducible refine below_drewN ?_ _) | (with_reducible refine below_alloc' ?_ ?_ _; (focus ((try simp) <;> omega))) | (with_reducible refine below_set' ?_ ?_ _; (focus ((try simp) <;> omega)))))⟩
      · rw [if_neg hnil] at hE ⊢
        have hz : ¬ setN ts = 0 := fun h0 => hnil ((setN_zero hok).1 h0)
        have hzb : (((setN ts : Nat) : Int) == 0) = false := by simp; omega
        have his : (findW ws th).isSome = true := by
          cases hf : (findW ws th).isSome
          · rw [hf] at hE; exact absurd rfl hE
          · rfl
        rw [if_pos his]
        rw [his] at HGET
        clear hE hall hok hsr hnil his
        generalize setN ts = sn at *
        go_enter Try.func20, Try.ntmps20
        go_wp2_with fail
        refine HGET.out.mono ?_
        rintro e w1 ⟨rfl, l1⟩
        have L1 := Lib.hid l1
        clear l1
        go_wp2_with fail
        refine (HSET.out _ (btrans L1.out (Nat.le_refl _) (by repeat (first | (with_reducible exact Below.refl _ _) | (with_reducible apply Below.drew) | (with_reducible refine below_drewN ?_ _) | (with_reducible refine below_alloc' ?_ ?_ _; (focus ((try simp) <;> omega))) | (with_reducible refine below_set' ?_ ?_ _; (focus ((try simp) <;> omega))))))).mono ?_
        rintro e w2 ⟨rfl, rfl⟩
        go_wp2_with fail
        go_ret
        exact ⟨rfl, btrans L1.out (Nat.le_refl _) (by repeat (first | (with_reducible exact Below.refl _ _) | (with_reducible apply Below.drew) | (with_reducible refine below_drewN ?_ _) | (with_reducible refine below_alloc' ?_ ?_ _; (focus ((try simp) <;> omega))) | (with_reducible refine below_set' ?_ ?_ _; (focus ((try simp) <;> omega)))))⟩
  · have hge : getEr th = 2 := by unfold getEr; rw [if_neg ht]
    have hget := get_any w b n ws h th
    rw [hge] at hget
    have HGET := Lib.hid hget
    have hE' : regE ws th ts = 2 := by unfold regE; rw [if_pos ht]
    rw [hE']
    clear hget hE' hge hE h ht hts
    go_enter Try.func20, Try.ntmps20
    go_wp2_with fail
    refine HGET.out.mono ?_
    rintro e w1 ⟨rfl, l1⟩
    have L1 := Lib.hid l1
    clear l1
    go_wp2_with fail
    go_ret
    exact ⟨rfl, btrans L1.out (Nat.le_refl _) (by repeat (first | (with_reducible exact Below.refl _ _) | (with_reducible apply Below.drew) | (with_reducible refine below_drewN ?_ _) | (with_reducible refine below_alloc' ?_ ?_ _; (focus ((try simp) <;> omega))) | (with_reducible refine below_set' ?_ ?_ _; (focus ((try simp) <;> omega)))))⟩
theorem regE_ok {ws : Ws} {th : Int} {ts : List Int} (h : regE ws th ts = 0) : okTh th ∧ ts.all okB = true ∧ ts ≠ [] ∧ findW ws th = none := by
  unfold regE at h
  have ht : okTh th := Decidable.not_not.1 fun hn => by rw [if_pos hn] at h; cases h
  rw [if_neg (fun hn => hn ht)] at h
  have hall : ts.all okB = true := by
    cases ha : ts.all okB
    · rw [if_pos ha] at h; cases h
    · rfl
  rw [if_neg (by rw [hall]; decide)] at h
  have hne : ts ≠ [] := fun hn => by rw [if_pos hn] at h; cases h
  rw [if_neg hne] at h
  refine ⟨ht, hall, hne, ?_⟩
  cases hf : findW ws th with
  | none => rfl
  | some x => rw [hf] at h; cases h
set_option maxHeartbeats 1600000 in
theorem reg_ok {F : Nat → Prop} (w : World) (b n : Nat) (ws : Ws) (h : ListsAt w b F n ws) (hn : n ≤ 1000) (th : Int) (a : Option Addr) (m c : Nat) (ts : List Int) (hts : IntsIn w a m ts) (hm : m ≤ 1000000) (hE : regE ws th ts = 0) :
    Calls Try.prog 20 #[ptr b, .int .i64 th, .slice a m c] w fun e w' => e = .returned (.int .i64 0) ∧ ListsAt w' b (Grow F w w') (n + 1) (ws ++ [⟨th, setN ts, false⟩]) ∧ Only F w w' := by
  obtain ⟨i0, hi, hz0, hz1, hz2⟩ := info_parts infoI
  have hwf2 := h.wf.reg th ts
  unfold regS at hwf2
  rw [if_pos hE] at hwf2
  obtain ⟨ht, hall, hne, hfn⟩ := regE_ok hE
  have hge : getEr th = 0 := by unfold getEr; rw [if_pos ht]
  have hget := get_any w b n ws h th
  rw [hge, hfn] at hget
  have HGET := Lib.hid hget
  have hsr : setR ts = setN ts := by unfold setR; rw [if_pos hall]
  have hset : ∀ W, Below w.heap.size w W → _ := fun W l => setOf_any W a m c ts (hts.below l) hm
  have HSET := Lib.hid hset
  rw [hall, hsr] at HSET
  have hzb : (((setN ts : Nat) : Int) == 0) = false := by
    have : ¬ setN ts = 0 := fun h0 => hne ((setN_zero (List.all_eq_true.1 hall)).1 h0)
    simp; omega
  have hlen := h.wf.len
  obtain ⟨ov, bm, hb, ho, hmp, f1, f2, f3, f4, hwf⟩ := h
  obtain ⟨oa, oc, rfl⟩ := ownsRow_slice ho
  have HB := Lib.hid hb; have HO := Lib.hid ho; have HM := Lib.hid hmp; have HFN := Lib.hid hfn; have HTH := Lib.hid ht; have HWF2 := Lib.hid hwf2
  have hblt := blk_lt hb
  obtain ⟨k, hk⟩ : ∃ k, ws.length = k := ⟨_, rfl⟩
  have HK := Lib.hid hk
  rw [hk] at hlen HB HO
  obtain ⟨sn, hsn⟩ : ∃ sn, setN ts = sn := ⟨_, rfl⟩
  rw [hsn] at HSET hzb HWF2 ⊢
  clear hget hset hge hsr hall hne hfn ht hts hb ho hmp hwf hwf2 hE hk hsn
  go_enter Try.func20, Try.ntmps20
  go_wp2_with fail
  refine HGET.out.mono ?_
  rintro e w1 ⟨rfl, l1⟩
  have L1 := Lib.hid l1
  clear l1
  go_wp2_with fail
  obtain ⟨W2, hW2⟩ : ∃ W2, w1.alloc (.cells #[.int .u32 (gOf ws th), .bool (gSl ws th)] 61) = W2 := ⟨_, rfl⟩
  have L2 := Lib.hid (show Below w.heap.size w W2 from btrans L1.out (Nat.le_refl _) (by rw [← hW2]; repeat (first | (with_reducible exact Below.refl _ _) | (with_reducible apply Below.drew) | (with_reducible refine below_drewN ?_ _) | (with_reducible refine below_alloc' ?_ ?_ _; (focus ((try simp) <;> omega))) | (with_reducible refine below_set' ?_ ?_ _; (focus ((try simp) <;> omega))))))
  rw [hW2]
  clear hW2
  refine (HSET.out _ L2.out).mono ?_
  rintro e w2 ⟨rfl, rfl⟩
  have hb2 := bblk L2.out HB.out
  have b0 := blk_cell hb2 0; have b1 := blk_cell hb2 1
  simp only [List.getElem?_toArray, List.getElem?_cons_zero, List.getElem?_cons_succ] at b0 b1
  have ho2 := ownsRow_only HO.out (Only.empty L2.out (Nat.le_refl _)) (fun _ _ h => h)
  have hm2 := HM.out.below L2.out
  have hsz2 := L2.out.size
  have lA : Below W2.heap.size W2 (W2.alloc (.cells #[.int .i64 th] 3)) := by repeat (first | (with_reducible exact Below.refl _ _) | (with_reducible apply Below.drew) | (with_reducible refine below_drewN ?_ _) | (with_reducible refine below_alloc' ?_ ?_ _; (focus ((try simp) <;> omega))) | (with_reducible refine below_set' ?_ ?_ _; (focus ((try simp) <;> omega))))
  have HRA := Lib.hid (ownsRow_only ho2 (Only.empty lA (Nat.le_refl _)) (fun _ _ h => h))
  have HB2 := Lib.hid hb2; have HO2 := Lib.hid ho2; have HM2 := Lib.hid hm2; have LA := Lib.hid lA
  have hbW : b < W2.heap.size := by omega
  clear hb2 ho2 hm2 lA
  go_wp2_with (at_builtin; refine wpList_append_own_at _ rfl _ _ 28 rfl 0 3 i0 (.int .i64 0) 1 8 Try.underlying28 hi hz0 hz1 hz2 rfl (by decide) _ k ((ths ws).map fun t => .int .i64 t) rfl HRA.out ⟨W2.heap.size, 0, none⟩ 1 1 [.int .i64 th] rfl rfl ?c1 ?c2 ?c3 ?c4 ?c5 ?_)
  case c1 =>
    intro j v' hv
    rw [Addr.add_lit]
    have := blk_cell (blk_new W2 (.cells #[.int .i64 th] 3)) j
    rw [Nat.zero_add, this]
    simpa using hv
  case c2 => simp [Value.oneCell']
  case c3 => unfold maxLen; omega
  case c4 => omega
  case c5 => (try simp) <;> omega
  intro v' w3 hown hgr _ hat
  obtain ⟨va, vc, rfl⟩ := ownsRow_slice hown
  have oB : Only (fun q => (Value.slice oa k oc).ownBlock = some q) W2 w3 := (Only.of_below LA.out (fun q hq h => by omega)).trans (Only.of_grown hgr (fun q h => h))
  have hb3 := oB.blk HB2.out (row_ne HO2.out HB2.out (by decide))
  have hm3 := HM2.out.only oB (fun e => by obtain ⟨cs, hg⟩ := row_obj HO2.out e; exact HM2.out.not_cells hg)
  have c0 := blk_cell hb3 0; have c1 := blk_cell hb3 1; have cf := blk_free hb3 0
  simp only [List.getElem?_toArray, List.getElem?_cons_zero, List.getElem?_cons_succ] at c0 c1
  have hbm : bm ≠ b := fun e => by subst e; exact hm3.not_cells hb3
  have hm4 := hm3.set (a := ⟨b, 0, none⟩) hbm (.slice va (k + 1) vc)
  obtain ⟨w5, hrun, hm5, o5⟩ := MapIs.store (by kernel_rfl) Try.underlying55 hm4 (by omega) (okTh_in HTH.out) (.agg #[.int .u32 sn, .bool false])
  have hrow : ∀ q, (Value.slice va (k + 1) vc).ownBlock = some q → q ≠ b ∧ (F q ∨ (w.heap.size ≤ q ∧ q < w3.heap.size)) := by
    intro q hq
    rcases hat with h | h
    · rw [h] at hq
      exact ⟨fun e => row_ne HO2.out HB2.out (by decide) (e ▸ hq), .inl (f3 q (by rw [HK.out]; exact hq))⟩
    · have hlt := ownsRow_lt hown hq
      rw [h] at hq
      injection hq with hq
      subst hq
      simp at hlt ⊢
      exact ⟨by omega, .inr ⟨by omega, by omega⟩⟩
  have HROW := Lib.hid hrow; have HB3 := Lib.hid hb3; have HM5 := Lib.hid hm5; have O5 := Lib.hid o5; have OB := Lib.hid oB; have HW := Lib.hid hown; have HM4 := Lib.hid hm4
  clear hrow hb3 hm3 hm4 hm5 o5 oB hown hgr hat b0 b1
  go_wp2_with fail
  go_ret
  have ho4 : Only (fun q => q = b) w3 (w3.setCell ⟨b, 0, none⟩ (.slice va (k + 1) vc)) := (Only.refl (fun q => q = b) w3).setCell (p := ⟨b, 0, none⟩) (.inr rfl) _
  have hb4 := blk_set HB3.out 0 (.slice va (k + 1) vc)
  have hr4 := ownsRow_only HW.out ho4 (fun q hq => (HROW.out q hq).1)
  have hr5 := ownsRow_only hr4 O5.out (fun q hq e => by obtain ⟨cs, hg⟩ := row_obj hr4 hq; subst e; exact HM4.out.not_cells hg)
  have hb5 := O5.out.blk hb4 (fun e => by subst e; exact HM4.out.not_cells hb4)
  have oF : Only F w w5 := ((((Only.of_below (B := w.heap.size) (S := F) L2.out (fun q hq h => absurd hq (Nat.not_lt.2 h))).trans (OB.out.mono (fun q hq h => f3 q (by rw [HK.out]; exact h)))).trans (ho4.mono fun q _ e => e ▸ f1))).trans (O5.out.mono fun q _ e => e ▸ f2)
  have hs5 : w3.heap.size ≤ w5.heap.size := Nat.le_trans ho4.size O5.out.size
  refine ⟨rfl, ⟨.slice va (k + 1) vc, bm, by simpa using hb5, ?_, ?_, .inl f1, .inl f2, ?_, f4.grow oF.size, HWF2.out⟩, oF⟩
  · rw [List.length_append, HK.out]
    simpa [ths] using hr5
  · have := mapW_snoc (ws := ws) (x := ⟨th, sn, false⟩) HFN.out
    rw [← this]
    exact HM5.out
  · intro q hq
    rcases (HROW.out q hq).2 with h | ⟨h1, h2⟩
    · exact .inl h
    · exact .inr ⟨h1, Nat.lt_of_lt_of_le h2 hs5⟩
theorem reg_any {F : Nat → Prop} (w : World) (b n : Nat) (ws : Ws) (h : ListsAt w b F n ws) (hn : n ≤ 1000) (th : Int) (a : Option Addr) (m c : Nat) (ts : List Int) (hts : IntsIn w a m ts) (hm : m ≤ 1000000) :
    Calls Try.prog 20 #[ptr b, .int .i64 th, .slice a m c] w (OpPost w b F n (regE ws th ts) (regS ws th ts)) := by
  by_cases hE : regE ws th ts = 0
  · have hS : regS ws th ts = ws ++ [⟨th, setN ts, false⟩] := by unfold regS; rw [if_pos hE]
    rw [hE, hS]
    exact reg_ok w b n ws h hn th a m c ts hts hm hE
  · have hS : regS ws th ts = ws := by unfold regS; rw [if_neg hE]
    rw [hS]
    refine (reg_bad w b n ws h th a m c ts hts hm hE).mono ?_
    rintro e w' ⟨rfl, l⟩
    exact ⟨rfl, h.op l⟩
end Go.Proofs.Ytddcpehncbcliaa.Wai
