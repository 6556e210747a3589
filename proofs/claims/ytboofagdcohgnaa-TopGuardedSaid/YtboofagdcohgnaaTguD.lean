/- The stripes of variables: each once. -/
import Derived.Test.YtboofagdcohgnaaTguA
import Derived.Test.YtboofagdcohgnaaTguC
namespace Go.Proofs.Ytboofagdcohgnaa.Tgu
open Go.RowKit Go.Proofs.Ytboofagdcohgnaa.Lkw
set_option linter.unusedSimpArgs false
set_option linter.unusedVariables false
set_option maxRecDepth 50000

theorem infoI : (Try.prog.info? 3).map (fun i => (i.zero, i.size, i.bytes)) = some (some (.int .i64 0), 1, 8) := by kernel_rfl
/-- some ints in memory -/
def IntsIn (w : World) (a : Option Addr) (n : Nat) (ts : List Int) : Prop :=
  ts.length = n ∧ (n = 0 ∨ ∃ b off, a = some ⟨b, off, none⟩ ∧ ∀ i, i < n → w.cell? ⟨b, off + i, none⟩ = some (.int .i64 (ts.getD i 0)))
theorem IntsIn.below {w w' : World} {a : Option Addr} {n : Nat} {ts : List Int} (h : IntsIn w a n ts) (l : Below w.heap.size w w') : IntsIn w' a n ts :=
  ⟨h.1, h.2.imp id fun ⟨b, off, e, hc⟩ => ⟨b, off, e, fun i hi => bkeep l (hc i hi)⟩⟩
def IntsAt (B : Nat) (w : World) (v : Value) (ts : List Int) : Prop := w.ownsRow B 3 1 v ts.length (ts.map fun t => .int .i64 t)
theorem IntsAt.open {B : Nat} {w : World} {v : Value} {ts : List Int} (h : IntsAt B w v ts) : ∃ a c, v = .slice a ts.length c ∧ IntsIn w a ts.length ts := by
  rcases h.2 with ⟨rfl, h0⟩ | ⟨g, cap, cur, rfl, _⟩
  · exact ⟨none, 0, by rw [h0], rfl, .inl h0⟩
  · refine ⟨_, _, rfl, rfl, .inr ⟨g, 0, rfl, fun i hi => ?_⟩⟩
    rw [Nat.zero_add]
    have hx : (ts.map fun t => Value.int .i64 t)[i]? = some (.int .i64 (ts.getD i 0)) := by
      rw [List.getElem?_map, List.getElem?_eq_getElem hi, List.getD_eq_getElem?_getD, List.getElem?_eq_getElem hi]; rfl
    have := World.ownsRow.cells h (g := g) rfl i _ hx
    rwa [Addr.add_lit, Nat.zero_add] at this
def In4 (ts : List Int) : Prop := ∀ x ∈ ts, ∃ s : Nat, s < 4 ∧ x = s
def StripesPost (w : World) (e : Ending) (w' : World) : Prop :=
  ∃ v c, e = .returned v ∧ IntsAt w.heap.size w' v c ∧ Strict c c.length ∧ In4 c ∧ Below w.heap.size w w'
set_option maxHeartbeats 3200000 in
theorem stripes_any {w : World} {b g : Nat} {now : Int} {ws : Ws} (h : TAt w b g now ws) (a : Option Addr) (n cp : Nat) (ts : List Int) (hts : IntsIn w a n ts) (hn : n ≤ 8) (hok : ∀ x ∈ ts, 0 ≤ x ∧ x < 12) :
    Calls Try.prog 5 #[ptr b, .slice a n cp] w (StripesPost w) := by
  obtain ⟨i0, hi, hz0, hz1, hz2⟩ := info_parts infoI
  have H := Lib.hid h; have HTS := Lib.hid hts; have HOK := Lib.hid hok
  clear h hts hok
  unfold StripesPost
  go_enter Try.func5, Try.ntmps5
  go_wp2_with fail
  go_loopw [5, 11] (fun v i wr => ∃ (k : Nat) (c : List Int), i = .int .i64 k ∧ k ≤ n ∧ c.length = k ∧ In4 c ∧ IntsAt w.heap.size wr v c ∧ Below w.heap.size w wr) (fun _ i _ => n - (intOf i).toNat)
  case atStart => exact ⟨0, [], rfl, Nat.zero_le _, rfl, fun x hx => absurd hx (by simp), World.ownsRow_nil _ _ _ _, Below.refl _ _⟩
  case round =>
    obtain ⟨k, c, rfl, hk, hcl, h4, hV, hB⟩ := hrel
    have H4 := Lib.hid h4; have HV := Lib.hid hV; have HB := Lib.hid hB
    have hsz := hB.size
    clear h4 hV hB
    by_cases hlt : k < n
    · obtain ⟨gb, off, rfl, hc⟩ := HTS.out.2.resolve_left (by omega)
      have c0 := bkeep HB.out (hc k hlt)
      have hw1 : IntKind.i64.wrap ((k : Int) + 1) = (k : Int) + 1 := by rw [IntKind.wrap_i64]; omega
      have hx := HOK.out (ts.getD k 0) (getD_mem (by rw [HTS.out.1]; exact hlt))
      obtain ⟨t, ht⟩ : ∃ t, ts.getD k 0 = t := ⟨_, rfl⟩
      rw [ht] at c0 hx
      have HO := Lib.hid (tof_any (H.out.below HB.out) t hx)
      have HCL := Lib.hid hcl
      clear hc ht hx hcl
      go_wp2_with fail
      refine HO.out.mono ?_
      rintro e w1 ⟨⟨s, hs4, rfl⟩, rfl⟩
      have hd0 : decide (0 ≤ (s : Int)) = true := by simp
      go_wp2_with (at_builtin; refine wpList_append_own _ rfl _ _ 25 rfl w.heap.size 3 i0 (.int .i64 0) 1 8 Try.underlying25 hi hz0 hz1 hz2 rfl (by decide) _ _ (c.map fun t => .int .i64 t) rfl (ownsRow_only HV.out (Only.empty (show Below wr.heap.size wr (wr.alloc (.cells #[.int .i64 s] 3)) from by repeat (first | (with_reducible exact Below.refl _ _) | (with_reducible apply Below.drew) | (with_reducible refine below_drewN ?_ _) | (with_reducible refine below_alloc' ?_ ?_ _; (focus ((try simp) <;> omega))) | (with_reducible refine below_set' ?_ ?_ _; (focus ((try simp) <;> omega))))) (Nat.le_refl _)) (fun _ _ h => h)) ⟨wr.heap.size, 0, none⟩ 1 1 [.int .i64 s] rfl rfl ?_ ?_ ?_ ?_ ?_ ?_)
      rotate_right
      · intro v' w2 hown hgr _
        have HB2 := Lib.hid (show Below w.heap.size w w2 from (HB.out.alloc hsz _).grown hgr (by simp; omega) (fun k hk => (World.ownsRow.lt HV.out k hk).1))
        have HP2 := Lib.hid (show IntsAt w.heap.size w2 v' (c ++ [(s : Int)]) from by unfold IntsAt; rw [List.map_append, List.length_append]; exact hown)
        have H42 := Lib.hid (show In4 (c ++ [(s : Int)]) from fun x hx => by
          rcases List.mem_append.1 hx with hx | hx
          · exact H4.out x hx
          · rw [List.mem_singleton] at hx; exact ⟨s, hs4, hx⟩)
        have hl2 : (c ++ [(s : Int)]).length = k + 1 := by rw [List.length_append, HCL.out]; rfl
        clear hown hgr
        go_wp2_with fail
        exact ⟨⟨k + 1, _, by go_num, by omega, hl2, H42.out, HP2.out, HB2.out⟩, by simp [intOf]; omega⟩
      all_goals (have := HCL.out; first | (intro j u hu; rw [Addr.add_lit]; have hnw := blk_cell (blk_new wr (.cells #[.int .i64 s] 3)) j; rw [Nat.zero_add, hnw]; simpa using hu) | (simp [Value.oneCell']; done) | (unfold maxLen; omega) | omega | (simp; omega))
    · obtain rfl : k = n := by omega
      have hv0 := HV.out
      unfold IntsAt at hv0
      have HS := Lib.hid (sort_any wr _ _ c (ownsRow_base hv0 (base' := 0) (fun _ _ => Nat.zero_le _)) (by omega))
      have HLT := Lib.hid (fun k hk => World.ownsRow.lt hv0 k hk)
      clear hv0
      go_wp2_with fail
      refine HS.out.mono ?_
      rintro e w2 ⟨rfl, ⟨c2, h1, h2, h3⟩, o2⟩
      have HC := Lib.hid (cmp_row w2 _ _ c2 c h1 h2 h3 (by omega))
      have HB2 := Lib.hid (HB.out.trans (o2.lo (fun k hk => (HLT.out k hk).1) hsz))
      have H1 := Lib.hid h1
      clear h1 h2 h3 o2
      go_wp2_with fail
      refine HC.out.mono ?_
      rintro e w3 ⟨a3, cap3, c3, rfl, h1, h2, h3, o3, hob⟩
      have HB3 := Lib.hid (HB2.out.trans (o3.lo (fun k hk => (HLT.out k hk).1) HB2.out.size))
      have HI3 := Lib.hid (show IntsAt w.heap.size w3 (.slice a3 c3.length cap3) c3 from ownsRow_base h1 (fun k hk => (HLT.out k (by rw [← hob]; exact hk)).1))
      have HST := Lib.hid h2
      have H43 := Lib.hid (show In4 c3 from fun x hx => H4.out x (h3 x hx))
      clear h1 h2 h3 o3 hob
      go_wp2_with fail
      go_ret
      exact ⟨_, c3, rfl, HI3.out, HST.out, H43.out, HB3.out⟩
end Go.Proofs.Ytboofagdcohgnaa.Tgu
