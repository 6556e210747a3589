/- few; Attempts of the document's side. -/
import Derived.Test.YtfpiecnbnoinnaaHisF
namespace Go.Proofs.Ytfpiecnbnoinnaa.His
open Go.RowKit
set_option linter.unusedSimpArgs false
set_option linter.unusedVariables false
set_option maxRecDepth 50000

theorem few_det (w : World) (a : Option Addr) (n c : Nat) {p : Nat → Nat → Prop} (h : n = 0 ∨ ∃ b off, a = some ⟨b, off, none⟩ ∧ p b off) (hn : n ≤ 9223372036854775807) (hc : n ≤ c) :
    Calls Try.prog 9 #[.slice a n c] w fun e w' => e = .returned (.slice a (min n 60) c) ∧ w = w' := by
  by_cases h20 : 60 < n
  · have hd : decide (60 < (n : Int)) = true := by simp; omega
    have hc20 : (60 : Int) ≤ c := by omega
    obtain ⟨b, off, rfl, _⟩ := h.resolve_left (by omega)
    rw [show min n 60 = 60 by omega]
    clear h
    go_enter Try.func9, Try.ntmps9
    go_wp2_with fail
    go_ret
    exact ⟨rfl, rfl⟩
  · have hd : decide (60 < (n : Int)) = false := by simp; omega
    rw [show min n 60 = n by omega]
    clear h
    go_enter Try.func9, Try.ntmps9
    go_wp2_with fail
    go_ret
    exact ⟨rfl, rfl⟩
def IntsAt (B : Nat) (w : World) (v : Value) (ts : List Int) : Prop := w.ownsRow B 3 1 v ts.length (ts.map fun t => .int .i64 t)
theorem infoI : (Try.prog.info? 3).map (fun i => (i.zero, i.size, i.bytes)) = some (some (.int .i64 0), 1, 8) := by kernel_rfl
theorem attL_len (l : List Ev) : ∀ acc : List Int, (l.foldl attF acc).length ≤ acc.length + l.length := by
  induction l with
  | nil => intro acc; simp
  | cons x l ih =>
    intro acc
    rw [List.foldl_cons, List.length_cons]
    have h1 := ih (attF acc x)
    have h2 : (attF acc x).length ≤ acc.length + 1 := by
      unfold attF
      split
      · simp
      · omega
    omega
set_option maxHeartbeats 1600000 in
theorem rattempts_any (w : World) (p : Option Addr) (n c : Nat) (l : List Ev) (h : EvsIn w p n l) (hn : n ≤ 1000000) :
    Calls Try.prog 25 #[.slice p n c] w fun e w' => ∃ v, e = .returned v ∧ IntsAt w.heap.size w' v (attL l) ∧ Below w.heap.size w w' := by
  obtain ⟨i0, hi, hz0, hz1, hz2⟩ := info_parts infoI
  have H := Lib.hid h
  have HL := Lib.hid h.1
  clear h
  go_enter Try.func25, Try.ntmps25
  go_wp2_with fail
  go_loopw [3, 4] (fun v i wr => ∃ k : Nat, i = .int .i64 k ∧ k ≤ n ∧ IntsAt w.heap.size wr v (attL (l.take k)) ∧ Below w.heap.size w wr) (fun _ i _ => n - (intOf i).toNat)
  case atStart => exact ⟨0, rfl, Nat.zero_le _, World.ownsRow_nil _ _ _ _, Below.refl _ _⟩
  case round =>
    obtain ⟨k, rfl, hk, hV, hB⟩ := hrel
    have HV := Lib.hid hV; have HB := Lib.hid hB
    have hsz := hB.size
    have HEV := Lib.hid (H.out.below hB)
    clear hV hB
    by_cases hlt : k < n
    · obtain ⟨g, off, rfl, hc⟩ := H.out.2.resolve_left (by omega)
      obtain ⟨x, hx, c0, c1, c2, c3⟩ := hc k hlt
      replace c0 := bkeep HB.out c0; replace c1 := bkeep HB.out c1
      have HS := Lib.hid (show attL (l.take (k + 1)) = attF (attL (l.take k)) x by rw [take_at hx, attL_snoc])
      have hml : (attL (l.take k)).length ≤ k := by
        have := attL_len (l.take k) []
        rw [List.length_take] at this
        simp at this
        unfold attL
        omega
      obtain ⟨xk, xa, xt, xv⟩ := x
      have HSEEN := Lib.hid (seen_any wr _ n c l HEV.out hn k hk xa 1)
      have HMEM := Lib.hid (mem_attL (l.take k) xa)
      simp only at c0 c1
      clear hc hx c2 c3
      cases f1 : (xk == 1)
      · have HS2 := Lib.hid (show attL (l.take (k + 1)) = attL (l.take k) by rw [HS.out]; unfold attF; rw [if_neg (fun hh => by have := hh.1; simp at f1; exact f1 this)])
        go_wp2_with fail
        exact ⟨⟨k + 1, by go_num, by omega, by rw [HS2.out]; exact HV.out, HB.out⟩, by simp [intOf]; omega⟩
      · have F1 := Lib.hid f1
        go_wp2_with fail
        refine HSEEN.out.mono ?_
        rintro e w5 ⟨rfl, rfl⟩
        cases hs : hasK (l.take k) xa 1
        · have HS2 := Lib.hid (show attL (l.take (k + 1)) = attL (l.take k) ++ [xa] by
            rw [HS.out]; unfold attF
            rw [if_pos ⟨by simpa using F1.out, fun hm => by rw [HMEM.out.1 hm] at hs; cases hs⟩])
          clear hs
          go_wp2_with (at_builtin; refine wpList_append_own _ rfl _ _ 39 rfl w.heap.size 3 i0 (.int .i64 0) 1 8 Try.underlying39 hi hz0 hz1 hz2 rfl (by decide) _ _ ((attL (l.take k)).map fun t => .int .i64 t) rfl (ownsRow_only HV.out (Only.empty (show Below wr.heap.size wr (wr.alloc (.cells #[.int .i64 xa] 3)) from by repeat (first | (with_reducible exact Below.refl _ _) | (with_reducible apply Below.drew) | (with_reducible refine below_drewN ?_ _) | (with_reducible refine below_alloc' ?_ ?_ _; (focus ((try simp) <;> omega))) | (with_reducible refine below_set' ?_ ?_ _; (focus ((try simp) <;> omega))))) (Nat.le_refl _)) (fun _ _ h => h)) ⟨wr.heap.size, 0, none⟩ 1 1 [.int .i64 xa] rfl rfl ?_ ?_ ?_ ?_ ?_ ?_)
          rotate_right
          · intro v' w2 hown hgr _
            have hB2 : Below w.heap.size w w2 := (HB.out.alloc hsz _).grown hgr (by simp; omega) (fun k hk => (World.ownsRow.lt HV.out k hk).1)
            have HB2 := Lib.hid hB2
            have HP2 := Lib.hid (show IntsAt w.heap.size w2 v' (attL (l.take (k + 1))) from by rw [HS2.out]; unfold IntsAt; rw [List.map_append, List.length_append]; exact hown)
            clear hown hgr hB2
            go_wp2_with fail
            exact ⟨⟨k + 1, by go_num, by omega, HP2.out, HB2.out⟩, by simp [intOf]; omega⟩
          all_goals (first | (intro j u hu; rw [Addr.add_lit]; have hnw := blk_cell (blk_new wr (.cells #[.int .i64 xa] 3)) j; rw [Nat.zero_add, hnw]; simpa using hu) | (simp [Value.oneCell']; done) | (unfold maxLen; omega) | omega | (simp; omega))
        · have HS2 := Lib.hid (show attL (l.take (k + 1)) = attL (l.take k) by rw [HS.out]; unfold attF; rw [if_neg (fun hh => hh.2 (HMEM.out.2 hs))])
          clear hs
          go_wp2_with fail
          exact ⟨⟨k + 1, by go_num, by omega, by rw [HS2.out]; exact HV.out, HB.out⟩, by simp [intOf]; omega⟩
    · obtain rfl : k = n := by omega
      have hv := HV.out
      rw [List.take_of_length_le (by rw [HL.out]; exact Nat.le_refl _)] at hv
      have HV2 := Lib.hid hv
      clear hv
      go_wp2_with fail
      go_ret
      exact ⟨_, rfl, HV2.out, HB.out⟩
end Go.Proofs.Ytfpiecnbnoinnaa.His
