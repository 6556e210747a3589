/- Deeds on both. -/
import Derived.Test.YtddcpehncbcliaaWaiV
import Derived.Test.YtddcpehncbcliaaRow
namespace Go.Proofs.Ytddcpehncbcliaa.Wai
open Go.RowKit
set_option linter.unusedSimpArgs false
set_option linter.unusedVariables false

theorem IntsIn.only {S : Nat → Prop} {w w' : World} {a : Option Addr} {n : Nat} {ts : List Int} (h : IntsIn w a n ts) (ho : Only S w w') (hs : 0 < n → ∀ g off, a = some ⟨g, off, none⟩ → ¬ S g) : IntsIn w' a n ts := by
  refine ⟨h.1, ?_⟩
  rcases Nat.eq_zero_or_pos n with h0 | h0
  · exact .inl h0
  · obtain ⟨b, off, e, hc⟩ := h.2.resolve_left (by omega)
    exact .inr ⟨b, off, e, fun i hi => ho.cell (hc i hi) (hs h0 b off e)⟩
theorem IntsIn.cut {w : World} {a : Option Addr} {n : Nat} {ts : List Int} (h : IntsIn w a n ts) (k : Nat) : IntsIn w a (min n k) (ts.take k) := by
  refine ⟨by rw [List.length_take, h.1]; omega, ?_⟩
  rcases Nat.eq_zero_or_pos n with h0 | h0
  · exact .inl (by omega)
  · obtain ⟨b, off, e, hc⟩ := h.2.resolve_left (by omega)
    refine .inr ⟨b, off, e, fun i hi => ?_⟩
    rw [hc i (by omega), List.getD_eq_getElem?_getD, List.getD_eq_getElem?_getD, List.getElem?_take, if_pos (by omega)]
theorem few_det (w : World) (a : Option Addr) (n c : Nat) {p : Nat → Nat → Prop} (h : n = 0 ∨ ∃ b off, a = some ⟨b, off, none⟩ ∧ p b off) (hn : n ≤ 9223372036854775807) (hc : n ≤ c) :
    Calls Try.prog 25 #[.slice a n c] w fun e w' => e = .returned (.slice a (min n 20) c) ∧ w = w' := by
  by_cases h20 : 20 < n
  · have hd : decide (20 < (n : Int)) = true := by simp; omega
    have hc20 : (20 : Int) ≤ c := by omega
    obtain ⟨b, off, rfl, _⟩ := h.resolve_left (by omega)
    rw [show min n 20 = 20 by omega]
    clear h
    go_enter Try.func25, Try.ntmps25
    go_wp2_with fail
    go_ret
    exact ⟨rfl, rfl⟩
  · have hd : decide (20 < (n : Int)) = false := by simp; omega
    rw [show min n 20 = n by omega]
    clear h
    go_enter Try.func25, Try.ntmps25
    go_wp2_with fail
    go_ret
    exact ⟨rfl, rfl⟩
theorem RAt.only {S : Nat → Prop} {w w' : World} {b : Nat} {ws : Ws} (h : RAt w b ws) (ho : Only S w w') (hb : ¬ S b) (hg : ∀ v k, w.cell? ⟨b, 0, none⟩ = some v → v.ownBlock = some k → ¬ S k) : RAt w' b ws := by
  obtain ⟨a, c, h1, h2, h3⟩ := h
  exact ⟨a, c, ho.blk h1 hb, ownsRow_only h2 ho (fun k hk => hg _ k (blk_cell h1 0) hk), h3⟩
theorem RAt.row_lt {w : World} {b : Nat} {ws : Ws} (h : RAt w b ws) : ∀ v k, w.cell? ⟨b, 0, none⟩ = some v → v.ownBlock = some k → k < w.heap.size := by
  obtain ⟨a, c, h1, h2, h3⟩ := h
  intro v k hv hk
  rw [blk_cell h1 0] at hv
  simp only [List.getElem?_toArray, List.getElem?_cons_zero] at hv
  injection hv with hv
  subst hv
  exact (h2.lt k hk).2
/-- both lists, apart -/
structure Both2 (w : World) (b rb : Nat) (F : Nat → Prop) (n : Nat) (ws vs : Ws) : Prop where
  l : ListsAt w b F n ws
  r : RAt w rb vs
  nb : ¬ F rb
  ng : ∀ v k, w.cell? ⟨rb, 0, none⟩ = some v → v.ownBlock = some k → ¬ F k
abbrev Both (w : World) (b rb : Nat) (F : Nat → Prop) (n : Nat) (ws : Ws) : Prop := Both2 w b rb F n ws ws
theorem Both2.only {S F : Nat → Prop} {w w' : World} {b rb n : Nat} {ws vs : Ws} (h : Both2 w b rb F n ws vs) (ho : Only S w w') (hs : Apart F S) (hb : ¬ S rb) (hg : ∀ v k, w.cell? ⟨rb, 0, none⟩ = some v → v.ownBlock = some k → ¬ S k) : Both2 w' b rb F n ws vs := by
  refine ⟨h.l.only ho hs, h.r.only ho hb hg, h.nb, fun v k hv hk => ?_⟩
  obtain ⟨a, c, h1, _⟩ := h.r
  have h1' := ho.blk h1 hb
  rw [blk_cell h1' 0] at hv
  exact h.ng v k (by rw [blk_cell h1 0]; exact hv) hk
theorem Both2.below {F : Nat → Prop} {w w' : World} {b rb n : Nat} {ws vs : Ws} (h : Both2 w b rb F n ws vs) (l : Below w.heap.size w w') : Both2 w' b rb F n ws vs :=
  h.only (Only.empty l (Nat.le_refl _)) (fun _ _ h => h) (fun h => h) (fun _ _ _ _ h => h)
theorem Both2.real {F : Nat → Prop} {w w' : World} {b rb n n' : Nat} {ws vs ws' : Ws} (h : Both2 w b rb F n ws vs) (hl : ListsAt w' b (Grow F w w') n' ws') (ho : Only F w w') : Both2 w' b rb (Grow F w w') n' ws' vs := by
  have hrl := h.r.lt
  refine ⟨hl, h.r.only ho h.nb h.ng, ?_, fun v k hv hk => ?_⟩
  · rintro (hf | ⟨hf, _⟩)
    · exact h.nb hf
    · omega
  · obtain ⟨a, c, h1, _⟩ := id h.r
    have h1' := ho.blk h1 h.nb
    rw [blk_cell h1' 0] at hv
    have hv' : w.cell? ⟨rb, 0, none⟩ = some v := by rw [blk_cell h1 0]; exact hv
    rintro (hf | ⟨hf, _⟩)
    · exact h.ng v k hv' hk hf
    · have := h.r.row_lt v k hv' hk
      omega
theorem Both2.ref {F : Nat → Prop} {w w' : World} {b rb n : Nat} {ws vs vs' : Ws} (h : Both2 w b rb F n ws vs) (ho : Only (fun k => k = rb) w w') (hr : RAt w' rb vs') (hf : Fresh w w' rb) : Both2 w' b rb F n ws vs' := by
  refine ⟨h.l.only ho (fun k hk e => h.nb (e ▸ hk)), hr, h.nb, fun v k hv hk hF => ?_⟩
  rcases hf v k hv hk with h1 | h1
  · exact h.ng v k h1 hk hF
  · have := h.l.within k hF
    omega
theorem sameInts_slice {w : World} {a a' : Option Addr} {n c c' : Nat} {ts : List Int} (h : ∃ a0 c0, Value.slice a n c = .slice a0 ts.length c0 ∧ IntsIn w a0 ts.length ts) (h' : IntsIn w a' ts.length ts) (hn : ts.length ≤ 1000000) :
    Calls Try.prog 18 #[.slice a n c, .slice a' ts.length c'] w fun e w' => e = .returned (.bool true) ∧ Below w.heap.size w w' := by
  obtain ⟨a0, c0, e, h0⟩ := h
  injection e with e1 e2 e3
  subst e1 e2 e3
  exact sameInts_any h0 h' hn
def DoPost (w : World) (b rb : Nat) (F : Nat → Prop) (n : Nat) (e : Ending) (w' : World) : Prop :=
  e = .returned (.bool true) ∧ ∃ F' ws', Both w' b rb F' (n + 1) ws' ∧ (∀ k, F' k → F k ∨ w.heap.size ≤ k) ∧ Only (fun j => F j ∨ j = rb) w w'
theorem DoPost.below {w w1 w2 : World} {b rb n : Nat} {F : Nat → Prop} {e : Ending} (h : DoPost w b rb F n e w1) (l : Below w1.heap.size w1 w2) : DoPost w b rb F n e w2 := by
  obtain ⟨he, F', ws', hB, hF, ho⟩ := h
  exact ⟨he, F', ws', hB.below l, hF, ho.trans (Only.of_below l fun k hk h => absurd hk (Nat.not_lt.2 h))⟩
theorem do_end {w w0 w1 w2 : World} {b rb n : Nat} {F : Nat → Prop} {ws ws' : Ws} {e : Ending} (he : e = .returned (.bool true)) (h : Both w b rb F n ws) (l0 : Below w.heap.size w w0) (h2 : Both w2 b rb (Grow F w0 w1) (n + 1) ws') (o1 : Only F w0 w1) (o2 : Only (fun k => k = rb) w1 w2) : DoPost w b rb F n e w2 := by
  refine ⟨he, _, ws', h2, ?_, ?_⟩
  · rintro k (hk | ⟨hk, _⟩)
    · exact .inl hk
    · exact .inr (Nat.le_trans l0.size hk)
  · exact ((Only.of_below (S := fun j => F j ∨ j = rb) l0 (fun k hk h => absurd hk (Nat.not_lt.2 h))).trans (o1.mono fun k _ e => .inl e)).trans (o2.mono fun k _ e => .inr e)
def ApartT (F : Nat → Prop) (rb m : Nat) (a : Option Addr) : Prop := 0 < m → ∀ g off, a = some ⟨g, off, none⟩ → ¬ F g ∧ g ≠ rb
set_option maxHeartbeats 1600000 in
theorem do_0 {F : Nat → Prop} (w : World) (b rb n : Nat) (ws : Ws) (h : Both w b rb F n ws) (hn : n ≤ 1000) (th : Int) (a : Option Addr) (m c : Nat) (ts : List Int) (hts : IntsIn w a m ts) (hm : m ≤ 9223372036854775807) (hc : m ≤ c) (hap : ApartT F rb m a) :
    Calls Try.prog 24 #[ptr b, ptr rb, .agg #[.int .i64 0, .int .i64 th, .slice a m c]] w (DoPost w b rb F n) := by
  have hm2 : min m 20 ≤ 1000000 := by omega
  obtain ⟨W, hWdef⟩ : ∃ W, W = w.alloc (.cells #[.int .i64 0, .int .i64 th, .slice a m c] 47) := ⟨_, rfl⟩; have lW : Below w.heap.size w W := (by rw [hWdef]; repeat (first | (with_reducible exact Below.refl _ _) | (with_reducible apply Below.drew) | (with_reducible refine below_drewN ?_ _) | (with_reducible refine below_alloc' ?_ ?_ _; (focus ((try simp) <;> omega))) | (with_reducible refine below_set' ?_ ?_ _; (focus ((try simp) <;> omega))))); have HWD := Lib.hid hWdef; have hbl := h.l.lt; have hrl := h.r.lt; have hwi := h.l.within; have c1 : W.cell? ⟨w.heap.size, 1, none⟩ = some (.int .i64 th) := (by rw [hWdef]; simp); have c2 : W.cell? ⟨w.heap.size, 2, none⟩ = some (.slice a m c) := (by rw [hWdef]; simp); have hnf : ¬ (F w.heap.size ∨ w.heap.size = rb) := (by rintro (hx | hx); (focus (have := hwi _ hx; omega)); omega); clear hWdef; have KO := Lib.hid (show ∀ w', Only (fun j => F j ∨ j = rb) W.drew w' → (w'.cell? ⟨w.heap.size, 1, none⟩ = some (.int .i64 th) ∧ w'.cell? ⟨w.heap.size, 2, none⟩ = some (.slice a m c)) from fun w' h => ⟨h.cell (w := W.drew) c1 hnf, h.cell (w := W.drew) c2 hnf⟩); have QA := KO.out W.drew (Only.refl _ _); have lD : Below w.heap.size w W.drew := lW.drew; have HB0 := Lib.hid (h.below lD); have HLO := Lib.hid lD; have HTI := Lib.hid (hts.cut 20 |>.below lD); have HA := Lib.hid hts.2; have HAP := Lib.hid hap; have H := Lib.hid h; clear h lW lD hts hap c1 c2 hwi hnf hbl hrl; go_enter Try.func24, Try.ntmps24; go_wp2_with fail; rw [← HWD.out]
  go_region_held3 (fun w' => w'.cell? ⟨w.heap.size, 1, none⟩ = some (.int .i64 th) ∧ w'.cell? ⟨w.heap.size, 2, none⟩ = some (.slice a m c)) (first | (with_reducible exact QA) | (with_reducible exact QB) | (with_reducible exact QC)) (first | (go_at_call 25; (with_reducible refine Calls.mono (few_det _ a m c HA.out hm hc) ?_); rintro e w0 ⟨rfl, rfl⟩) | (go_at_call 20; (with_reducible refine Calls.mono (reg_any W.drew b n ws HB0.out.l hn th a (min m 20) c (ts.take 20) HTI.out hm2) ?_); rintro e w1 ⟨rfl, h1, o1⟩; have QB := KO.out w1 (o1.mono fun k _ e => .inl e); have HB1 := Lib.hid (HB0.out.real h1 o1); have HT1 := Lib.hid (HTI.out.only o1 (fun h0 g off e hf => (HAP.out (by omega) g off e).1 hf))) | (go_at_call 40; (with_reducible refine Calls.mono (rreg_any w1 rb ws HB1.out.r th a (min m 20) c (ts.take 20) HT1.out hm2) ?_); rintro e w2 ⟨rfl, o2, r2, f2⟩; have QC := KO.out w2 ((o1.mono fun k _ e => .inl e).trans (o2.mono fun k _ e => .inr e)); have HB2 := Lib.hid (HB1.out.ref o2 r2 f2); have HF := Lib.hid (do_end (e := .returned (.bool true)) rfl H.out HLO.out HB2.out o1 o2)) )
  clear QA QB QC o1 h1 o2 r2 f2
  generalize regE ws th (ts.take 20) = er at *
  go_wp2_with fail
  go_ret
  simpa using HF.out
theorem do_1 {F : Nat → Prop} (w : World) (b rb n : Nat) (ws : Ws) (h : Both w b rb F n ws) (hn : n ≤ 1000) (th : Int) (a : Option Addr) (m c : Nat) (ts : List Int) (hts : IntsIn w a m ts) (hm : m ≤ 9223372036854775807) (hc : m ≤ c) (hap : ApartT F rb m a) :
    Calls Try.prog 24 #[ptr b, ptr rb, .agg #[.int .i64 1, .int .i64 th, .slice a m c]] w (DoPost w b rb F n) := by
  have q0 : ((1 : Int) == 0) = false := by decide
  have hm2 : min m 20 ≤ 1000000 := by omega
  obtain ⟨W, hWdef⟩ : ∃ W, W = w.alloc (.cells #[.int .i64 1, .int .i64 th, .slice a m c] 47) := ⟨_, rfl⟩; have lW : Below w.heap.size w W := (by rw [hWdef]; repeat (first | (with_reducible exact Below.refl _ _) | (with_reducible apply Below.drew) | (with_reducible refine below_drewN ?_ _) | (with_reducible refine below_alloc' ?_ ?_ _; (focus ((try simp) <;> omega))) | (with_reducible refine below_set' ?_ ?_ _; (focus ((try simp) <;> omega))))); have HWD := Lib.hid hWdef; have hbl := h.l.lt; have hrl := h.r.lt; have hwi := h.l.within; have c1 : W.cell? ⟨w.heap.size, 1, none⟩ = some (.int .i64 th) := (by rw [hWdef]; simp); have c2 : W.cell? ⟨w.heap.size, 2, none⟩ = some (.slice a m c) := (by rw [hWdef]; simp); have hnf : ¬ (F w.heap.size ∨ w.heap.size = rb) := (by rintro (hx | hx); (focus (have := hwi _ hx; omega)); omega); clear hWdef; have KO := Lib.hid (show ∀ w', Only (fun j => F j ∨ j = rb) W.drew w' → (w'.cell? ⟨w.heap.size, 1, none⟩ = some (.int .i64 th) ∧ w'.cell? ⟨w.heap.size, 2, none⟩ = some (.slice a m c)) from fun w' h => ⟨h.cell (w := W.drew) c1 hnf, h.cell (w := W.drew) c2 hnf⟩); have QA := KO.out W.drew (Only.refl _ _); have lD : Below w.heap.size w W.drew := lW.drew; have HB0 := Lib.hid (h.below lD); have HLO := Lib.hid lD; have HTI := Lib.hid (hts.cut 20 |>.below lD); have HA := Lib.hid hts.2; have HAP := Lib.hid hap; have H := Lib.hid h; clear h lW lD hts hap c1 c2 hwi hnf hbl hrl; go_enter Try.func24, Try.ntmps24; go_wp2_with fail; rw [← HWD.out]
  go_region_held3 (fun w' => w'.cell? ⟨w.heap.size, 1, none⟩ = some (.int .i64 th) ∧ w'.cell? ⟨w.heap.size, 2, none⟩ = some (.slice a m c)) (first | (with_reducible exact QA) | (with_reducible exact QB) | (with_reducible exact QC)) (first | (go_at_call 25; (with_reducible refine Calls.mono (few_det _ a m c HA.out hm hc) ?_); rintro e w0 ⟨rfl, rfl⟩) | (go_at_call 26; (with_reducible refine Calls.mono (sleep_any W.drew b n ws HB0.out.l hn th) ?_); rintro e w1 ⟨rfl, h1, o1⟩; have QB := KO.out w1 (o1.mono fun k _ e => .inl e); have HB1 := Lib.hid (HB0.out.real h1 o1); have HT1 := Lib.hid (HTI.out.only o1 (fun h0 g off e hf => (HAP.out (by omega) g off e).1 hf))) | (go_at_call 41; (with_reducible refine Calls.mono (rsleep_any w1 rb ws HB1.out.r th) ?_); rintro e w2 ⟨rfl, o2, r2, f2⟩; have QC := KO.out w2 ((o1.mono fun k _ e => .inl e).trans (o2.mono fun k _ e => .inr e)); have HB2 := Lib.hid (HB1.out.ref o2 r2 f2); have HF := Lib.hid (do_end (e := .returned (.bool true)) rfl H.out HLO.out HB2.out o1 o2)) )
  clear QA QB QC o1 h1 o2 r2 f2
  generalize sleepE ws th = er at *
  go_wp2_with fail
  go_ret
  simpa using HF.out
theorem do_2 {F : Nat → Prop} (w : World) (b rb n : Nat) (ws : Ws) (h : Both w b rb F n ws) (hn : n ≤ 1000) (th : Int) (a : Option Addr) (m c : Nat) (ts : List Int) (hts : IntsIn w a m ts) (hm : m ≤ 9223372036854775807) (hc : m ≤ c) (hap : ApartT F rb m a) :
    Calls Try.prog 24 #[ptr b, ptr rb, .agg #[.int .i64 2, .int .i64 th, .slice a m c]] w (DoPost w b rb F n) := by
  have q0 : ((2 : Int) == 0) = false := by decide
  have q1 : ((2 : Int) == 1) = false := by decide
  have hm2 : min m 20 ≤ 1000000 := by omega
  obtain ⟨W, hWdef⟩ : ∃ W, W = w.alloc (.cells #[.int .i64 2, .int .i64 th, .slice a m c] 47) := ⟨_, rfl⟩; have lW : Below w.heap.size w W := (by rw [hWdef]; repeat (first | (with_reducible exact Below.refl _ _) | (with_reducible apply Below.drew) | (with_reducible refine below_drewN ?_ _) | (with_reducible refine below_alloc' ?_ ?_ _; (focus ((try simp) <;> omega))) | (with_reducible refine below_set' ?_ ?_ _; (focus ((try simp) <;> omega))))); have HWD := Lib.hid hWdef; have hbl := h.l.lt; have hrl := h.r.lt; have hwi := h.l.within; have c1 : W.cell? ⟨w.heap.size, 1, none⟩ = some (.int .i64 th) := (by rw [hWdef]; simp); have c2 : W.cell? ⟨w.heap.size, 2, none⟩ = some (.slice a m c) := (by rw [hWdef]; simp); have hnf : ¬ (F w.heap.size ∨ w.heap.size = rb) := (by rintro (hx | hx); (focus (have := hwi _ hx; omega)); omega); clear hWdef; have KO := Lib.hid (show ∀ w', Only (fun j => F j ∨ j = rb) W.drew w' → (w'.cell? ⟨w.heap.size, 1, none⟩ = some (.int .i64 th) ∧ w'.cell? ⟨w.heap.size, 2, none⟩ = some (.slice a m c)) from fun w' h => ⟨h.cell (w := W.drew) c1 hnf, h.cell (w := W.drew) c2 hnf⟩); have QA := KO.out W.drew (Only.refl _ _); have lD : Below w.heap.size w W.drew := lW.drew; have HB0 := Lib.hid (h.below lD); have HLO := Lib.hid lD; have HTI := Lib.hid (hts.cut 20 |>.below lD); have HA := Lib.hid hts.2; have HAP := Lib.hid hap; have H := Lib.hid h; clear h lW lD hts hap c1 c2 hwi hnf hbl hrl; go_enter Try.func24, Try.ntmps24; go_wp2_with fail; rw [← HWD.out]
  go_region_held3 (fun w' => w'.cell? ⟨w.heap.size, 1, none⟩ = some (.int .i64 th) ∧ w'.cell? ⟨w.heap.size, 2, none⟩ = some (.slice a m c)) (first | (with_reducible exact QA) | (with_reducible exact QB) | (with_reducible exact QC)) (first | (go_at_call 25; (with_reducible refine Calls.mono (few_det _ a m c HA.out hm hc) ?_); rintro e w0 ⟨rfl, rfl⟩) | (go_at_call 21; (with_reducible refine Calls.mono (canc_any W.drew b n ws HB0.out.l th) ?_); rintro e w1 ⟨rfl, h1, o1⟩; have QB := KO.out w1 (o1.mono fun k _ e => .inl e); have HB1 := Lib.hid (HB0.out.real h1 o1); have HT1 := Lib.hid (HTI.out.only o1 (fun h0 g off e hf => (HAP.out (by omega) g off e).1 hf))) | (go_at_call 42; (with_reducible refine Calls.mono (rcanc_any w1 rb ws HB1.out.r th) ?_); rintro e w2 ⟨rfl, o2, r2, f2⟩; have QC := KO.out w2 ((o1.mono fun k _ e => .inl e).trans (o2.mono fun k _ e => .inr e)); have HB2 := Lib.hid (HB1.out.ref o2 r2 f2); have HF := Lib.hid (do_end (e := .returned (.bool true)) rfl H.out HLO.out HB2.out o1 o2)) )
  clear QA QB QC o1 h1 o2 r2 f2
  generalize cancE ws th = er at *
  go_wp2_with fail
  go_ret
  simpa using HF.out
set_option maxHeartbeats 1600000 in
theorem do_3 {F : Nat → Prop} (w : World) (b rb n : Nat) (ws : Ws) (h : Both w b rb F n ws) (hn : n ≤ 1000) (th : Int) (a : Option Addr) (m c : Nat) (ts : List Int) (hts : IntsIn w a m ts) (hm : m ≤ 9223372036854775807) (hc : m ≤ c) (hap : ApartT F rb m a) :
    Calls Try.prog 24 #[ptr b, ptr rb, .agg #[.int .i64 3, .int .i64 th, .slice a m c]] w (DoPost w b rb F n) := by
  have q0 : ((3 : Int) == 0) = false := by decide
  have q1 : ((3 : Int) == 1) = false := by decide
  have q2 : ((3 : Int) == 2) = false := by decide
  have hm2 : min m 20 ≤ 1000000 := by omega
  obtain ⟨W, hWdef⟩ : ∃ W, W = w.alloc (.cells #[.int .i64 3, .int .i64 th, .slice a m c] 47) := ⟨_, rfl⟩; have lW : Below w.heap.size w W := (by rw [hWdef]; repeat (first | (with_reducible exact Below.refl _ _) | (with_reducible apply Below.drew) | (with_reducible refine below_drewN ?_ _) | (with_reducible refine below_alloc' ?_ ?_ _; (focus ((try simp) <;> omega))) | (with_reducible refine below_set' ?_ ?_ _; (focus ((try simp) <;> omega))))); have HWD := Lib.hid hWdef; have hbl := h.l.lt; have hrl := h.r.lt; have hwi := h.l.within; have c1 : W.cell? ⟨w.heap.size, 1, none⟩ = some (.int .i64 th) := (by rw [hWdef]; simp); have c2 : W.cell? ⟨w.heap.size, 2, none⟩ = some (.slice a m c) := (by rw [hWdef]; simp); have hnf : ¬ (F w.heap.size ∨ w.heap.size = rb) := (by rintro (hx | hx); (focus (have := hwi _ hx; omega)); omega); clear hWdef; have KO := Lib.hid (show ∀ w', Only (fun j => F j ∨ j = rb) W.drew w' → (w'.cell? ⟨w.heap.size, 1, none⟩ = some (.int .i64 th) ∧ w'.cell? ⟨w.heap.size, 2, none⟩ = some (.slice a m c)) from fun w' h => ⟨h.cell (w := W.drew) c1 hnf, h.cell (w := W.drew) c2 hnf⟩); have QA := KO.out W.drew (Only.refl _ _); have lD : Below w.heap.size w W.drew := lW.drew; have HB0 := Lib.hid (h.below lD); have HLO := Lib.hid lD; have HTI := Lib.hid (hts.cut 20 |>.below lD); have HA := Lib.hid hts.2; have HAP := Lib.hid hap; have H := Lib.hid h; clear h lW lD hts hap c1 c2 hwi hnf hbl hrl; go_enter Try.func24, Try.ntmps24; go_wp2_with fail; rw [← HWD.out]
  have hrl : rb < W.drew.heap.size := HB0.out.r.lt
  have HML := Lib.hid (meetW_len H.out.l.wf (wakeN (ts.take 20)))
  go_region_held3 (fun w' => w'.cell? ⟨w.heap.size, 1, none⟩ = some (.int .i64 th) ∧ w'.cell? ⟨w.heap.size, 2, none⟩ = some (.slice a m c)) (first | (with_reducible exact QA) | (with_reducible exact QB) | (with_reducible exact QC) | (with_reducible exact QD)) (first | (go_at_call 25; (with_reducible refine Calls.mono (few_det _ a m c HA.out hm hc) ?_); rintro e w0 ⟨rfl, rfl⟩) | (go_at_call 17; (with_reducible refine Calls.mono (wake_any W.drew b n ws HB0.out.l a (min m 20) c (ts.take 20) HTI.out hm2) ?_); rintro e w1 ⟨v1, rfl, i1, nf1, h1', o1⟩; have h1 := h1'.mono (Nat.le_succ _); have i1' := i1; obtain ⟨a1, c1, rfl, _⟩ := i1.open; have QB := KO.out w1 (o1.mono fun k _ e => .inl e); have HB1 := Lib.hid (HB0.out.real h1 o1); have HT1 := Lib.hid (HTI.out.only o1 (fun h0 g off e hf => (HAP.out (by omega) g off e).1 hf))) | (go_at_call 43; (with_reducible refine Calls.mono (rwake_any w1 rb ws HB1.out.r a (min m 20) c (ts.take 20) HT1.out hm2) ?_); rintro e w2 ⟨v2, rfl, i2, ⟨r2, f2⟩, o2⟩; have s1 := o1.size; have hi1 := Lib.hid (IntsAt.open (B := 0) (ownsRow_base (ownsRow_only i1' o2 (fun k hk e => by have := (World.ownsRow.lt i1' k hk).1; omega)) (fun _ _ => Nat.zero_le _))); obtain ⟨a2, c2, rfl, hin2⟩ := i2.open; have HI2 := Lib.hid hin2; clear hin2; have QC := KO.out w2 ((o1.mono fun k _ e => .inl e).trans (o2.mono fun k _ e => .inr e)); have HB2 := Lib.hid (HB1.out.ref o2 r2 f2); have HF := Lib.hid (do_end (e := .returned (.bool true)) rfl H.out HLO.out HB2.out o1 o2)) | (go_at_call 18; (with_reducible refine Calls.mono (sameInts_slice hi1.out HI2.out (by have := HML.out; omega)) ?_); rintro e w3 ⟨rfl, l3⟩; have QD := KO.out w3 (((o1.mono fun k _ e => .inl e).trans (o2.mono fun k _ e => .inr e)).trans (Only.of_below l3 fun k hk h => absurd hk (Nat.not_lt.2 h))); have HF3 := Lib.hid (HF.out.below l3)))
  clear QA QB QC QD o1 h1 o2 r2 f2 i1 i2 i1' l3 HF
  go_wp2_with fail
  go_ret
  exact HF3.out
theorem do_else {F : Nat → Prop} (w : World) (b rb n : Nat) (ws : Ws) (h : Both w b rb F n ws) (kd th : Int) (a : Option Addr) (m c : Nat) (h0 : kd ≠ 0) (h1 : kd ≠ 1) (h2 : kd ≠ 2) (h3 : kd ≠ 3) :
    Calls Try.prog 24 #[ptr b, ptr rb, .agg #[.int .i64 kd, .int .i64 th, .slice a m c]] w (DoPost w b rb F n) := by
  have lW : Below w.heap.size w (w.alloc (.cells #[.int .i64 kd, .int .i64 th, .slice a m c] 47)) := by repeat (first | (with_reducible exact Below.refl _ _) | (with_reducible apply Below.drew) | (with_reducible refine below_drewN ?_ _) | (with_reducible refine below_alloc' ?_ ?_ _; (focus ((try simp) <;> omega))) | (with_reducible refine below_set' ?_ ?_ _; (focus ((try simp) <;> omega))))
  have h' := h.below lW
  have HF := Lib.hid (show DoPost w b rb F n (.returned (.bool true)) (w.alloc (.cells #[.int .i64 kd, .int .i64 th, .slice a m c] 47)) from
    ⟨rfl, F, ws, ⟨h'.l.mono (Nat.le_succ _), h'.r, h'.nb, h'.ng⟩, fun k hk => .inl hk, Only.of_below lW fun k hk h => absurd hk (Nat.not_lt.2 h)⟩)
  have q0 : (kd == 0) = false := by simpa using h0
  have q1 : (kd == 1) = false := by simpa using h1
  have q2 : (kd == 2) = false := by simpa using h2
  have q3 : (kd == 3) = false := by simpa using h3
  clear lW h h'
  go_enter Try.func24, Try.ntmps24
  go_wp2_with fail
  go_ret
  exact HF.out
theorem do_any {F : Nat → Prop} (w : World) (b rb n : Nat) (ws : Ws) (h : Both w b rb F n ws) (hn : n ≤ 1000) (kd th : Int) (a : Option Addr) (m c : Nat) (ts : List Int) (hts : IntsIn w a m ts) (hm : m ≤ 9223372036854775807) (hc : m ≤ c) (hap : ApartT F rb m a) :
    Calls Try.prog 24 #[ptr b, ptr rb, .agg #[.int .i64 kd, .int .i64 th, .slice a m c]] w (DoPost w b rb F n) := by
  by_cases h0 : kd = 0
  · subst h0; exact do_0 w b rb n ws h hn th a m c ts hts hm hc hap
  by_cases h1 : kd = 1
  · subst h1; exact do_1 w b rb n ws h hn th a m c ts hts hm hc hap
  by_cases h2 : kd = 2
  · subst h2; exact do_2 w b rb n ws h hn th a m c ts hts hm hc hap
  by_cases h3 : kd = 3
  · subst h3; exact do_3 w b rb n ws h hn th a m c ts hts hm hc hap
  exact do_else w b rb n ws h kd th a m c h0 h1 h2 h3
end Go.Proofs.Ytddcpehncbcliaa.Wai
