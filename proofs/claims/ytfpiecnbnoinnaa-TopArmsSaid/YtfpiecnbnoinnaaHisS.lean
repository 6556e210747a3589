/- The real side: Writes, Reads, Own. -/
import Derived.Test.YtfpiecnbnoinnaaHisQ
import Derived.Test.YtfpiecnbnoinnaaWriP
namespace Go.Proofs.Ytfpiecnbnoinnaa.His
open Go.RowKit Go.Proofs.Ytfpiecnbnoinnaa.Wri
set_option linter.unusedSimpArgs false
set_option linter.unusedVariables false
set_option maxRecDepth 50000

theorem getS_fun (xs : Frs) : getS xs = getL (xs.map (·.2)) := funext fun t => getS_eq xs t
def PairsPost (w : World) (f : Frm) (e : Ending) (w' : World) : Prop := ∃ v, e = .returned v ∧ PairsAt w.heap.size w' v f ∧ Below w.heap.size w w'
theorem all_p {w : World} {q : Nat} {fs : List Frm} (h : LAt w q fs) : Calls Try.prog 33 #[ptr q] w (PairsPost w (allK (getL fs) 12)) := by
  obtain ⟨xs, rfl, hl⟩ := h
  have := all_any w q xs hl
  rw [getS_fun] at this
  exact this
theorem none_odd (W : World) : Strange W (fun _ => False) := fun k h => h.elim
theorem writes1_any (x : Ev) (g1 : Int) (g2 : Bool) (W : World) : Calls Try.prog 39 #[evV x, .int .u64 g1, .bool g2] W fun e W' => e = .returned (.tuple #[]) ∧ True ∧ Only (fun _ => False) W W' := by
  go_enter Try.func39, Try.ntmps39
  go_wp2_with fail
  exact bodyPost_end (results_none rfl _ _ _) rfl ⟨rfl, trivial, (Only.refl _ _).alloc _⟩
theorem writesH_any (w : World) (a : Option Addr) (n c : Nat) (l : List Ev) (h : EvsIn w a n l) (hok : ∀ x ∈ l, 0 ≤ x.v ∧ x.v < 18446744073709551616) (hn : n ≤ 1000000) (t : Int) :
    Calls Try.prog 15 #[.slice a n c, .int .i64 t] w (PairsPost w (allK (getL (ownL l t)) 12)) := by
  have HP := Lib.hid (play_any w a n c l h hok hn t 39 #[] (fun _ => False) (fun _ _ => True) ⟨trivial, fun args W => by kernel_rfl, fun k hk => hk.elim, fun p W _ => none_odd W, fun _ _ _ _ _ => trivial, fun _ _ _ _ _ _ _ _ => trivial, fun _ _ _ _ _ => trivial, fun p x W _ _ _ _ => writes1_any x _ _ W⟩)
  clear h hok
  unfold PairsPost
  go_enter Try.func15, Try.ntmps15
  go_wp2_with fail
  refine HP.out.mono ?_
  rintro e w1 ⟨q, rfl, hq, _, o1⟩
  have HA := Lib.hid (all_p hq)
  have L1 := Lib.hid o1.toBelow
  clear hq o1
  go_wp2_with fail
  refine HA.out.mono ?_
  rintro e w2 ⟨v, rfl, hv, l2⟩
  have HV := Lib.hid (ownsRow_base hv (base' := w.heap.size) (fun k hk => Nat.le_trans L1.out.size (hv.lt k hk).1))
  have L2 := Lib.hid (btrans L1.out (Nat.le_refl _) l2)
  clear hv l2
  go_wp2_with fail
  go_ret
  exact ⟨v, rfl, HV.out, L2.out⟩
/-! ### Reads -/
def readsG (fs : List Frm) : List Ev → Frm
  | [] => []
  | x :: r => (if (x.k == 2 && (getL fs x.t).isNone) = true then [(x.t, x.v)] else []) ++ readsG (actS fs x) r
theorem readsG_at (x : Ev) (r : List Ev) : ∀ (p : List Ev) (fs : List Frm), readsG fs (p ++ x :: r) = [] → x.k = 2 → (getL (p.foldl actS fs) x.t).isSome = true := by
  intro p
  induction p with
  | nil =>
    intro fs h hk
    rw [List.nil_append, readsG] at h
    have h1 := (List.append_eq_nil_iff.1 h).1
    split at h1
    · cases h1
    · rename_i hn
      rw [Option.isSome_iff_ne_none]
      simpa [hk] using hn
  | cons y p ih =>
    intro fs h hk
    rw [List.cons_append, readsG] at h
    exact ih _ (List.append_eq_nil_iff.1 h).2 hk
def readsL (l : List Ev) (n : Int) : Frm := readsG [[]] (cutL l n)
/-- the box that the told function keeps -/
def RBox (b : Nat) (W : World) : Prop := W.heap[b]? = some (.cells #[.slice none 0 0] 30 (0, 0))
theorem RBox.odd {b : Nat} {W : World} (h : RBox b W) : Strange W (fun k => k = b) := fun k hk => by
  subst hk
  exact .inr ⟨_, _, _, h, by decide, by decide, by decide⟩
theorem box_turn {b q : Nat} {W W' : World} {cs : Array Value} {t : TypeId} (h : W.heap[b]? = some (.cells cs t (0, 0))) (ht : t ≠ 79) (o : Only (fun k => k = q) W W') (hq : ∃ cs, W.heap[q]? = some (.cells cs 79 (0, 0))) : W'.heap[b]? = some (.cells cs t (0, 0)) := by
  obtain ⟨cs, hc⟩ := hq
  refine o.blk h (fun e => ?_)
  subst e
  rw [hc] at h
  injection h with h
  injection h with _ h _
  exact ht h.symm
theorem reads1_any (b : Nat) (x : Ev) (W : World) (h : RBox b W) (g1 : Int) :
    Calls Try.prog 57 #[evV x, .int .u64 g1, .bool true, ptr b] W fun e W' => e = .returned (.tuple #[]) ∧ RBox b W' ∧ Only (fun k => k = b) W W' := by
  have HF := Lib.hid (bblk (show Below W.heap.size W (W.alloc (.cells #[.int .u8 x.k, .int .i64 x.a, .int .i64 x.t, .int .u64 x.v] 52)) from by repeat (first | (with_reducible exact Below.refl _ _) | (with_reducible apply Below.drew) | (with_reducible refine below_drewN ?_ _) | (with_reducible refine below_alloc' ?_ ?_ _; (focus ((try simp) <;> omega))) | (with_reducible refine below_set' ?_ ?_ _; (focus ((try simp) <;> omega))))) h)
  clear h
  go_enter Try.func57, Try.ntmps57
  go_wp2_with fail
  exact bodyPost_end (results_none rfl _ _ _) rfl ⟨rfl, HF.out, (Only.refl _ _).alloc _⟩
theorem readsH_nil (w : World) (a : Option Addr) (n c : Nat) (l : List Ev) (h : EvsIn w a n l) (hok : ∀ x ∈ l, 0 ≤ x.v ∧ x.v < 18446744073709551616) (hn : n ≤ 1000000) (t : Int) (hr : readsL l t = []) :
    Calls Try.prog 36 #[.slice a n c, .int .i64 t] w fun e w' => e = .returned (.slice none 0 0) ∧ Below w.heap.size w w' := by
  have l1 : Below w.heap.size w (w.alloc (.cells #[.slice none 0 0] 30)) := by repeat (first | (with_reducible exact Below.refl _ _) | (with_reducible apply Below.drew) | (with_reducible refine below_drewN ?_ _) | (with_reducible refine below_alloc' ?_ ?_ _; (focus ((try simp) <;> omega))) | (with_reducible refine below_set' ?_ ?_ _; (focus ((try simp) <;> omega))))
  have hb1 : RBox w.heap.size (w.alloc (.cells #[.slice none 0 0] 30)) := by unfold RBox; simp [↓heap_alloc_eq, ↓heap_set_eq, ↓heap_drew_eq, ↓heap_drewN_eq, setObj, size_drewN]
  have hlt := blk_lt hb1
  have HP := Lib.hid (play_any _ a n c l (h.below l1) hok hn t 57 #[ptr w.heap.size] (fun k => k = w.heap.size) (fun _ W => RBox w.heap.size W) ⟨hb1, fun args W => by kernel_rfl, fun k hk => by subst hk; exact hlt, fun p W hI => hI.odd, fun _ _ _ hI l => bblk l hI, fun _ _ _ q hI o hq _ => box_turn hI (by decide) o hq, fun _ _ _ hI _ => hI, fun p x W hI hk hL _ => by
    obtain ⟨r, hL⟩ := hL
    have := readsG_at x r p [[]] (by rw [hL]; exact hr) hk
    rw [show (getL (ownS p) x.t).isSome = true from this]
    exact reads1_any w.heap.size x W hI _⟩)
  have L1 := Lib.hid l1
  have hmf : ∀ (fn : Fn) (first cap : Array Value) (w : World), (Instr.makeFunc fn first cap).run Try.prog w = .ok (.func fn first cap) w := fun _ _ _ _ => rfl
  clear h hok hr l1 hb1 hlt
  go_enter Try.func36, Try.ntmps36
  go_wp2_with fail
  refine HP.out.mono ?_
  rintro e w1 ⟨q, rfl, _, hb, o1⟩
  have b0 := blk_cell hb 0
  simp only [List.getElem?_toArray, List.getElem?_cons_zero] at b0
  have HF := Lib.hid (show Below w.heap.size w w1 from L1.out.trans (o1.lo (fun k e => by omega) L1.out.size))
  clear hb o1
  go_wp2_with fail
  go_ret
  exact ⟨rfl, HF.out⟩
/-! ### Own -/
def ownG (fs : List Frm) : List Ev → Bool
  | [] => true
  | x :: r => (!(x.k == 2) || !(getL fs x.t).isSome || (getL fs x.t).getD 0 == x.v) && ownG (actS fs x) r
theorem ownG_snoc (x : Ev) : ∀ (p : List Ev) (fs : List Frm), ownG fs (p ++ [x]) = (ownG fs p && (!(x.k == 2) || !(getL (p.foldl actS fs) x.t).isSome || (getL (p.foldl actS fs) x.t).getD 0 == x.v)) := by
  intro p
  induction p with
  | nil => intro fs; simp [ownG]
  | cons y p ih =>
    intro fs
    rw [List.cons_append, ownG, ih, ownG, List.foldl_cons, Bool.and_assoc]
def ownOk (l : List Ev) (n : Int) : Bool := ownG [[]] (cutL l n)
def OBox (b : Nat) (p : List Ev) (W : World) : Prop := W.heap[b]? = some (.cells #[.bool (ownG [[]] p)] 4 (0, 0))
theorem OBox.odd {b : Nat} {p : List Ev} {W : World} (h : OBox b p W) : Strange W (fun k => k = b) := fun k hk => by
  subst hk
  exact .inr ⟨_, _, _, h, by decide, by decide, by decide⟩
set_option maxHeartbeats 1600000 in
theorem own1_any (b : Nat) (x : Ev) (W : World) (o : Bool) (h : W.heap[b]? = some (.cells #[.bool o] 4 (0, 0))) (g1 : Int) (g2 : Bool) :
    Calls Try.prog 58 #[evV x, .int .u64 g1, .bool g2, ptr b] W fun e W' => e = .returned (.tuple #[]) ∧ W'.heap[b]? = some (.cells #[.bool (o && (!g2 || g1 == x.v))] 4 (0, 0)) ∧ Only (fun k => k = b) W W' := by
  have lX := show Below W.heap.size W (W.alloc (.cells #[.int .u8 x.k, .int .i64 x.a, .int .i64 x.t, .int .u64 x.v] 52)) from by repeat (first | (with_reducible exact Below.refl _ _) | (with_reducible apply Below.drew) | (with_reducible refine below_drewN ?_ _) | (with_reducible refine below_alloc' ?_ ?_ _; (focus ((try simp) <;> omega))) | (with_reducible refine below_set' ?_ ?_ _; (focus ((try simp) <;> omega))))
  have hb := bblk lX h
  have hblt := blk_lt h
  have b0 := blk_cell h 0
  simp only [List.getElem?_toArray, List.getElem?_cons_zero] at b0
  have f0 := blk_free h 0
  have hbn : ¬ b = W.heap.size := by omega
  have HF := Lib.hid (fun u : Bool => show ((W.setCell ⟨b, 0, none⟩ (.bool u)).alloc (.cells #[.int .u8 x.k, .int .i64 x.a, .int .i64 x.t, .int .u64 x.v] 52)).heap[b]? = some (.cells #[.bool u] 4 (0, 0)) ∧ Only (fun k => k = b) W ((W.setCell ⟨b, 0, none⟩ (.bool u)).alloc (.cells #[.int .u8 x.k, .int .i64 x.a, .int .i64 x.t, .int .u64 x.v] 52)) from
    ⟨bblk (show Below (W.setCell ⟨b, 0, none⟩ (.bool u)).heap.size (W.setCell ⟨b, 0, none⟩ (.bool u)) _ from by repeat (first | (with_reducible exact Below.refl _ _) | (with_reducible apply Below.drew) | (with_reducible refine below_drewN ?_ _) | (with_reducible refine below_alloc' ?_ ?_ _; (focus ((try simp) <;> omega))) | (with_reducible refine below_set' ?_ ?_ _; (focus ((try simp) <;> omega))))) (blk_set h 0 (.bool u)), ((Only.refl (fun k => k = b) W).setCell (p := ⟨b, 0, none⟩) (.inr rfl) _).alloc _⟩)
  clear h hb lX
  obtain ⟨xk, xa, xt, xv⟩ := x
  simp only at *
  cases o <;> cases g2 <;> cases hv : (g1 == xv)
  all_goals
    go_enter Try.func58, Try.ntmps58
    go_wp2_with fail
    exact bodyPost_end (results_none rfl _ _ _) rfl ⟨rfl, (HF.out _).1, (HF.out _).2⟩
theorem ownH_any (w : World) (a : Option Addr) (n c : Nat) (l : List Ev) (h : EvsIn w a n l) (hok : ∀ x ∈ l, 0 ≤ x.v ∧ x.v < 18446744073709551616) (hn : n ≤ 1000000) (t : Int) :
    Calls Try.prog 37 #[.slice a n c, .int .i64 t] w fun e w' => e = .returned (.bool (ownOk l t)) ∧ Below w.heap.size w w' := by
  have l1 : Below w.heap.size w (w.alloc (.cells #[.bool true] 4)) := by repeat (first | (with_reducible exact Below.refl _ _) | (with_reducible apply Below.drew) | (with_reducible refine below_drewN ?_ _) | (with_reducible refine below_alloc' ?_ ?_ _; (focus ((try simp) <;> omega))) | (with_reducible refine below_set' ?_ ?_ _; (focus ((try simp) <;> omega))))
  have hb1 : OBox w.heap.size [] (w.alloc (.cells #[.bool true] 4)) := by unfold OBox; simp [↓heap_alloc_eq, ↓heap_set_eq, ↓heap_drew_eq, ↓heap_drewN_eq, setObj, size_drewN]; rfl
  have hlt := blk_lt hb1
  have HP := Lib.hid (play_any _ a n c l (h.below l1) hok hn t 58 #[ptr w.heap.size] (fun k => k = w.heap.size) (fun p W => OBox w.heap.size p W) ⟨hb1, fun args W => by kernel_rfl, fun k hk => by subst hk; exact hlt, fun p W hI => hI.odd, fun _ _ _ hI l => bblk l hI, fun _ _ _ q hI o hq _ => box_turn hI (by decide) o hq, fun p x W hI hk => by
    unfold OBox at hI ⊢
    rw [ownG_snoc, show (x.k == 2) = false by simpa using hk]
    simpa using hI, fun p x W hI hk hL _ => by
    refine (own1_any w.heap.size x W _ hI _ _).mono ?_
    rintro e W' ⟨h1, h2, h3⟩
    refine ⟨h1, ?_, h3⟩
    unfold OBox
    rw [ownG_snoc, hk]
    unfold ownS at h2
    simpa using h2⟩)
  have L1 := Lib.hid l1
  have hmf : ∀ (fn : Fn) (first cap : Array Value) (w : World), (Instr.makeFunc fn first cap).run Try.prog w = .ok (.func fn first cap) w := fun _ _ _ _ => rfl
  clear h hok l1 hb1 hlt
  unfold ownOk
  go_enter Try.func37, Try.ntmps37
  go_wp2_with fail
  refine HP.out.mono ?_
  rintro e w1 ⟨q, rfl, _, hb, o1⟩
  have b0 := blk_cell hb 0
  simp only [List.getElem?_toArray, List.getElem?_cons_zero] at b0
  have HF := Lib.hid (show Below w.heap.size w w1 from L1.out.trans (o1.lo (fun k e => by omega) L1.out.size))
  clear hb o1
  go_wp2_with fail
  go_ret
  exact ⟨rfl, HF.out⟩
end Go.Proofs.Ytfpiecnbnoinnaa.His
