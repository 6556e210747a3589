/- Get and Len of a log: they range over its frames. -/
import Derived.Test.YtgjemjogncnbnaaWriA
namespace Go.Proofs.Ytgjemjogncnbnaa.Wri
open Go.RowKit Go.Shelf
set_option linter.unusedSimpArgs false
set_option linter.unusedVariables false
set_option maxRecDepth 50000
attribute [local go_sem] Oper.semAt_some

theorem StackAt.len {w : World} : ∀ {p : Value} {xs ys : List (Value × Frm)}, StackAt w p xs → StackAt w p ys → xs.length = ys.length
  | _, [], [], _, _ => rfl
  | _, [], y :: ys, h, ⟨b, q, e, _⟩ => by rw [show _ = _ from h] at e; cases e
  | _, x :: xs, [], ⟨b, q, e, _⟩, h => by rw [show _ = _ from h] at e; cases e
  | _, x :: xs, y :: ys, ⟨b, q, e, hb, _, _, hr⟩, ⟨b', q', e', hb', _, _, hr'⟩ => by
    subst e
    injection e' with e1
    injection e1 with e1
    injection e1 with e1 _ _
    subst e1
    rw [hb] at hb'
    injection hb' with h1
    injection h1 with h2 _ _
    have h3 : q = q' := by
      have := congrArg (fun a : Array Value => a[1]?) h2
      simpa using this
    subst h3
    simp [StackAt.len hr hr']
open Classical in
/-- how many frames lie behind a pointer -/
noncomputable def lenOf (w : World) (v : Option Value) : Nat := if h : ∃ q xs, v = some q ∧ StackAt w q xs then (Classical.choose (Classical.choose_spec h)).length else 0
theorem lenOf_eq {w : World} {q : Value} {xs : List (Value × Frm)} (h : StackAt w q xs) : lenOf w (some q) = xs.length := by
  unfold lenOf
  have hx : ∃ q' xs', some q = some q' ∧ StackAt w q' xs' := ⟨q, xs, rfl, h⟩
  rw [dif_pos hx]
  have hs := Classical.choose_spec (Classical.choose_spec hx)
  have e := hs.1
  injection e with e
  exact StackAt.len hs.2 (Eq.subst (motive := fun z => StackAt w z xs) e h)
theorem StackAt.isPtr {w : World} {q : Value} {xs : List (Value × Frm)} (h : StackAt w q xs) : ∃ o, q = .pointer o := by
  cases xs with
  | nil => exact ⟨_, h⟩
  | cons x xs =>
    obtain ⟨b, q', e, _⟩ := h
    exact ⟨_, e⟩

theorem all_in (F : Fence) (n : Nat) (hf : F.fn 44) (hro : F.round = none) (p : Option Addr) (w : World) :
    CallsIn F n Try.prog 44 #[.pointer p] w fun e w' => e = .returned (.func (.func 64) #[] #[.pointer (some ⟨w.heap.size, 0, none⟩)]) ∧ w' = w.alloc (.cells #[.pointer p] 103) := by
  refine callsIn_of_wp Try.func44 rfl hf ?_ hro
  simp only [Try.ntmps44, List.size_toArray, List.length_cons, List.length_nil, Nat.reduceAdd, Nat.reduceSub, Array.replicate_succ, Array.replicate_zero, List.push_toArray, List.append_toArray, List.nil_append, List.cons_append]
  gi_wp2
  go_ret
  exact ⟨rfl, rfl⟩

set_option maxRecDepth 100000 in
set_option maxHeartbeats 2000000 in
theorem all_box (F : Fence) (n : Nat) (hf : F.fn 64) (hro : F.round = none) (hn : 1 ≤ n) (w0 w : World) (Bs : Nat) (p : Value) (zs : List (Value × Frm)) (hB : Boxed w Bs 103 p) (hnb : w0.heap.size ≤ Bs) (hS : StackAt w0 p zs) (hl : Below w0.heap.size w0 w) :
    SeqBox F n Try.prog 64 #[.pointer (some ⟨Bs, 0, none⟩)] (fun x : Value × Frm => #[x.1]) w0.heap.size Bs zs w := fun l J Jx W hW hJb hY h0 => by
  have hBW : Boxed W Bs 103 p := (hW.block Bs hB.lt).trans hB
  have hlW : Below w0.heap.size w0 W := hl.trans (hW.mono hl.size)
  refine callsIn_of_wp Try.func64 rfl hf ?_ hro
  simp only [Try.ntmps64, List.size_toArray, List.length_cons, List.length_nil, Nat.reduceAdd, Nat.reduceSub, Array.replicate_succ, Array.replicate_zero, List.push_toArray, List.append_toArray, List.nil_append, List.cons_append]
  gi_wp2
  gi_loopw [] (fun wr => ∃ (pre rest : List (Value × Frm)) (q : Value), zs = pre ++ rest ∧ Boxed wr Bs 103 q ∧ StackAt w0 q rest ∧ Below w0.heap.size w0 wr ∧ J pre wr) (fun wr => lenOf w0 (wr.cell? ⟨Bs, 0, none⟩))
  case atStart => exact ⟨[], zs, p, rfl, hBW, hS, hlW, h0⟩
  case round =>
    obtain ⟨pre, rest, q, hx, hb, hs, hlo, hJ⟩ := hrel
    have cb := hb.cell
    have fb := hb.frozen
    cases rest with
    | nil =>
      obtain rfl : q = .pointer none := hs
      gi_wp2
      go_end0
      exact ⟨⟨_, rfl⟩, .inl (by rw [hx, List.append_nil]; exact hJ)⟩
    | cons x rest =>
      have hs' := hs
      obtain ⟨b, q', rfl, hn', hf', hl', hr⟩ := hs
      obtain ⟨o', rfl⟩ := hr.isPtr
      have hbw : b < w0.heap.size := blk_lt hn'
      have hnr : wr.heap[b]? = some (.cells #[x.1, .pointer o'] 127 (0, 0)) := (hlo.block b hbw).trans hn'
      have c0 := blk_cell hnr 0
      simp only [List.getElem?_toArray, List.getElem?_cons_zero, List.getElem?_cons_succ] at c0
      obtain ⟨fn, tmps, assign, body, hy, hR⟩ := hY pre x wr hJ ⟨rest, hx⟩
      have HR := Lib.hid hR
      clear hR
      gi_wp2
      refine HR.out.mono ?_
      rintro e W3 (⟨rfl, hJ3, hk3⟩ | ⟨rfl, hJx3⟩)
      · have hb3 : Boxed W3 Bs 103 (ptr b) := hk3.box.trans hb
        have cb3 := hb3.cell
        have fb3 := hb3.frozen
        have hl3 : Below w0.heap.size w0 W3 := hlo.trans hk3.lo
        have hn3 : W3.heap[b]? = some (.cells #[x.1, .pointer o'] 127 (0, 0)) := (hl3.block b hbw).trans hn'
        have c1 := blk_cell hn3 1
        simp only [List.getElem?_toArray, List.getElem?_cons_zero, List.getElem?_cons_succ] at c1
        gi_wp2
        go_roundw
        case rel => exact ⟨pre ++ [x], rest, .pointer o', by rw [hx]; simp, hb3.set _, hr, hl3.setCell (p := ⟨Bs, 0, none⟩) hnb _, hJb _ _ _ hJ3⟩
        case measure =>
          rw [cb, (hb3.set (.pointer o')).cell, lenOf_eq hr, lenOf_eq hs']
          simp
      · gi_wp2
        refine bodyPost_ret (results_none rfl _ _ _) rfl ?_
        exact ⟨⟨_, rfl⟩, .inr ⟨_, hJx3⟩⟩

/-- a log in memory: its frames, the uppermost first -/
def LogAt (w : World) (b : Nat) (xs : List (Value × Frm)) : Prop :=
  ∃ o, w.heap[b]? = some (.cells #[.pointer o, .int .i64 ((xs.length : Int) - 1)] 105 (0, 0)) ∧ StackAt w (.pointer o) xs ∧ 1 ≤ xs.length ∧ xs.length ≤ 5
theorem LogAt.below {w w' : World} {b : Nat} {xs : List (Value × Frm)} (h : LogAt w b xs) (l : Below w.heap.size w w') : LogAt w' b xs := by
  obtain ⟨o, h1, h2, h3⟩ := h
  exact ⟨o, bblk l h1, h2.below l, h3⟩
theorem StackAt.mem {w : World} : ∀ {p : Value} {xs : List (Value × Frm)}, StackAt w p xs → ∀ x ∈ xs, FrAt w x.1 x.2 ∧ x.2.length ≤ 1000
  | _, [], _, x, hx => by cases hx
  | _, y :: ys, ⟨b, q, e, hb, hf, hl, hr⟩, x, hx => by
    rcases List.mem_cons.1 hx with rfl | hx
    · exact ⟨hf, hl⟩
    · exact StackAt.mem hr x hx
/-- how many entries all frames have -/
def lenAll (xs : List (Value × Frm)) : Int := (xs.map fun x => (x.2.length : Int)).sum
theorem lenAll_snoc (pre : List (Value × Frm)) (x : Value × Frm) : lenAll (pre ++ [x]) = lenAll pre + x.2.length := by simp [lenAll]
theorem lenAll_bound (xs : List (Value × Frm)) (h : ∀ x ∈ xs, x.2.length ≤ 1000) : 0 ≤ lenAll xs ∧ lenAll xs ≤ 1000 * xs.length := by
  induction xs with
  | nil => simp [lenAll]
  | cons x xs ih =>
    have h1 := ih (fun y hy => h y (List.mem_cons_of_mem _ hy))
    have h2 := h x (List.mem_cons_self ..)
    have e : lenAll (x :: xs) = x.2.length + lenAll xs := rfl
    rw [e, List.length_cons]
    omega
theorem keeps_of_below {B : Nat} {W W' : World} (h : Below W.heap.size W W') : KeepsFrom B W W' := ⟨h.size, fun k o _ hk _ => (h.block k (Array.getElem?_eq_some_iff.1 hk).1).trans hk⟩
theorem boxed_below {W W' : World} {B : Nat} {t : TypeId} {v : Value} (h : Boxed W B t v) (l : Below W.heap.size W W') : Boxed W' B t v := (l.block B h.lt).trans h
set_option maxRecDepth 100000 in
set_option maxHeartbeats 4000000 in
theorem len_in (F : Fence) (n : Nat) (h3 : F.fn 67) (h5 : F.fn 44) (h7 : F.fn 64) (hro : F.round = none) (hn : 3 ≤ n) (w : World) (b : Nat) (xs : List (Value × Frm)) (h : LogAt w b xs) :
    CallsIn F n Try.prog 67 #[ptr b] w fun e w' => e = .returned (.int .i64 (lenAll xs)) ∧ Below w.heap.size w w' := by
  have h1 : 1 ≤ n := by omega
  obtain ⟨o, hb, hS, hx1, hx5⟩ := h
  have hblt := blk_lt hb
  have b0 := blk_cell hb 0
  simp only [List.getElem?_toArray, List.getElem?_cons_zero] at b0
  refine callsIn_of_wp_marks Try.func67 rfl h3 ?_ hro
  simp only [Try.ntmps67, List.size_toArray, List.length_cons, List.length_nil, Nat.reduceAdd, Nat.reduceSub, Array.replicate_succ, Array.replicate_zero, List.push_toArray, List.append_toArray, List.nil_append, List.cons_append]
  gi_wp2_with (gi_at_call 44; refine (all_in F (n - 1) h5 hro _ _).mono ?_; rintro e w' ⟨rfl, rfl⟩)
  have bN := (Boxed.new w 3 (.int .i64 0)).alloc (.cells #[.pointer o] 103)
  have bS := Boxed.new (w.alloc (.cells #[.int .i64 0] 3)) 103 (.pointer o)
  simp only [World.size_alloc] at bS
  have hB0 : Below w.heap.size w ((w.alloc (.cells #[.int .i64 0] 3)).alloc (.cells #[.pointer o] 103)) := by repeat (first | (with_reducible exact Below.refl _ _) | (with_reducible apply Below.drew) | (with_reducible refine below_drewN ?_ _) | (with_reducible refine below_alloc' ?_ ?_ _; (focus ((try simp) <;> omega))) | (with_reducible refine below_set' ?_ ?_ _; (focus ((try simp) <;> omega))))
  have hsz : ((w.alloc (.cells #[.int .i64 0] 3)).alloc (.cells #[.pointer o] 103)).heap.size = w.heap.size + 2 := by simp
  obtain ⟨W0, hW0⟩ : ∃ W0, ((w.alloc (.cells #[.int .i64 0] 3)).alloc (.cells #[.pointer o] 103)) = W0 := ⟨_, rfl⟩
  rw [hW0] at bN bS hB0 hsz ⊢
  clear hW0
  refine range_box hro h1 (gf := 64) (lb := #[.pointer (some ⟨w.heap.size + 1, 0, none⟩)]) rfl h7 (enters_of Try.func64 (by kernel_rfl) rfl)
    (all_box F (n - 1) h7 hro (by omega) w W0 (w.heap.size + 1) (.pointer o) xs bS (by omega) hS hB0) (by omega) (by omega) (fun _ => rfl)
    (fun pre W => Boxed W w.heap.size 3 (.int .i64 (lenAll pre)) ∧ Below w.heap.size w W)
    (fun _ _ => False)
    (OwnFrom.and (Own.from (boxed_own _ _ _) _) (ownFrom_below (Nat.le_refl _) (by omega)))
    (fun _ _ _ _ hs _ _ => hs)
    (fun s W v hs => ⟨hs.1.other (by omega) _, hs.2.setCell (p := ⟨w.heap.size + 1, 0, none⟩) (by simp) _⟩)
    ⟨bN, hB0⟩
    (fun x => { tmps := #[ptr b, undef, .int .i64 0, .pointer (some ⟨w.heap.size, 0, none⟩), x.1, ptr b, .bool false, ptr b, .pointer (some ⟨b, 0, none⟩), .pointer (some ⟨b, 0, none⟩), .pointer o, .func (.func 64) #[] #[.pointer (some ⟨w.heap.size + 1, 0, none⟩)], x.1, undef, undef, undef, undef, undef], defers := [] }) ?assign ?body ?done ?stop
  case assign =>
    intro l x W K hK
    gi_wp2
    exact hK
  case body =>
    rintro l pre x W ⟨bN1, hB1⟩ ⟨post, hx⟩
    have cN := bN1.cell; have fN := bN1.frozen
    have hmem : x ∈ xs := by rw [hx]; simp
    obtain ⟨hF, hl⟩ := StackAt.mem hS x hmem
    have hbd := lenAll_bound pre (fun y hy => (StackAt.mem hS y (by rw [hx]; simp [hy])).2)
    have hpl : pre.length ≤ 5 := by rw [hx] at hx5; simp at hx5; omega
    have hw : IntKind.i64.wrap (lenAll pre + x.2.length) = lenAll pre + x.2.length := by rw [IntKind.wrap_i64]; omega
    have hw0 : IntKind.i64.wrap (lenAll pre) = lenAll pre := by rw [IntKind.wrap_i64]; omega
    have hsn := lenAll_snoc pre x
    obtain ⟨xv, xf⟩ := x
    simp only at hF hl hw hsn
    have HSN := Lib.hid hsn
    rcases frAt_slice hF with ⟨rfl, rfl⟩ | ⟨g, cap, rfl⟩
    all_goals
      clear hF hsn hx hmem hbd
      gi_wp2
      refine ⟨(KeepsOthers.setCell _ _ _).from _, ⟨(Below.refl w.heap.size W).setCell (p := ⟨w.heap.size, 0, none⟩) (Nat.le_refl _) _, ?_⟩, ?_, hB1.setCell (p := ⟨w.heap.size, 0, none⟩) (Nat.le_refl _) _⟩
      · exact Below.heap_setCell _ _ _ _ (by show w.heap.size + 1 ≠ w.heap.size; omega)
      · rw [HSN.out]
        first
          | exact bN1.set _
          | (have := bN1.set (.int .i64 (lenAll pre)); simpa using this)
  case done =>
    rintro D W hD ⟨bN1, hB1⟩ hK
    have cN := bN1.cell
    gi_wp2
    refine ⟨by simp, .inl ⟨_, _, rfl, run_takeDeferred hK, ?_⟩⟩
    exact ⟨_, results_tmp rfl _ _ _, rfl, hB1.trans (belowK_b (w := w) (Nat.le_refl _) W D _ _ (by omega) hK rfl rfl)⟩
  case stop =>
    rintro D pre W hD h _
    exact h.elim
theorem len_any (w : World) (b : Nat) (xs : List (Value × Frm)) (h : LogAt w b xs) : Calls Try.prog 67 #[ptr b] w fun e w' => e = .returned (.int .i64 (lenAll xs)) ∧ Below w.heap.size w w' :=
  callsIn_wide.1 (len_in Fence.wide 3 trivial trivial trivial rfl (by decide) w b xs h)

/-- what was written last to a variable -/
def getS : List (Value × Frm) → Int → Option Int
  | [], _ => none
  | x :: r, t => match getF x.2 t with | some v => some v | none => getS r t
theorem getS_hit {ini post : List (Value × Frm)} {x : Value × Frm} {t v : Int} (h : ∀ y ∈ ini, getF y.2 t = none) (hx : getF x.2 t = some v) : getS (ini ++ x :: post) t = some v := by
  induction ini with
  | nil => simp [getS, hx]
  | cons y ini ih =>
    have h0 := h y (List.mem_cons_self ..)
    simp only [List.cons_append, getS, h0]
    exact ih (fun z hz => h z (List.mem_cons_of_mem _ hz))
theorem getS_none {xs : List (Value × Frm)} {t : Int} (h : ∀ y ∈ xs, getF y.2 t = none) : getS xs t = none := by
  induction xs with
  | nil => rfl
  | cons y xs ih =>
    have h0 := h y (List.mem_cons_self ..)
    simp only [getS, h0]
    exact ih (fun z hz => h z (List.mem_cons_of_mem _ hz))
set_option maxRecDepth 100000 in
set_option maxHeartbeats 4000000 in
theorem get_in (n : Nat) (hn : 3 ≤ n) (w : World) (b : Nat) (xs : List (Value × Frm)) (h : LogAt w b xs) (t : Int) :
    CallsIn Fence.wide n Try.prog 22 #[ptr b, .int .i64 t] w fun e w' => e = .returned (.tuple #[.int .u64 ((getS xs t).getD 0), .bool (getS xs t).isSome]) ∧ Below w.heap.size w w' := by
  have h1 : 1 ≤ n := by omega
  obtain ⟨o, hb, hS, hx1, hx5⟩ := h
  have hblt := blk_lt hb
  have hB3 : Below w.heap.size w (((w.alloc (.cells #[.int .i64 t] 3)).alloc (.cells #[.int .u64 0] 26)).alloc (.cells #[.bool false] 4)) := by repeat (first | (with_reducible exact Below.refl _ _) | (with_reducible apply Below.drew) | (with_reducible refine below_drewN ?_ _) | (with_reducible refine below_alloc' ?_ ?_ _; (focus ((try simp) <;> omega))) | (with_reducible refine below_set' ?_ ?_ _; (focus ((try simp) <;> omega))))
  have b0 := blk_cell (bblk hB3 hb) 0
  simp only [List.getElem?_toArray, List.getElem?_cons_zero] at b0
  refine callsIn_of_wp_marks Try.func22 rfl trivial ?_ rfl
  simp only [Try.ntmps22, List.size_toArray, List.length_cons, List.length_nil, Nat.reduceAdd, Nat.reduceSub, Array.replicate_succ, Array.replicate_zero, List.push_toArray, List.append_toArray, List.nil_append, List.cons_append]
  gi_wp2_with (refine ⟨trivial, ?_⟩; gi_at_call 44; refine (all_in Fence.wide (n - 1) trivial rfl _ _).mono ?_; rintro e w' ⟨rfl, rfl⟩)
  have bT := (((Boxed.new w 3 (.int .i64 t)).alloc (.cells #[.int .u64 0] 26)).alloc (.cells #[.bool false] 4)).alloc (.cells #[.pointer o] 103)
  have bV := ((Boxed.new (w.alloc (.cells #[.int .i64 t] 3)) 26 (.int .u64 0)).alloc (.cells #[.bool false] 4)).alloc (.cells #[.pointer o] 103)
  have bI := (Boxed.new ((w.alloc (.cells #[.int .i64 t] 3)).alloc (.cells #[.int .u64 0] 26)) 4 (.bool false)).alloc (.cells #[.pointer o] 103)
  have bS := Boxed.new (((w.alloc (.cells #[.int .i64 t] 3)).alloc (.cells #[.int .u64 0] 26)).alloc (.cells #[.bool false] 4)) 103 (.pointer o)
  simp only [World.size_alloc] at bV bI bS
  have hB0 : Below w.heap.size w ((((w.alloc (.cells #[.int .i64 t] 3)).alloc (.cells #[.int .u64 0] 26)).alloc (.cells #[.bool false] 4)).alloc (.cells #[.pointer o] 103)) := by repeat (first | (with_reducible exact Below.refl _ _) | (with_reducible apply Below.drew) | (with_reducible refine below_drewN ?_ _) | (with_reducible refine below_alloc' ?_ ?_ _; (focus ((try simp) <;> omega))) | (with_reducible refine below_set' ?_ ?_ _; (focus ((try simp) <;> omega))))
  have hsz : ((((w.alloc (.cells #[.int .i64 t] 3)).alloc (.cells #[.int .u64 0] 26)).alloc (.cells #[.bool false] 4)).alloc (.cells #[.pointer o] 103)).heap.size = w.heap.size + 4 := by simp
  obtain ⟨W0, hW0⟩ : ∃ W0, ((((w.alloc (.cells #[.int .i64 t] 3)).alloc (.cells #[.int .u64 0] 26)).alloc (.cells #[.bool false] 4)).alloc (.cells #[.pointer o] 103)) = W0 := ⟨_, rfl⟩
  rw [hW0] at bT bV bI bS hB0 hsz ⊢
  clear hW0 hB3 b0
  refine range_box rfl h1 (gf := 64) (lb := #[.pointer (some ⟨w.heap.size + 1 + 1 + 1, 0, none⟩)]) rfl trivial (enters_of Try.func64 (by kernel_rfl) rfl)
    (all_box Fence.wide (n - 1) trivial rfl (by omega) w W0 (w.heap.size + 1 + 1 + 1) (.pointer o) xs bS (by omega) hS hB0) (by omega) (by omega) (fun _ => rfl)
    (fun pre W => (((∀ y ∈ pre, getF y.2 t = none) ∧ Boxed W w.heap.size 3 (.int .i64 t)) ∧ Boxed W (w.heap.size + 1) 26 (.int .u64 0) ∧ Boxed W (w.heap.size + 1 + 1) 4 (.bool false)) ∧ (Below w.heap.size w W ∧ W0.heap.size ≤ W.heap.size))
    (fun pre W => (∃ ini last post v, pre = ini ++ [last] ∧ xs = ini ++ last :: post ∧ (∀ y ∈ ini, getF y.2 t = none) ∧ getF last.2 t = some v ∧ Boxed W (w.heap.size + 1) 26 (.int .u64 v) ∧ Boxed W (w.heap.size + 1 + 1) 4 (.bool true)) ∧ Below w.heap.size w W)
    (OwnFrom.and (OwnFrom.and (OwnFrom.and (ownFrom_pure _ _) (Own.from (boxed_own _ _ _) _)) (OwnFrom.and (Own.from (boxed_own _ _ _) _) (Own.from (boxed_own _ _ _) _))) (OwnFrom.and (ownFrom_below (Nat.le_refl _) (by omega)) (fun _ X Y row hs hg hr => Nat.le_trans hs hg.size)))
    (OwnFrom.and (fun s X Y row hs hg hr => by
      obtain ⟨ini, last, post, v, e1, e2, e3, e4, e5, e6⟩ := hs
      exact ⟨ini, last, post, v, e1, e2, e3, e4, boxed_own _ _ (fun (_ : Unit) => Value.int .u64 v) () X Y row e5 hg (fun r e => (hr r e).2), boxed_own _ _ (fun (_ : Unit) => Value.bool true) () X Y row e6 hg (fun r e => (hr r e).2)⟩) (ownFrom_below (Nat.le_refl _) (by omega)))
    (fun s W v hs => ⟨⟨⟨hs.1.1.1, hs.1.1.2.other (by omega) _⟩, hs.1.2.1.other (by omega) _, hs.1.2.2.other (by omega) _⟩, hs.2.1.setCell (p := ⟨w.heap.size + 1 + 1 + 1, 0, none⟩) (by simp; omega) _, by have := hs.2.2; simpa using this⟩)
    ⟨⟨⟨by simp, bT⟩, bV, bI⟩, hB0, Nat.le_refl _⟩
    (fun x => { tmps := #[ptr b, .int .i64 t, undef, .pointer (some ⟨w.heap.size, 0, none⟩), .pointer (some ⟨w.heap.size + 1, 0, none⟩), .pointer (some ⟨w.heap.size + 1 + 1, 0, none⟩), x.1, undef, undef, ptr b, .bool false, ptr b, .pointer (some ⟨b, 0, none⟩), .pointer (some ⟨b, 0, none⟩), .pointer o, .func (.func 64) #[] #[.pointer (some ⟨w.heap.size + 1 + 1 + 1, 0, none⟩)], x.1, undef, undef, undef, undef, undef, undef, undef, undef], defers := [] }) ?assign ?body ?done ?stop
  case assign =>
    intro l x W K hK
    gi_wp2
    exact hK
  case body =>
    rintro l pre x W ⟨⟨⟨hp, bT1⟩, bV1, bI1⟩, hB1, hs1⟩ ⟨post, hx⟩
    have cT := bT1.cell
    have hmem : x ∈ xs := by rw [hx]; simp
    obtain ⟨hF, hl⟩ := StackAt.mem hS x hmem
    have hFW : FrAt W x.1 x.2 := frAt_below (w := w) hF hB1
    have hG := get_any W x.1 x.2 hFW hl t
    have h1' : 1 ≤ n - 1 - 1 := by omega
    clear hF hFW hmem
    cases hgx : getF x.2 t with
    | none =>
      rw [hgx] at hG
      have HG := Lib.hid hG; have HGX := Lib.hid hgx
      clear hG hgx
      gi_wp2_with (refine ⟨trivial, ?_⟩; gi_at_call 45; refine (CallsIn.inRound l (callsIn_wide.2 HG.out)).mono ?_; rintro e W' ⟨rfl, hbl⟩)
      exact ⟨keeps_of_below hbl, ⟨hbl.mono hB1.size, hbl.block _ (by omega)⟩, ⟨⟨fun y hy => (List.mem_append.1 hy).elim (hp y) (fun e => by simp at e; subst e; exact HGX.out), boxed_below bT1 hbl⟩, boxed_below bV1 hbl, boxed_below bI1 hbl⟩, btrans hB1 (Nat.le_refl _) hbl, Nat.le_trans hs1 hbl.size⟩
    | some v =>
      rw [hgx] at hG
      have HG := Lib.hid hG; have HGX := Lib.hid hgx
      clear hG hgx
      gi_wp2_with (refine ⟨trivial, ?_⟩; gi_at_call 45; refine (CallsIn.inRound l (callsIn_wide.2 HG.out)).mono ?_; rintro e W' ⟨rfl, hbl⟩; have bV2 := boxed_below bV1 hbl; have bI2 := boxed_below bI1 hbl; have cV := bV2.cell; have fV := bV2.frozen; have cI := bI2.cell; have fI := bI2.frozen)
      exact ⟨(keeps_of_below hbl).trans (((KeepsOthers.setCell _ _ _).trans (KeepsOthers.setCell _ _ _)).from _), ⟨pre, x, post, v, rfl, hx, hp, HGX.out, (bV2.set _).other (by omega) _, (bI2.other (by omega) _).set _⟩, ((btrans hB1 (Nat.le_refl _) hbl).setCell (p := ⟨w.heap.size + 1, 0, none⟩) (by simp) _).setCell (p := ⟨w.heap.size + 1 + 1, 0, none⟩) (by simp; omega) _⟩
  case done =>
    rintro D W hD ⟨⟨⟨hp, bT1⟩, bV1, bI1⟩, hB1, hs1⟩ hK
    have cV := bV1.cell; have fV := bV1.frozen
    have cI := bI1.cell; have fI := bI1.frozen
    gi_wp2
    have hK2 := ((KeepsOthers.setCell W ⟨w.heap.size + 1, 0, none⟩ (.int .u64 0)).trans (KeepsOthers.setCell _ ⟨w.heap.size + 1 + 1, 0, none⟩ (.bool false))).same D _ hK rfl
    have bR2 := (bV1.set (.int .u64 0)).other (B' := w.heap.size + 1 + 1) (by omega) (.bool false)
    have bB2 := (bI1.other (B' := w.heap.size + 1) (by omega) (.int .u64 0)).set (.bool false)
    have hZ : Below w.heap.size w ((W.setCell ⟨w.heap.size + 1, 0, none⟩ (.int .u64 0)).setCell ⟨w.heap.size + 1 + 1, 0, none⟩ (.bool false)) := (hB1.setCell (p := ⟨w.heap.size + 1, 0, none⟩) (by simp) _).setCell (p := ⟨w.heap.size + 1 + 1, 0, none⟩) (by simp; omega) _
    generalize (W.setCell ⟨w.heap.size + 1, 0, none⟩ (.int .u64 0)).setCell ⟨w.heap.size + 1 + 1, 0, none⟩ (.bool false) = WZ at *
    refine ⟨by simp, .inl ⟨_, _, rfl, run_takeDeferred hK2, ?_⟩⟩
    have c5 := cell_kept bR2.cell (grownBy_putObj' _ D (.deferred none)) (fun r e => by cases e; exact ⟨_, hK2, rfl⟩)
    have c6 := cell_kept bB2.cell (grownBy_putObj' _ D (.deferred none)) (fun r e => by cases e; exact ⟨_, hK2, rfl⟩)
    rw [getS_none hp]
    refine ⟨.tuple #[.int .u64 0, .bool false], ?_, rfl, hZ.trans (belowK_b (w := w) (Nat.le_refl _) _ D _ _ (by omega) hK2 rfl rfl)⟩
    simp [results, Try.f22, go_sem, c5, c6]
  case stop =>
    rintro D pre W hD ⟨⟨ini, last, post, v, e1, e2, e3, e4, e5, e6⟩, hB⟩ hK
    gi_wp2
    refine ⟨by simp, .inl ⟨_, _, rfl, run_takeDeferred hK, ?_⟩⟩
    have c5 := cell_kept e5.cell (grownBy_putObj' _ D (.deferred none)) (fun r e => by cases e; exact ⟨_, hK, rfl⟩)
    have c6 := cell_kept e6.cell (grownBy_putObj' _ D (.deferred none)) (fun r e => by cases e; exact ⟨_, hK, rfl⟩)
    rw [e2, getS_hit e3 e4]
    refine ⟨.tuple #[.int .u64 v, .bool true], ?_, rfl, hB.trans (belowK_b (w := w) (Nat.le_refl _) W D _ _ (by omega) hK rfl rfl)⟩
    simp [results, Try.f22, go_sem, c5, c6]
theorem lget_any (w : World) (b : Nat) (xs : List (Value × Frm)) (h : LogAt w b xs) (t : Int) : Calls Try.prog 22 #[ptr b, .int .i64 t] w fun e w' => e = .returned (.tuple #[.int .u64 ((getS xs t).getD 0), .bool (getS xs t).isSome]) ∧ Below w.heap.size w w' :=
  callsIn_wide.1 (get_in 3 (by decide) w b xs h t)
end Go.Proofs.Ytgjemjogncnbnaa.Wri
