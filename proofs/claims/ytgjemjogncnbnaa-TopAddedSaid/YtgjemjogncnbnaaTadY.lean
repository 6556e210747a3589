/- The law's own arrays beside the engine; an ask and a beginning. -/
import Derived.Test.YtgjemjogncnbnaaTadX
import Derived.Test.YtgjemjogncnbnaaRow
namespace Go.Proofs.Ytgjemjogncnbnaa.Tad
open Go.RowKit
set_option linter.unusedSimpArgs false
set_option linter.unusedVariables false
set_option maxRecDepth 50000

def KindA (w : World) (S : Nat → Prop) : Prop := ∀ k, S k → k < w.heap.size → ∃ cs t, w.heap[k]? = some (.cells cs t (0, 0)) ∧ t ∈ [28, 29]
theorem KindA.not {w : World} {S : Nat → Prop} (h : KindA w S) {k : Nat} {cs : Array Value} {t : TypeId} {fr : Nat × Nat} (hk : w.heap[k]? = some (.cells cs t fr)) (ht : t ∉ [28, 29]) : ¬ S k := by
  intro hS
  obtain ⟨cs', t', ho, hK⟩ := h k hS (blk_lt hk)
  rw [hk] at ho
  injection ho with ho
  injection ho with _ e _
  subst e
  exact ht hK
theorem KindA.map {w : World} {S : Nat → Prop} (h : KindA w S) {P : Program} {k : TypeId} {b n : Nat} {f : Int → Option Value} (hm : MapIs P k w b n f) : ¬ S b := by
  intro hS
  obtain ⟨cs', t', ho, _⟩ := h b hS hm.lt
  exact hm.not_cells ho
theorem rowA {w w' : World} {S : Nat → Prop} {base : Nat} {e : TypeId} {size n : Nat} {v : Value} {xs : List Value} (h : w.ownsRow base e size v n xs) (o : Only S w w') (hK : KindA w S) (he : e ∉ [28, 29]) : w'.ownsRow base e size v n xs :=
  ownsRow_only h o fun k hk hS => by
    obtain ⟨cs, hc⟩ := row_obj h hk
    exact hK.not hc he hS
theorem stackA {w w' : World} {S : Nat → Prop} (o : Only S w w') (hK : KindA w S) : ∀ {p : Value} {xs : List (Value × Wri.Frm)}, Wri.StackAt w p xs → Wri.StackAt w' p xs
  | _, [], h => h
  | _, x :: r, ⟨b, q, e, hb, hf, hl, hr⟩ => ⟨b, q, e, o.blk hb (hK.not hb (by decide)), rowA hf o hK (by decide), hl, stackA o hK hr⟩
theorem logA {w w' : World} {S : Nat → Prop} {b : Nat} {xs : List (Value × Wri.Frm)} (h : Wri.LogAt w b xs) (o : Only S w w') (hK : KindA w S) : Wri.LogAt w' b xs := by
  obtain ⟨a, h1, h2, h3⟩ := h
  exact ⟨a, o.blk h1 (hK.not h1 (by decide)), stackA o hK h2, h3⟩
theorem lockA {w w' : World} {S : Nat → Prop} {b : Nat} {s : Seq.St} (h : Seq.LockAt w b s) (o : Only S w w') (hK : KindA w S) : Seq.LockAt w' b s := by
  unfold Seq.LockAt at *
  split
  · rename_i e
    rw [e] at h
    exact o.blk h (hK.not h (by decide))
  · rename_i x e
    rw [e] at h
    obtain ⟨y, hy, h1, h2⟩ := h
    exact ⟨y, hy, o.blk h1 (hK.not h1 (by decide)), o.blk h2 (hK.not h2 (by decide))⟩
theorem setA {w w' : World} {S : Nat → Prop} {s bm : Nat} {es : List Rd.Ent} (h : SetE w s bm es) (o : Only S w w') (hK : KindA w S) : SetE w' s bm es := by
  obtain ⟨ov, h1, h2, h3, h4⟩ := h
  exact ⟨ov, o.blk h1 (hK.not h1 (by decide)), rowA h2 o hK (by decide), h3.only o (hK.map h3), h4⟩
/-- the law turns its own arrays -/
theorem EngAt.off {lo : Nat} {w w' : World} {eb : Nat} {B : Bk} {E : Eng} (h : EngAt lo w eb B E) {S : Nat → Prop} (o : Only S w w') (hK : KindA w S) : EngAt lo w' eb B E where
  obj := o.blk h.obj (hK.not h.obj (by decide))
  lock := lockA h.lock o hK
  linv := h.linv
  heap := rowA h.heap o hK (by decide)
  mp := h.mp.only o (hK.map h.mp)
  evs := h.evs.imp fun _ hr => rowA hr o hK (by decide)
  kys := h.kys.imp fun _ hr => rowA hr o hK (by decide)
  wys := h.wys.imp fun _ hr => rowA hr o hK (by decide)
  ths := fun t x e => by
    have hA := h.ths t x e
    obtain ⟨xs, hxe, hl⟩ := hA.log
    exact ⟨o.blk hA.obj (hK.not hA.obj (by decide)), setA hA.set o hK, xs, hxe, logA hl o hK⟩
  sep := h.sep
  sepm := h.sepm
  lo1 := h.lo1
  lo2 := h.lo2
  lo3 := h.lo3
theorem Mut.lo {lo : Nat} {w w1 w2 : World} (h : Below lo w w1) (o : Only (Mut lo w1) w1 w2) (hlo : lo ≤ w1.heap.size) : Below lo w w2 := h.trans (o.lo (fun k hk => hk.1) hlo)
def arr3 (f : Int → Value) : Array Value := #[f 0, f 1, f 2]
theorem arr3_get (f : Int → Value) {q : Nat} (h : q < 3) : (arr3 f)[q]? = some (f q) := by
  obtain rfl | rfl | rfl : q = 0 ∨ q = 1 ∨ q = 2 := by omega
  all_goals rfl
theorem arr3_set (f g : Int → Value) {q : Nat} (h : q < 3) (hg : ∀ s, g s = if s = (q : Int) then g q else f s) : (arr3 f).setIfInBounds q (g q) = arr3 g := by
  have h0 := hg 0; have h1 := hg 1; have h2 := hg 2
  obtain rfl | rfl | rfl : q = 0 ∨ q = 1 ∨ q = 2 := by omega
  · rw [if_neg (by decide)] at h1 h2
    simp [arr3, h1, h2]
  · rw [if_neg (by decide)] at h0 h2
    simp [arr3, h0, h2]
  · rw [if_neg (by decide)] at h0 h1
    simp [arr3, h0, h1]
def atV (a : Int → Nat) : Int → Value := fun s => .int .i64 (a s)
def gotV (g : Int → Nat) : Int → Value := fun s => .int .u64 (fI (g s) : Nat)
/-- the law's loop -/
structure Lw (w wr : World) (eb ab gb : Nat) (E : Eng) (B : Bk) (a g : Int → Nat) (done i : Nat) : Prop where
  eng : EngAt w.heap.size wr eb B E
  good : Good E a g done i
  at_ : wr.heap[ab]? = some (.cells (arr3 (atV a)) 28 (0, 0))
  got : wr.heap[gb]? = some (.cells (arr3 (gotV g)) 29 (0, 0))
  lo : Below w.heap.size w wr
  alo : w.heap.size ≤ ab
  glo : w.heap.size ≤ gb
section
variable {w wr w2 : World} {eb ab gb : Nat} {E E' : Eng} {B : Bk} {a g : Int → Nat} {done i : Nat}
theorem Lw.below (h : Lw w wr eb ab gb E B a g done i) (l : Below wr.heap.size wr w2) : Lw w w2 eb ab gb E B a g done i :=
  ⟨h.eng.below l, h.good, bblk l h.at_, bblk l h.got, btrans h.lo (Nat.le_refl _) l, h.alo, h.glo⟩
/-- behind a call of the engine -/
theorem Lw.turn (h : Lw w wr eb ab gb E B a g done i) {B' : Bk} {E' : Eng} (hE : EngAt w.heap.size w2 eb B' E') (o : Only (Mut w.heap.size wr) wr w2) {a' g' : Int → Nat} {done' : Nat} (G : Good E' a' g' done' (i + 1)) :
    EngAt w.heap.size w2 eb B' E' ∧ Good E' a' g' done' (i + 1) ∧ w2.heap[ab]? = some (.cells (arr3 (atV a)) 28 (0, 0)) ∧ w2.heap[gb]? = some (.cells (arr3 (gotV g)) 29 (0, 0)) ∧ Below w.heap.size w w2 :=
  ⟨hE, G, mut_keep o h.at_ (by decide), mut_keep o h.got (by decide), Mut.lo h.lo o h.lo.size⟩
/-- a store into the places -/
theorem at_store {q v : Nat} (hq : q < 3) {wr : World} (h1 : EngAt w.heap.size wr eb B E) (h3 : wr.heap[ab]? = some (.cells (arr3 (atV a)) 28 (0, 0))) (h4 : wr.heap[gb]? = some (.cells (arr3 (gotV g)) 29 (0, 0))) (h5 : Below w.heap.size w wr) (ha : w.heap.size ≤ ab) :
    let W := wr.setCell ⟨ab, q, none⟩ (.int .i64 v)
    EngAt w.heap.size W eb B E ∧ W.heap[ab]? = some (.cells (arr3 (atV (updN a q v))) 28 (0, 0)) ∧ W.heap[gb]? = some (.cells (arr3 (gotV g)) 29 (0, 0)) ∧ Below w.heap.size w W := by
  intro W
  have o : Only (fun k => k = ab) wr W := (Only.refl (fun k => k = ab) wr).setCell (p := ⟨ab, q, none⟩) (.inr rfl) _
  have hK : KindA wr (fun k => k = ab) := fun k hk _ => ⟨_, _, hk ▸ h3, by decide⟩
  refine ⟨h1.off o hK, ?_, o.blk h4 (blk_ne h4 h3 (by decide)), h5.setCell ha _⟩
  have hs : W.heap[ab]? = some (.cells ((arr3 (atV a)).setIfInBounds q (.int .i64 v)) 28 (0, 0)) := blk_set h3 q _
  rw [hs]
  have := arr3_set (atV a) (atV (updN a q v)) hq (fun s => by
    unfold atV
    by_cases e : s = (q : Int)
    · rw [if_pos e, e]
    · rw [if_neg e, updN_ne _ _ e])
  rw [← this]
  unfold atV
  rw [updN_same]
theorem got_store {q v : Nat} (hq : q < 3) {wr : World} (h1 : EngAt w.heap.size wr eb B E) (h3 : wr.heap[ab]? = some (.cells (arr3 (atV a)) 28 (0, 0))) (h4 : wr.heap[gb]? = some (.cells (arr3 (gotV g)) 29 (0, 0))) (h5 : Below w.heap.size w wr) (ha : w.heap.size ≤ gb) :
    let W := wr.setCell ⟨gb, q, none⟩ (.int .u64 (fI v : Nat))
    EngAt w.heap.size W eb B E ∧ W.heap[ab]? = some (.cells (arr3 (atV a)) 28 (0, 0)) ∧ W.heap[gb]? = some (.cells (arr3 (gotV (updN g q v))) 29 (0, 0)) ∧ Below w.heap.size w W := by
  intro W
  have o : Only (fun k => k = gb) wr W := (Only.refl (fun k => k = gb) wr).setCell (p := ⟨gb, q, none⟩) (.inr rfl) _
  have hK : KindA wr (fun k => k = gb) := fun k hk _ => ⟨_, _, hk ▸ h4, by decide⟩
  refine ⟨h1.off o hK, o.blk h3 (blk_ne h3 h4 (by decide)), ?_, h5.setCell ha _⟩
  have hs : W.heap[gb]? = some (.cells ((arr3 (gotV g)).setIfInBounds q (.int .u64 (fI v : Nat))) 29 (0, 0)) := blk_set h4 q _
  rw [hs]
  have := arr3_set (gotV g) (gotV (updN g q v)) hq (fun s => by
    unfold gotV
    by_cases e : s = (q : Int)
    · rw [if_pos e, e]
    · rw [if_neg e, updN_ne _ _ e])
  rw [← this]
  unfold gotV
  rw [updN_same]
end
/-- a thread that has asked for nothing asks -/
theorem ask_good {lo : Nat} {w : World} {eb : Nat} {B : Bk} {E : Eng} {a g : Int → Nat} {done i : Nat} (h : EngAt lo w eb B E) (G : Good E a g done i) (hi : i ≤ 150) (t : Int) (t0 : 0 ≤ t) (t3 : t < 3) {x : T} (hx : E.th t = some x) (hk : x.kd = 0) (kd av : Int)
    (hka : (a t = 0 ∧ kd = 1 ∧ av = 0) ∨ (a t = 1 ∧ kd = 2 ∧ av = (fI (g t + 1) : Nat)) ∨ (a t = 2 ∧ kd = 6 ∧ av = 0)) :
    ∃ E', Calls Try.prog 10 #[ptr eb, .int .i64 t, .agg #[.int .u8 kd, .int .i64 0, .int .u64 av]] w (fun e w' => e = .returned (.int .i64 0) ∧ EngAt lo w' eb B E' ∧ Only (Mut lo w) w w') ∧ Good E' (updN a t (a t + 1)) g done (i + 1) := by
  obtain ⟨⟨n, hnum, hn⟩, s, hsn, hsl, hp⟩ := G.th t x t0 t3 hx
  have hL := G.lk.bounds
  have hdi := G.di; have hmi := G.mi; have hgt := G.gi t
  have hf : x.fs.length = 1 := by
    cases hp with
    | new ha hk0 he hf hm => rw [hf]; rfl
    | read ha hk0 he hf hm st => rw [hf]; rfl
    | got ha hk0 he hf hm hg => rw [hf]; rfl
    | turn ha hk0 hat he hf hv hm => rw [hf]; rfl
    | put ha hk0 he hf hm => rw [hf]; rfl
    | com ha hk0 he hf hm st => rw [hf]; rfl
    | held ha hk0 hf hm hc st => rw [hf]; rfl
  have hkd : kd = 1 ∨ kd = 2 ∨ kd = 6 := by rcases hka with ⟨_, e, _⟩ | ⟨_, e, _⟩ | ⟨_, e, _⟩ <;> omega
  have hav : (0 ≤ av ∧ av < 18446744073709551616) ∧ Wri.rightVal av = true := by
    rcases hka with ⟨_, _, e⟩ | ⟨_, _, e⟩ | ⟨_, _, e⟩
    · subst e; decide
    · have := fI_u64 (g t + 1) (by omega)
      rw [e]
      exact ⟨by omega, fI_right _ (by omega)⟩
    · subst e; decide
  have hN : ∃ k : Nat, x.num = (k : Int) ∧ k < E.n := ⟨n, hnum, hn⟩
  have keepA : ∀ r, r ≠ t → updN a t (a t + 1) r = a r := fun r hr => updN_ne _ _ hr
  have keepG : ∀ r, r ≠ t → g r = g r := fun _ _ => rfl
  refine ⟨_, ask_any h t t0 t3 hx hk hf kd av hkd hav.1 hav.2, ?_⟩
  cases hp with
  | new ha hk0 he hf hm =>
    rcases hka with ⟨_, rfl, rfl⟩ | ⟨e, _, _⟩ | ⟨e, _, _⟩
    · exact G.set hm (Nat.le_succ_of_le hmi) (y := { x with kd := 1, av := 0, at_ := 0, next := 0 }) ⟨hN, s, hsn, hsl, .read (by rw [updN_same, ha]) rfl he hf hm (.z rfl)⟩ keepA keepG hgt
    · rw [ha] at e; cases e
    · rw [ha] at e; cases e
  | got ha hk0 he hf hm hg =>
    rcases hka with ⟨e, _, _⟩ | ⟨_, rfl, rfl⟩ | ⟨e, _, _⟩
    · rw [ha] at e; cases e
    · exact G.set hm (Nat.le_succ_of_le hmi) (y := { x with kd := 2, av := (fI (g t + 1) : Nat), at_ := 0, next := 0 }) ⟨hN, s, hsn, hsl, .turn (by rw [updN_same, ha]) rfl rfl he hf (by rw [hg]) hm⟩ keepA keepG hgt
    · rw [ha] at e; cases e
  | put ha hk0 he hf hm =>
    rcases hka with ⟨e, _, _⟩ | ⟨e, _, _⟩ | ⟨_, rfl, rfl⟩
    · rw [ha] at e; cases e
    · rw [ha] at e; cases e
    · exact G.set hm (Nat.le_succ_of_le hmi) (y := { x with kd := 6, av := 0, at_ := 0, next := 0 }) ⟨hN, s, hsn, hsl, .com (by rw [updN_same, ha]) rfl he hf hm (.z rfl)⟩ keepA keepG hgt
  | read ha hk1 he hf hm st => rw [hk] at hk1; cases hk1
  | turn ha hk1 hat he hf hv hm => rw [hk] at hk1; cases hk1
  | com ha hk1 he hf hm st => rw [hk] at hk1; cases hk1
  | held ha hk1 hf hm hc st => rw [hk] at hk1; cases hk1
theorem ask_place {E : Eng} {a g : Int → Nat} {done i : Nat} (G : Good E a g done i) (t : Int) (t0 : 0 ≤ t) (t3 : t < 3) {x : T} (hx : E.th t = some x) (hk : x.kd = 0) : a t = 0 ∨ a t = 1 ∨ a t = 2 := by
  obtain ⟨_, s, hsn, hsl, hp⟩ := G.th t x t0 t3 hx
  cases hp with
  | new ha hk0 he hf hm => exact .inl ha
  | got ha hk0 he hf hm hg => exact .inr (.inl ha)
  | put ha hk0 he hf hm => exact .inr (.inr ha)
  | read ha hk1 he hf hm st => rw [hk] at hk1; cases hk1
  | turn ha hk1 hat he hf hv hm => rw [hk] at hk1; cases hk1
  | com ha hk1 he hf hm st => rw [hk] at hk1; cases hk1
  | held ha hk1 hf hm hc st => rw [hk] at hk1; cases hk1
/-- a thread that has no attempt begins one -/
theorem begin_good {lo : Nat} {w : World} {eb : Nat} {B : Bk} {E : Eng} {a g : Int → Nat} {done i : Nat} (h : EngAt lo w eb B E) (hlo : lo ≤ w.heap.size) (G : Good E a g done i) (hi : i ≤ 150) (t : Int) (t0 : 0 ≤ t) (t3 : t < 3) (hx : E.th t = none) :
    ∃ (E' : Eng) (v er : Int), Calls Try.prog 8 #[ptr eb, .int .i64 t] w (RetPost lo w eb E' (.tuple #[.int .i64 v, .int .i64 er])) ∧ ((er = 4 ∧ Good E' a g done (i + 1)) ∨ ((er = 0 ∨ er = 7) ∧ Good E' (updN a t 0) g done (i + 1))) := by
  have hmi := G.mi; have h64 := G.n64; have hyn := G.yn; have hcn := G.cn
  have idle : Good E (updN a t 0) g done (i + 1) := {
    mi := Nat.le_succ_of_le hmi
    n64 := h64
    yn := hyn
    cn := hcn
    di := Nat.le_succ_of_le G.di
    gi := G.gi
    lk := G.lk
    th := fun r x r0 r3 e => by
      have hr : r ≠ t := fun e' => by rw [e', hx] at e; cases e
      rw [updN_ne _ _ hr]
      exact G.th r x r0 r3 e }
  have idle2 : Good E a g done (i + 1) := {
    mi := Nat.le_succ_of_le hmi
    n64 := h64
    yn := hyn
    cn := hcn
    di := Nat.le_succ_of_le G.di
    gi := G.gi
    lk := G.lk
    th := G.th }
  by_cases hn : E.n < 64
  · cases ho : E.lk.own with
    | some o => exact ⟨_, _, _, begin_busy h t t0 t3 hx hn ho, .inr ⟨.inr rfl, idle⟩⟩
    | none =>
      have hG := G.born hx ho hn (newT E.n E.lk.cnt) rfl rfl rfl rfl rfl
      exact ⟨_, _, _, begin_ok h hlo (by omega) t t0 t3 hx hn (by omega) (by omega) ho, .inr ⟨.inl rfl, hG⟩⟩
  · exact ⟨_, _, _, begin_full h t t0 t3 hx (by omega), .inl ⟨rfl, idle2⟩⟩
end Go.Proofs.Ytgjemjogncnbnaa.Tad
