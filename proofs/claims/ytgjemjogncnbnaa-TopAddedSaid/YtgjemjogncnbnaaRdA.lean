/- What an attempt has read: the set in memory; New, Add. -/
import Derived.Test.YtgjemjogncnbnaaMap
import Derived.Test.YtgjemjogncnbnaaVal
import Derived.Test.YtgjemjogncnbnaaHeld
import Derived.Deep.RegionLaw
namespace Go.Proofs.Ytgjemjogncnbnaa.Rd
open Go.RowKit
set_option linter.unusedSimpArgs false
set_option linter.unusedVariables false
set_option maxRecDepth 50000

abbrev ptr (b : Nat) : Value := .pointer (some ⟨b, 0, none⟩)
/-- variable, value, version -/
abbrev Ent := Int × Int × Int
def entV (e : Ent) : Value := .agg #[.int .i64 e.1, .int .u64 e.2.1, .int .u64 e.2.2]
def getE (es : List Ent) (t : Int) : Option Ent := es.find? fun e => e.1 == t
def setM (es : List Ent) : Int → Option Value := fun t => (getE es t).map entV
def ordVals (es : List Ent) : List Value := es.map fun e => .int .i64 e.1
def okT (t : Int) : Prop := 0 ≤ t ∧ t < 12
instance (t : Int) : Decidable (okT t) := inferInstanceAs (Decidable (_ ∧ _))
theorem okT_in {t : Int} (h : okT t) : inInt t := ⟨by have := h.1; omega, by have := h.2; omega⟩
def addE (es : List Ent) (t v ver : Int) : Int :=
  if ¬ okT t ∨ 1099511627776 < ver then 2 else if rightVal v = false then 3 else if (getE es t).isSome then 0 else if 8 ≤ es.length then 4 else 0
def addS (es : List Ent) (t v ver : Int) : List Ent := if addE es t v ver = 0 ∧ getE es t = none then es ++ [(t, v, ver)] else es
theorem getE_snoc (es : List Ent) (e : Ent) (s : Int) : getE (es ++ [e]) s = (getE es s).or (if e.1 = s then some e else none) := by
  unfold getE
  rw [List.find?_append]
  congr 1
  by_cases h : e.1 = s <;> simp [h]
theorem setM_snoc {es : List Ent} {t v ver : Int} (h : getE es t = none) : updM (setM es) t (some (entV (t, v, ver))) = setM (es ++ [(t, v, ver)]) := by
  funext s
  unfold updM setM
  rw [getE_snoc]
  by_cases hs : s = t
  · subst hs
    rw [if_pos rfl, h]
    simp
  · rw [if_neg hs]
    have : ¬ t = s := fun e => hs e.symm
    simp [this]
theorem zeroE (w : World) : (zeroValue 93).run Try.prog w = .ok (.agg #[.int .i64 0, .int .u64 0, .int .u64 0]) w := by kernel_rfl
theorem wp_at {P : Program} {c : Code} {Q : Exit → Act → World → Prop} {a : Act} {w : World} (R : World → Prop) (hw : R w) (h : ∀ w', R w' → c.wp P Q a w') : c.wp P Q a w := h w hw
theorem ownsRow_slice {w : World} {base : Nat} {e : TypeId} {size n : Nat} {v : Value} {xs : List Value} (h : w.ownsRow base e size v n xs) : ∃ a c, v = .slice a n c := by
  rcases h.2 with ⟨rfl, rfl⟩ | ⟨g, cap, cur, rfl, _⟩
  · exact ⟨_, _, rfl⟩
  · exact ⟨_, _, rfl⟩
theorem row_ne {w : World} {base : Nat} {e : TypeId} {size n : Nat} {v : Value} {xs : List Value} (h : w.ownsRow base e size v n xs) {k : Nat} {cs : Array Value} {t : TypeId} {fr : Nat × Nat} (hb : w.heap[k]? = some (.cells cs t fr)) (ht : t ≠ e) : v.ownBlock ≠ some k := by
  intro hk
  rcases h.2 with ⟨rfl, _⟩ | ⟨g, cap, cur, rfl, _, hg, _⟩
  · cases hk
  · have : g = k := by simpa [Value.ownBlock] using hk
    subst this
    rw [hg] at hb
    injection hb with hb
    injection hb with _ hb _
    exact ht hb.symm
theorem row_ne_map {w : World} {base : Nat} {e : TypeId} {size n : Nat} {v : Value} {xs : List Value} (h : w.ownsRow base e size v n xs) {P : Program} {k : TypeId} {b m : Nat} {f : Int → Option Value} (hb : MapIs P k w b m f) : v.ownBlock ≠ some b := by
  intro hk
  rcases h.2 with ⟨rfl, _⟩ | ⟨g, cap, cur, rfl, _, hg, _⟩
  · cases hk
  · have : g = b := by simpa [Value.ownBlock] using hk
    subst this
    exact hb.not_cells hg
theorem ordVals_one (es : List Ent) : ∀ u ∈ ordVals es, u.oneCell' = true := by
  intro u hu
  obtain ⟨e, _, rfl⟩ := List.mem_map.1 hu
  rfl
theorem infoI : (Try.prog.info? 3).map (fun i => (i.zero, i.size, i.bytes)) = some (some (.int .i64 0), 1, 8) := by kernel_rfl
/-- a set in memory; F: the blocks that are its own -/
def SetAt (w : World) (b : Nat) (F : Nat → Prop) (es : List Ent) : Prop :=
  ∃ ov bm, w.heap[b]? = some (.cells #[ov, .map (some bm)] 117 (0, 0)) ∧ w.ownsRow 0 3 1 ov es.length (ordVals es) ∧ MapIs Try.prog 3 w bm es.length (setM es) ∧
    F b ∧ F bm ∧ (∀ k, ov.ownBlock = some k → F k) ∧ Within F w ∧ es.length ≤ 8
theorem SetAt.only {S F : Nat → Prop} {w w' : World} {b : Nat} {es : List Ent} (h : SetAt w b F es) (ho : Only S w w') (hs : Apart F S) : SetAt w' b F es := by
  obtain ⟨ov, bm, h1, h2, h3, f1, f2, f3, f4, h5⟩ := h
  exact ⟨ov, bm, ho.blk h1 (hs _ f1), ownsRow_only h2 ho (fun k hk => hs _ (f3 k hk)), h3.only ho (hs _ f2), f1, f2, f3, f4.only ho, h5⟩
theorem SetAt.below {F : Nat → Prop} {w w' : World} {b : Nat} {es : List Ent} (h : SetAt w b F es) (l : Below w.heap.size w w') : SetAt w' b F es :=
  h.only (Only.empty l (Nat.le_refl _)) (fun _ _ h => h)
theorem SetAt.grow {F : Nat → Prop} {w w' : World} {b : Nat} {es : List Ent} (h : SetAt w b F es) (l : Below w.heap.size w w') : SetAt w' b (Grow F w w') es := by
  obtain ⟨ov, bm, h1, h2, h3, f1, f2, f3, f4, h5⟩ := h.below l
  obtain ⟨_, _, _, _, _, _, _, _, g4, _⟩ := h
  exact ⟨ov, bm, h1, h2, h3, .inl f1, .inl f2, fun k hk => .inl (f3 k hk), g4.grow l.size, h5⟩
theorem new_any (w : World) : Calls Try.prog 27 #[] w fun e w' => ∃ b, e = .returned (ptr b) ∧ SetAt w' b (Grow (fun _ => False) w w') [] ∧ Below w.heap.size w w' := by
  have hmm := @run_makeMap Try.prog
  go_enter Try.func27, Try.ntmps27
  go_wp2
  go_ret
  refine ⟨w.heap.size + 1, rfl, ⟨.slice none 0 0, w.heap.size, ?_, World.ownsRow_nil _ _ _ _, ?_, ?_, ?_, ?_, ?_, by decide⟩, by repeat (first | (with_reducible exact Below.refl _ _) | (with_reducible apply Below.drew) | (with_reducible refine below_drewN ?_ _) | (with_reducible refine below_alloc' ?_ ?_ _; (focus ((try simp) <;> omega))) | (with_reducible refine below_set' ?_ ?_ _; (focus ((try simp) <;> omega))))⟩
  · simp [↓heap_alloc_eq, ↓heap_set_eq, ↓heap_drew_eq, ↓heap_drewN_eq, setObj, size_drewN]
  · exact ((MapIs.made Try.prog 3 w).below (by repeat (first | (with_reducible exact Below.refl _ _) | (with_reducible apply Below.drew) | (with_reducible refine below_drewN ?_ _) | (with_reducible refine below_alloc' ?_ ?_ _; (focus ((try simp) <;> omega))) | (with_reducible refine below_set' ?_ ?_ _; (focus ((try simp) <;> omega))))))
  · exact .inr ⟨by omega, by simp⟩
  · exact .inr ⟨by omega, by simp; omega⟩
  · intro k hk; cases hk
  · rintro k (hk | ⟨_, hk⟩)
    · exact hk.elim
    · exact hk

theorem add_range (w : World) (b : Nat) (t v ver : Int) (h : ¬ okT t ∨ 1099511627776 < ver) : Calls Try.prog 47 #[ptr b, .agg #[.int .i64 t, .int .u64 v, .int .u64 ver]] w fun e w' => e = .returned (.int .i64 2) ∧ Below w.heap.size w w' := by
  by_cases h1 : t < 0
  · have hd : decide (t < 0) = true := by simpa using h1
    clear h h1
    go_enter Try.func47, Try.ntmps47
    go_wp2_with fail
    go_ret
    exact ⟨rfl, by repeat (first | (with_reducible exact Below.refl _ _) | (with_reducible apply Below.drew) | (with_reducible refine below_drewN ?_ _) | (with_reducible refine below_alloc' ?_ ?_ _; (focus ((try simp) <;> omega))) | (with_reducible refine below_set' ?_ ?_ _; (focus ((try simp) <;> omega))))⟩
  · have hd : decide (t < 0) = false := by simpa using h1
    by_cases h2 : 12 ≤ t
    · have hd2 : decide (12 ≤ t) = true := by simpa using h2
      clear h h1 h2
      go_enter Try.func47, Try.ntmps47
      go_wp2_with fail
      go_ret
      exact ⟨rfl, by repeat (first | (with_reducible exact Below.refl _ _) | (with_reducible apply Below.drew) | (with_reducible refine below_drewN ?_ _) | (with_reducible refine below_alloc' ?_ ?_ _; (focus ((try simp) <;> omega))) | (with_reducible refine below_set' ?_ ?_ _; (focus ((try simp) <;> omega))))⟩
    · have hd2 : decide (12 ≤ t) = false := by simpa using h2
      have h3 : 1099511627776 < ver := h.resolve_left (fun hn => hn ⟨by omega, by omega⟩)
      have hd3 : decide (1099511627776 < ver) = true := by simpa using h3
      clear h h1 h2 h3
      go_enter Try.func47, Try.ntmps47
      go_wp2_with fail
      go_ret
      exact ⟨rfl, by repeat (first | (with_reducible exact Below.refl _ _) | (with_reducible apply Below.drew) | (with_reducible refine below_drewN ?_ _) | (with_reducible refine below_alloc' ?_ ?_ _; (focus ((try simp) <;> omega))) | (with_reducible refine below_set' ?_ ?_ _; (focus ((try simp) <;> omega))))⟩
theorem add_form (w : World) (b : Nat) (t v ver : Int) (ht : okT t) (hver : ver ≤ 1099511627776) (hv : 0 ≤ v ∧ v < 18446744073709551616) (hr : rightVal v = false) : Calls Try.prog 47 #[ptr b, .agg #[.int .i64 t, .int .u64 v, .int .u64 ver]] w fun e w' => e = .returned (.int .i64 3) ∧ Below w.heap.size w w' := by
  have ht1 : decide (t < 0) = false := (by simp; exact ht.1); have ht2 : decide (12 ≤ t) = false := (by simp; exact ht.2); have ht3 : decide (1099511627776 < ver) = false := (by simpa using hver)
  have hR := fun W => vRight_any W v hv
  rw [hr] at hR
  have HR := Lib.hid hR
  clear hR hr ht hver hv
  go_enter Try.func47, Try.ntmps47
  go_wp2_with fail; refine (HR.out _).mono ?_; rintro e w0 ⟨rfl, rfl⟩
  go_wp2_with fail
  go_ret
  exact ⟨rfl, by repeat (first | (with_reducible exact Below.refl _ _) | (with_reducible apply Below.drew) | (with_reducible refine below_drewN ?_ _) | (with_reducible refine below_alloc' ?_ ?_ _; (focus ((try simp) <;> omega))) | (with_reducible refine below_set' ?_ ?_ _; (focus ((try simp) <;> omega))))⟩
set_option maxHeartbeats 1600000 in
theorem add_is (w : World) (b : Nat) (F : Nat → Prop) (es : List Ent) (h : SetAt w b F es) (t v ver : Int) (ht : okT t) (hver : ver ≤ 1099511627776) (hv : 0 ≤ v ∧ v < 18446744073709551616) (hr : rightVal v = true) (hg : (getE es t).isSome) :
    Calls Try.prog 47 #[ptr b, .agg #[.int .i64 t, .int .u64 v, .int .u64 ver]] w fun e w' => e = .returned (.int .i64 0) ∧ Below w.heap.size w w' := by
  have ht1 : decide (t < 0) = false := (by simp; exact ht.1); have ht2 : decide (12 ≤ t) = false := (by simp; exact ht.2); have ht3 : decide (1099511627776 < ver) = false := (by simpa using hver); have hR := fun W => vRight_any W v hv; rw [hr] at hR; have HR := Lib.hid hR; have HSET := Lib.hid h; obtain ⟨ov, bm, hb, ho, hm, f1, f2, f3, f4, h8⟩ := h; obtain ⟨W, hW⟩ : ∃ W, w.alloc (.cells #[.int .i64 t, .int .u64 v, .int .u64 ver] 93) = W := ⟨_, rfl⟩; have lW : Below w.heap.size w W := (by rw [← hW]; repeat (first | (with_reducible exact Below.refl _ _) | (with_reducible apply Below.drew) | (with_reducible refine below_drewN ?_ _) | (with_reducible refine below_alloc' ?_ ?_ _; (focus ((try simp) <;> omega))) | (with_reducible refine below_set' ?_ ?_ _; (focus ((try simp) <;> omega))))); have hx : W.heap[w.heap.size]? = some (.cells #[.int .i64 t, .int .u64 v, .int .u64 ver] 93 (0, 0)) := (by rw [← hW]; exact blk_new _ _); have hblt := blk_lt hb; have hzW := lW.size; have hxlt := blk_lt hx; have hbW : b < W.heap.size := (by omega); have hbn : ¬ b = W.heap.size := (by omega); have hbn2 : ¬ W.heap.size = b := (by omega); have hwn : ¬ w.heap.size = W.heap.size := (by omega); have hwn2 : ¬ W.heap.size = w.heap.size := (by omega)
  have x0 := blk_cell hx 0; have x1 := blk_cell hx 1; have x2 := blk_cell hx 2; have b0 := blk_cell (bblk lW hb) 0; have b1 := blk_cell (bblk lW hb) 1; simp only [List.getElem?_toArray, List.getElem?_cons_zero, List.getElem?_cons_succ] at x0 x1 x2 b0 b1
  have hlook : ∀ W', Below W.heap.size W W' → (Instr.lookup 114 (.map (some bm)) (.int .i64 t) true).run Try.prog W' = .ok (.tuple #[((setM es) t).getD (.agg #[.int .i64 0, .int .u64 0, .int .u64 0]), .bool ((setM es) t).isSome]) W' :=
    fun W' l => ((hm.below lW).below l).look_ok (by kernel_rfl) Try.underlying114 (zeroE _) (okT_in ht)
  obtain ⟨q, hq⟩ : ∃ q, getE es t = some q := Option.isSome_iff_exists.1 hg
  rw [show setM es t = some (entV q) by unfold setM; rw [hq]; rfl] at hlook
  simp only [Option.getD_some, Option.isSome_some] at hlook
  obtain ⟨qt, qv, qr⟩ := q
  unfold entV at hlook
  simp only at hlook
  have KW := Lib.hid (show ∀ W', Below W.heap.size W W' → (W'.cell? ⟨b, 1, none⟩ = some (.map (some bm)) ∧ W'.cell? ⟨w.heap.size, 0, none⟩ = some (.int .i64 t) ∧ _) from fun W' l => ⟨bkeep l b1, bkeep l x0, hlook W' l⟩)
  have LW := Lib.hid lW; have HW := Lib.hid hW
  clear hR hr ht hver hv hb ho hm hx hg hq lW hW hlook
  go_enter Try.func47, Try.ntmps47; go_wp2_with fail; rw [HW.out]; go_wp2_with fail; refine (HR.out _).mono ?_; rintro e w0 ⟨rfl, rfl⟩; go_wp2_with fail; refine wp_region_F (fun w' => Below W.heap.size W w') 12 (by kernel_rfl) ?_; have hS0 : Below W.heap.size W W.drew := (Below.refl _ _).drew; refine wpAnyF_take (i := 0) (v := ?_) rfl (by kernel_rfl) (by kernel_rfl) (by kernel_rfl) (by kernel_rfl) (fun _ _ _ h => h) (Or.inl ⟨by rfl, ?_⟩) (by assumption) ?_; rotate_left; (focus (intro w hSw; (skip); (first | (go_simp; done) | (go_simp; with_reducible rfl)))); (try simp only [Act.put, List.setIfInBounds_toArray, List.set_cons_zero, List.set_cons_succ]); refine wpAnyF_take (i := 1) (v := ?_) rfl (by kernel_rfl) (by kernel_rfl) (by kernel_rfl) (by kernel_rfl) (fun _ _ _ h => h) (Or.inl ⟨by rfl, ?_⟩) (by assumption) ?_; rotate_left; (focus (intro w hSw; (skip); (first | (go_simp; done) | (go_simp; with_reducible rfl)))); (try simp only [Act.put, List.setIfInBounds_toArray, List.set_cons_zero, List.set_cons_succ]); refine wpAnyF_take (i := 2) (v := ?_) rfl (by kernel_rfl) (by kernel_rfl) (by kernel_rfl) (by kernel_rfl) (fun _ _ _ h => h) (Or.inl ⟨by rfl, ?_⟩) (by assumption) ?_; rotate_left; (focus (intro w hSw; (skip); (first | (go_simp; done) | (go_simp; with_reducible rfl)))); (try simp only [Act.put, List.setIfInBounds_toArray, List.set_cons_zero, List.set_cons_succ]); refine wpAnyF_take (i := 3) (v := ?_) rfl (by kernel_rfl) (by kernel_rfl) (by kernel_rfl) (by kernel_rfl) (fun _ _ _ h => h) (Or.inl ⟨by rfl, ?_⟩) (by assumption) ?_; rotate_left; (focus (intro w hSw; (obtain ⟨q0, q1, q2⟩ := KW.out _ hSw); (first | (go_simp; done) | (go_simp; with_reducible rfl)))); (try simp only [Act.put, List.setIfInBounds_toArray, List.set_cons_zero, List.set_cons_succ]); refine wpAnyF_take (i := 4) (v := ?_) rfl (by kernel_rfl) (by kernel_rfl) (by kernel_rfl) (by kernel_rfl) (fun _ _ _ h => h) (Or.inl ⟨by rfl, ?_⟩) (by assumption) ?_; rotate_left; (focus (intro w hSw; (skip); (first | (go_simp; done) | (go_simp; with_reducible rfl)))); (try simp only [Act.put, List.setIfInBounds_toArray, List.set_cons_zero, List.set_cons_succ]); refine wpAnyF_take (i := 5) (v := ?_) rfl (by kernel_rfl) (by kernel_rfl) (by kernel_rfl) (by kernel_rfl) (fun _ _ _ h => h) (Or.inl ⟨by rfl, ?_⟩) (by assumption) ?_; rotate_left; (focus (intro w hSw; (obtain ⟨q0, q1, q2⟩ := KW.out _ hSw); (first | (go_simp; done) | (go_simp; with_reducible rfl)))); (try simp only [Act.put, List.setIfInBounds_toArray, List.set_cons_zero, List.set_cons_succ]); refine wpAnyF_take (i := 6) (v := ?_) rfl (by kernel_rfl) (by kernel_rfl) (by kernel_rfl) (by kernel_rfl) (fun _ _ _ h => h) (Or.inl ⟨by rfl, ?_⟩) (by assumption) ?_; rotate_left; (focus (intro w hSw; (obtain ⟨q0, q1, q2⟩ := KW.out _ hSw); (first | (go_simp; done) | (go_simp; with_reducible rfl)))); (try simp only [Act.put, List.setIfInBounds_toArray, List.set_cons_zero, List.set_cons_succ]); refine wpAnyF_take (i := 7) (v := ?_) rfl (by kernel_rfl) (by kernel_rfl) (by kernel_rfl) (by kernel_rfl) (fun _ _ _ h => h) (Or.inl ⟨by rfl, ?_⟩) (by assumption) ?_; rotate_left; (focus (intro w hSw; (skip); (first | (go_simp; done) | (go_simp; with_reducible rfl)))); (try simp only [Act.put, List.setIfInBounds_toArray, List.set_cons_zero, List.set_cons_succ]); refine wpAnyF_take (i := 8) (v := ?_) rfl (by kernel_rfl) (by kernel_rfl) (by kernel_rfl) (by kernel_rfl) (fun _ _ _ h => h) (Or.inl ⟨by rfl, ?_⟩) (by assumption) ?_; rotate_left; (focus (intro w hSw; (skip); (first | (go_simp; done) | (go_simp; with_reducible rfl)))); (try simp only [Act.put, List.setIfInBounds_toArray, List.set_cons_zero, List.set_cons_succ]); refine wpAnyF_take (i := 9) (v := ?_) rfl (by kernel_rfl) (by kernel_rfl) (by kernel_rfl) (by kernel_rfl) (fun _ _ _ h => h) (Or.inl ⟨by rfl, ?_⟩) (by assumption) ?_; rotate_left; (focus (intro w hSw; (skip); (first | (go_simp; done) | (go_simp; with_reducible rfl)))); (try simp only [Act.put, List.setIfInBounds_toArray, List.set_cons_zero, List.set_cons_succ]); refine wpAnyF_ready (rs := [10]) (by kernel_rfl) (by simp) ?_; refine AllF.cons rfl (fun K hK => ?_) AllF.nil; go_simp; refine hK.out _ _ (fun _ => ?_) ?_; (focus (repeat (first | (with_reducible exact Below.refl _ _) | (with_reducible apply Below.drew) | (with_reducible refine below_drewN ?_ _) | (with_reducible refine below_alloc' ?_ ?_ _; (focus ((try simp) <;> omega))) | (with_reducible refine below_set' ?_ ?_ _; (focus ((try simp) <;> omega)))))); clear hK K; (try simp only [Act.put, List.setIfInBounds_toArray, List.set_cons_zero, List.set_cons_succ]); refine wpAnyF_ready (rs := [11]) (by kernel_rfl) (by simp) ?_; refine AllF.cons rfl (fun K hK => ?_) AllF.nil; go_simp; refine hK.out _ _ (fun _ => ?_) ?_; (focus (repeat (first | (with_reducible exact Below.refl _ _) | (with_reducible apply Below.drew) | (with_reducible refine below_drewN ?_ _) | (with_reducible refine below_alloc' ?_ ?_ _; (focus ((try simp) <;> omega))) | (with_reducible refine below_set' ?_ ?_ _; (focus ((try simp) <;> omega)))))); clear hK K; (try simp only [Act.put, List.setIfInBounds_toArray, List.set_cons_zero, List.set_cons_succ]); refine wpAnyF_ready (rs := [12]) (by kernel_rfl) (by simp) ?_; refine AllF.cons rfl (fun K hK => ?_) AllF.nil; go_simp; refine hK.out _ _ (fun h => absurd rfl h) ?_; clear hK K; (try simp only [Act.put, List.setIfInBounds_toArray, List.set_cons_zero, List.set_cons_succ]); refine wpAnyF_done (by kernel_rfl) ?_ _; go_wp2_with fail
  go_ret
  exact ⟨rfl, btrans LW.out (Nat.le_refl _) (by repeat (first | (with_reducible exact Below.refl _ _) | (with_reducible apply Below.drew) | (with_reducible refine below_drewN ?_ _) | (with_reducible refine below_alloc' ?_ ?_ _; (focus ((try simp) <;> omega))) | (with_reducible refine below_set' ?_ ?_ _; (focus ((try simp) <;> omega)))))⟩
set_option maxHeartbeats 3200000 in
theorem add_new (w : World) (b : Nat) (F : Nat → Prop) (es : List Ent) (h : SetAt w b F es) (t v ver : Int) (ht : okT t) (hver : ver ≤ 1099511627776) (hv : 0 ≤ v ∧ v < 18446744073709551616) (hr : rightVal v = true) (hg : getE es t = none) :
    Calls Try.prog 47 #[ptr b, .agg #[.int .i64 t, .int .u64 v, .int .u64 ver]] w fun e w' =>
      if 8 ≤ es.length then e = .returned (.int .i64 4) ∧ Below w.heap.size w w' else e = .returned (.int .i64 0) ∧ SetAt w' b (Grow F w w') (es ++ [(t, v, ver)]) ∧ Only F w w' := by
  obtain ⟨i0, hi, hz0, hz1, hz2⟩ := info_parts infoI
  have ht1 : decide (t < 0) = false := (by simp; exact ht.1); have ht2 : decide (12 ≤ t) = false := (by simp; exact ht.2); have ht3 : decide (1099511627776 < ver) = false := (by simpa using hver); have hR := fun W => vRight_any W v hv; rw [hr] at hR; have HR := Lib.hid hR; have HSET := Lib.hid h; obtain ⟨ov, bm, hb, ho, hm, f1, f2, f3, f4, h8⟩ := h; obtain ⟨W, hW⟩ : ∃ W, w.alloc (.cells #[.int .i64 t, .int .u64 v, .int .u64 ver] 93) = W := ⟨_, rfl⟩; have lW : Below w.heap.size w W := (by rw [← hW]; repeat (first | (with_reducible exact Below.refl _ _) | (with_reducible apply Below.drew) | (with_reducible refine below_drewN ?_ _) | (with_reducible refine below_alloc' ?_ ?_ _; (focus ((try simp) <;> omega))) | (with_reducible refine below_set' ?_ ?_ _; (focus ((try simp) <;> omega))))); have hx : W.heap[w.heap.size]? = some (.cells #[.int .i64 t, .int .u64 v, .int .u64 ver] 93 (0, 0)) := (by rw [← hW]; exact blk_new _ _); have hblt := blk_lt hb; have hzW := lW.size; have hxlt := blk_lt hx; have hbW : b < W.heap.size := (by omega); have hbn : ¬ b = W.heap.size := (by omega); have hbn2 : ¬ W.heap.size = b := (by omega); have hwn : ¬ w.heap.size = W.heap.size := (by omega); have hwn2 : ¬ W.heap.size = w.heap.size := (by omega)
  obtain ⟨oa, oc, rfl⟩ := ownsRow_slice ho
  have x0 := blk_cell hx 0; have x1 := blk_cell hx 1; have x2 := blk_cell hx 2; have b0 := blk_cell (bblk lW hb) 0; have b1 := blk_cell (bblk lW hb) 1; simp only [List.getElem?_toArray, List.getElem?_cons_zero, List.getElem?_cons_succ] at x0 x1 x2 b0 b1
  have hlook : ∀ W', Below W.heap.size W W' → (Instr.lookup 114 (.map (some bm)) (.int .i64 t) true).run Try.prog W' = .ok (.tuple #[((setM es) t).getD (.agg #[.int .i64 0, .int .u64 0, .int .u64 0]), .bool ((setM es) t).isSome]) W' :=
    fun W' l => ((hm.below lW).below l).look_ok (by kernel_rfl) Try.underlying114 (zeroE _) (okT_in ht)
  rw [show setM es t = none by unfold setM; rw [hg]; rfl] at hlook
  simp only [Option.getD_none, Option.isSome_none] at hlook
  have KW := Lib.hid (show ∀ W', Below W.heap.size W W' → (W'.cell? ⟨b, 1, none⟩ = some (.map (some bm)) ∧ W'.cell? ⟨w.heap.size, 0, none⟩ = some (.int .i64 t) ∧ _) from fun W' l => ⟨bkeep l b1, bkeep l x0, hlook W' l⟩)
  have LW := Lib.hid lW; have HW := Lib.hid hW; have HT := Lib.hid ht; have HG := Lib.hid hg; have HX := Lib.hid hx; have HB := Lib.hid hb; have HO := Lib.hid ho; have HM := Lib.hid hm
  obtain ⟨n, hn⟩ : ∃ n, es.length = n := ⟨_, rfl⟩
  have HN := Lib.hid hn
  rw [hn] at b0 h8 HO HB ⊢
  clear hR hr ht hver hv hb ho hm hx hg lW hW hlook hn HSET
  by_cases h8 : 8 ≤ n
  · simp only [if_pos h8]
    have hd : decide (8 ≤ (n : Int)) = true := by simp; omega
    go_enter Try.func47, Try.ntmps47; go_wp2_with fail; rw [HW.out]; go_wp2_with fail; refine (HR.out _).mono ?_; rintro e w0 ⟨rfl, rfl⟩; go_wp2_with fail; refine wp_region_F (fun w' => Below W.heap.size W w') 12 (by kernel_rfl) ?_; have hS0 : Below W.heap.size W W.drew := (Below.refl _ _).drew; refine wpAnyF_take (i := 0) (v := ?_) rfl (by kernel_rfl) (by kernel_rfl) (by kernel_rfl) (by kernel_rfl) (fun _ _ _ h => h) (Or.inl ⟨by rfl, ?_⟩) (by assumption) ?_; rotate_left; (focus (intro w hSw; (skip); (first | (go_simp; done) | (go_simp; with_reducible rfl)))); (try simp only [Act.put, List.setIfInBounds_toArray, List.set_cons_zero, List.set_cons_succ]); refine wpAnyF_take (i := 1) (v := ?_) rfl (by kernel_rfl) (by kernel_rfl) (by kernel_rfl) (by kernel_rfl) (fun _ _ _ h => h) (Or.inl ⟨by rfl, ?_⟩) (by assumption) ?_; rotate_left; (focus (intro w hSw; (skip); (first | (go_simp; done) | (go_simp; with_reducible rfl)))); (try simp only [Act.put, List.setIfInBounds_toArray, List.set_cons_zero, List.set_cons_succ]); refine wpAnyF_take (i := 2) (v := ?_) rfl (by kernel_rfl) (by kernel_rfl) (by kernel_rfl) (by kernel_rfl) (fun _ _ _ h => h) (Or.inl ⟨by rfl, ?_⟩) (by assumption) ?_; rotate_left; (focus (intro w hSw; (skip); (first | (go_simp; done) | (go_simp; with_reducible rfl)))); (try simp only [Act.put, List.setIfInBounds_toArray, List.set_cons_zero, List.set_cons_succ]); refine wpAnyF_take (i := 3) (v := ?_) rfl (by kernel_rfl) (by kernel_rfl) (by kernel_rfl) (by kernel_rfl) (fun _ _ _ h => h) (Or.inl ⟨by rfl, ?_⟩) (by assumption) ?_; rotate_left; (focus (intro w hSw; (obtain ⟨q0, q1, q2⟩ := KW.out _ hSw); (first | (go_simp; done) | (go_simp; with_reducible rfl)))); (try simp only [Act.put, List.setIfInBounds_toArray, List.set_cons_zero, List.set_cons_succ]); refine wpAnyF_take (i := 4) (v := ?_) rfl (by kernel_rfl) (by kernel_rfl) (by kernel_rfl) (by kernel_rfl) (fun _ _ _ h => h) (Or.inl ⟨by rfl, ?_⟩) (by assumption) ?_; rotate_left; (focus (intro w hSw; (skip); (first | (go_simp; done) | (go_simp; with_reducible rfl)))); (try simp only [Act.put, List.setIfInBounds_toArray, List.set_cons_zero, List.set_cons_succ]); refine wpAnyF_take (i := 5) (v := ?_) rfl (by kernel_rfl) (by kernel_rfl) (by kernel_rfl) (by kernel_rfl) (fun _ _ _ h => h) (Or.inl ⟨by rfl, ?_⟩) (by assumption) ?_; rotate_left; (focus (intro w hSw; (obtain ⟨q0, q1, q2⟩ := KW.out _ hSw); (first | (go_simp; done) | (go_simp; with_reducible rfl)))); (try simp only [Act.put, List.setIfInBounds_toArray, List.set_cons_zero, List.set_cons_succ]); refine wpAnyF_take (i := 6) (v := ?_) rfl (by kernel_rfl) (by kernel_rfl) (by kernel_rfl) (by kernel_rfl) (fun _ _ _ h => h) (Or.inl ⟨by rfl, ?_⟩) (by assumption) ?_; rotate_left; (focus (intro w hSw; (obtain ⟨q0, q1, q2⟩ := KW.out _ hSw); (first | (go_simp; done) | (go_simp; with_reducible rfl)))); (try simp only [Act.put, List.setIfInBounds_toArray, List.set_cons_zero, List.set_cons_succ]); refine wpAnyF_take (i := 7) (v := ?_) rfl (by kernel_rfl) (by kernel_rfl) (by kernel_rfl) (by kernel_rfl) (fun _ _ _ h => h) (Or.inl ⟨by rfl, ?_⟩) (by assumption) ?_; rotate_left; (focus (intro w hSw; (skip); (first | (go_simp; done) | (go_simp; with_reducible rfl)))); (try simp only [Act.put, List.setIfInBounds_toArray, List.set_cons_zero, List.set_cons_succ]); refine wpAnyF_take (i := 8) (v := ?_) rfl (by kernel_rfl) (by kernel_rfl) (by kernel_rfl) (by kernel_rfl) (fun _ _ _ h => h) (Or.inl ⟨by rfl, ?_⟩) (by assumption) ?_; rotate_left; (focus (intro w hSw; (skip); (first | (go_simp; done) | (go_simp; with_reducible rfl)))); (try simp only [Act.put, List.setIfInBounds_toArray, List.set_cons_zero, List.set_cons_succ]); refine wpAnyF_take (i := 9) (v := ?_) rfl (by kernel_rfl) (by kernel_rfl) (by kernel_rfl) (by kernel_rfl) (fun _ _ _ h => h) (Or.inl ⟨by rfl, ?_⟩) (by assumption) ?_; rotate_left; (focus (intro w hSw; (skip); (first | (go_simp; done) | (go_simp; with_reducible rfl)))); (try simp only [Act.put, List.setIfInBounds_toArray, List.set_cons_zero, List.set_cons_succ]); refine wpAnyF_ready (rs := [10]) (by kernel_rfl) (by simp) ?_; refine AllF.cons rfl (fun K hK => ?_) AllF.nil; go_simp; refine hK.out _ _ (fun _ => ?_) ?_; (focus (repeat (first | (with_reducible exact Below.refl _ _) | (with_reducible apply Below.drew) | (with_reducible refine below_drewN ?_ _) | (with_reducible refine below_alloc' ?_ ?_ _; (focus ((try simp) <;> omega))) | (with_reducible refine below_set' ?_ ?_ _; (focus ((try simp) <;> omega)))))); clear hK K; (try simp only [Act.put, List.setIfInBounds_toArray, List.set_cons_zero, List.set_cons_succ]); refine wpAnyF_ready (rs := [11]) (by kernel_rfl) (by simp) ?_; refine AllF.cons rfl (fun K hK => ?_) AllF.nil; go_simp; refine hK.out _ _ (fun _ => ?_) ?_; (focus (repeat (first | (with_reducible exact Below.refl _ _) | (with_reducible apply Below.drew) | (with_reducible refine below_drewN ?_ _) | (with_reducible refine below_alloc' ?_ ?_ _; (focus ((try simp) <;> omega))) | (with_reducible refine below_set' ?_ ?_ _; (focus ((try simp) <;> omega)))))); clear hK K; (try simp only [Act.put, List.setIfInBounds_toArray, List.set_cons_zero, List.set_cons_succ]); refine wpAnyF_ready (rs := [12]) (by kernel_rfl) (by simp) ?_; refine AllF.cons rfl (fun K hK => ?_) AllF.nil; go_simp; refine hK.out _ _ (fun h => absurd rfl h) ?_; clear hK K; (try simp only [Act.put, List.setIfInBounds_toArray, List.set_cons_zero, List.set_cons_succ]); refine wpAnyF_done (by kernel_rfl) ?_ _; go_wp2_with fail
    go_ret
    exact ⟨rfl, btrans LW.out (Nat.le_refl _) (by repeat (first | (with_reducible exact Below.refl _ _) | (with_reducible apply Below.drew) | (with_reducible refine below_drewN ?_ _) | (with_reducible refine below_alloc' ?_ ?_ _; (focus ((try simp) <;> omega))) | (with_reducible refine below_set' ?_ ?_ _; (focus ((try simp) <;> omega)))))⟩
  · simp only [if_neg h8]
    have hd : decide (8 ≤ (n : Int)) = false := by simp; omega
    go_enter Try.func47, Try.ntmps47; go_wp2_with fail; rw [HW.out]; go_wp2_with fail; refine (HR.out _).mono ?_; rintro e w0 ⟨rfl, rfl⟩; go_wp2_with fail; refine wp_region_F (fun w' => Below W.heap.size W w') 12 (by kernel_rfl) ?_; have hS0 : Below W.heap.size W W.drew := (Below.refl _ _).drew; refine wpAnyF_take (i := 0) (v := ?_) rfl (by kernel_rfl) (by kernel_rfl) (by kernel_rfl) (by kernel_rfl) (fun _ _ _ h => h) (Or.inl ⟨by rfl, ?_⟩) (by assumption) ?_; rotate_left; (focus (intro w hSw; (skip); (first | (go_simp; done) | (go_simp; with_reducible rfl)))); (try simp only [Act.put, List.setIfInBounds_toArray, List.set_cons_zero, List.set_cons_succ]); refine wpAnyF_take (i := 1) (v := ?_) rfl (by kernel_rfl) (by kernel_rfl) (by kernel_rfl) (by kernel_rfl) (fun _ _ _ h => h) (Or.inl ⟨by rfl, ?_⟩) (by assumption) ?_; rotate_left; (focus (intro w hSw; (skip); (first | (go_simp; done) | (go_simp; with_reducible rfl)))); (try simp only [Act.put, List.setIfInBounds_toArray, List.set_cons_zero, List.set_cons_succ]); refine wpAnyF_take (i := 2) (v := ?_) rfl (by kernel_rfl) (by kernel_rfl) (by kernel_rfl) (by kernel_rfl) (fun _ _ _ h => h) (Or.inl ⟨by rfl, ?_⟩) (by assumption) ?_; rotate_left; (focus (intro w hSw; (skip); (first | (go_simp; done) | (go_simp; with_reducible rfl)))); (try simp only [Act.put, List.setIfInBounds_toArray, List.set_cons_zero, List.set_cons_succ]); refine wpAnyF_take (i := 3) (v := ?_) rfl (by kernel_rfl) (by kernel_rfl) (by kernel_rfl) (by kernel_rfl) (fun _ _ _ h => h) (Or.inl ⟨by rfl, ?_⟩) (by assumption) ?_; rotate_left; (focus (intro w hSw; (obtain ⟨q0, q1, q2⟩ := KW.out _ hSw); (first | (go_simp; done) | (go_simp; with_reducible rfl)))); (try simp only [Act.put, List.setIfInBounds_toArray, List.set_cons_zero, List.set_cons_succ]); refine wpAnyF_take (i := 4) (v := ?_) rfl (by kernel_rfl) (by kernel_rfl) (by kernel_rfl) (by kernel_rfl) (fun _ _ _ h => h) (Or.inl ⟨by rfl, ?_⟩) (by assumption) ?_; rotate_left; (focus (intro w hSw; (skip); (first | (go_simp; done) | (go_simp; with_reducible rfl)))); (try simp only [Act.put, List.setIfInBounds_toArray, List.set_cons_zero, List.set_cons_succ]); refine wpAnyF_take (i := 5) (v := ?_) rfl (by kernel_rfl) (by kernel_rfl) (by kernel_rfl) (by kernel_rfl) (fun _ _ _ h => h) (Or.inl ⟨by rfl, ?_⟩) (by assumption) ?_; rotate_left; (focus (intro w hSw; (obtain ⟨q0, q1, q2⟩ := KW.out _ hSw); (first | (go_simp; done) | (go_simp; with_reducible rfl)))); (try simp only [Act.put, List.setIfInBounds_toArray, List.set_cons_zero, List.set_cons_succ]); refine wpAnyF_take (i := 6) (v := ?_) rfl (by kernel_rfl) (by kernel_rfl) (by kernel_rfl) (by kernel_rfl) (fun _ _ _ h => h) (Or.inl ⟨by rfl, ?_⟩) (by assumption) ?_; rotate_left; (focus (intro w hSw; (obtain ⟨q0, q1, q2⟩ := KW.out _ hSw); (first | (go_simp; done) | (go_simp; with_reducible rfl)))); (try simp only [Act.put, List.setIfInBounds_toArray, List.set_cons_zero, List.set_cons_succ]); refine wpAnyF_take (i := 7) (v := ?_) rfl (by kernel_rfl) (by kernel_rfl) (by kernel_rfl) (by kernel_rfl) (fun _ _ _ h => h) (Or.inl ⟨by rfl, ?_⟩) (by assumption) ?_; rotate_left; (focus (intro w hSw; (skip); (first | (go_simp; done) | (go_simp; with_reducible rfl)))); (try simp only [Act.put, List.setIfInBounds_toArray, List.set_cons_zero, List.set_cons_succ]); refine wpAnyF_take (i := 8) (v := ?_) rfl (by kernel_rfl) (by kernel_rfl) (by kernel_rfl) (by kernel_rfl) (fun _ _ _ h => h) (Or.inl ⟨by rfl, ?_⟩) (by assumption) ?_; rotate_left; (focus (intro w hSw; (skip); (first | (go_simp; done) | (go_simp; with_reducible rfl)))); (try simp only [Act.put, List.setIfInBounds_toArray, List.set_cons_zero, List.set_cons_succ]); refine wpAnyF_take (i := 9) (v := ?_) rfl (by kernel_rfl) (by kernel_rfl) (by kernel_rfl) (by kernel_rfl) (fun _ _ _ h => h) (Or.inl ⟨by rfl, ?_⟩) (by assumption) ?_; rotate_left; (focus (intro w hSw; (skip); (first | (go_simp; done) | (go_simp; with_reducible rfl)))); (try simp only [Act.put, List.setIfInBounds_toArray, List.set_cons_zero, List.set_cons_succ]); refine wpAnyF_ready (rs := [10]) (by kernel_rfl) (by simp) ?_; refine AllF.cons rfl (fun K hK => ?_) AllF.nil; go_simp; refine hK.out _ _ (fun _ => ?_) ?_; (focus (repeat (first | (with_reducible exact Below.refl _ _) | (with_reducible apply Below.drew) | (with_reducible refine below_drewN ?_ _) | (with_reducible refine below_alloc' ?_ ?_ _; (focus ((try simp) <;> omega))) | (with_reducible refine below_set' ?_ ?_ _; (focus ((try simp) <;> omega)))))); clear hK K; (try simp only [Act.put, List.setIfInBounds_toArray, List.set_cons_zero, List.set_cons_succ]); refine wpAnyF_ready (rs := [11]) (by kernel_rfl) (by simp) ?_; refine AllF.cons rfl (fun K hK => ?_) AllF.nil; go_simp; refine hK.out _ _ (fun _ => ?_) ?_; (focus (repeat (first | (with_reducible exact Below.refl _ _) | (with_reducible apply Below.drew) | (with_reducible refine below_drewN ?_ _) | (with_reducible refine below_alloc' ?_ ?_ _; (focus ((try simp) <;> omega))) | (with_reducible refine below_set' ?_ ?_ _; (focus ((try simp) <;> omega)))))); clear hK K; (try simp only [Act.put, List.setIfInBounds_toArray, List.set_cons_zero, List.set_cons_succ]); refine wpAnyF_ready (rs := [12]) (by kernel_rfl) (by simp) ?_; refine AllF.cons rfl (fun K hK => ?_) AllF.nil; go_simp; refine hK.out _ _ (fun h => absurd rfl h) ?_; clear hK K; (try simp only [Act.put, List.setIfInBounds_toArray, List.set_cons_zero, List.set_cons_succ]); refine wpAnyF_done (by kernel_rfl) ?_ _; go_wp2_with fail
    refine wp_at (fun w' => Below W.heap.size W w') (by repeat (first | (with_reducible exact Below.refl _ _) | (with_reducible apply Below.drew) | (with_reducible refine below_drewN ?_ _) | (with_reducible refine below_alloc' ?_ ?_ _; (focus ((try simp) <;> omega))) | (with_reducible refine below_set' ?_ ?_ _; (focus ((try simp) <;> omega))))) ?_
    intro W2 l2
    have hx2 := bblk l2 HX.out
    have hb2 := bblk (btrans LW.out (Nat.le_refl _) l2) HB.out
    have ho2 := ownsRow_only HO.out (Only.empty (btrans LW.out (Nat.le_refl _) l2) (Nat.le_refl _)) (fun _ _ h => h)
    have hm2 := HM.out.below (btrans LW.out (Nat.le_refl _) l2)
    have y0 := blk_cell hx2 0; have b0 := blk_cell hb2 0
    simp only [List.getElem?_toArray, List.getElem?_cons_zero, List.getElem?_cons_succ] at y0 b0
    have hz2W := l2.size
    have KS := Lib.hid (show ∀ w', Only (fun k => (Value.slice oa n oc).ownBlock = some k) W2.drew w' → (w'.heap[b]? = some (.cells #[.slice oa n oc, .map (some bm)] 117 (0, 0)) ∧ w'.heap[w.heap.size]? = some (.cells #[.int .i64 t, .int .u64 v, .int .u64 ver] 93 (0, 0)) ∧ MapIs Try.prog 3 w' bm es.length (setM es)) from
      fun w' ho => ⟨ho.blk (w := W2.drew) hb2 (row_ne ho2 hb2 (by decide)), ho.blk (w := W2.drew) hx2 (row_ne ho2 hx2 (by decide)), MapIs.only (w := W2.drew) hm2 ho (row_ne_map ho2 hm2)⟩)
    have hS0 := KS.out W2.drew (Only.refl _ _)
    have L2 := Lib.hid l2; have HO2 := Lib.hid ho2
    clear l2 hx2 hb2 ho2 hm2 x0 x1 x2 b1 y0 b0
    refine wp_region_F (fun w' => w'.heap[b]? = some (.cells #[.slice oa n oc, .map (some bm)] 117 (0, 0)) ∧ w'.heap[w.heap.size]? = some (.cells #[.int .i64 t, .int .u64 v, .int .u64 ver] 93 (0, 0)) ∧ MapIs Try.prog 3 w' bm es.length (setM es)) 11 (by kernel_rfl) ?_
    refine wpAnyF_take (i := 0) (v := ?_) rfl (by kernel_rfl) (by kernel_rfl) (by kernel_rfl) (by kernel_rfl) (fun _ _ _ h => h) (Or.inl ⟨by rfl, ?_⟩) (by assumption) ?_; rotate_left; (focus (intro w hSw; (skip); (first | (go_simp; done) | (go_simp; with_reducible rfl)))); (try simp only [Act.put, List.setIfInBounds_toArray, List.set_cons_zero, List.set_cons_succ])
    refine wpAnyF_take (i := 1) (v := ?_) rfl (by kernel_rfl) (by kernel_rfl) (by kernel_rfl) (by kernel_rfl) (fun _ _ _ h => h) (Or.inl ⟨by rfl, ?_⟩) (by assumption) ?_; rotate_left; (focus (intro w hSw; (skip); (first | (go_simp; done) | (go_simp; with_reducible rfl)))); (try simp only [Act.put, List.setIfInBounds_toArray, List.set_cons_zero, List.set_cons_succ])
    refine wpAnyF_take (i := 2) (v := ?_) rfl (by kernel_rfl) (by kernel_rfl) (by kernel_rfl) (by kernel_rfl) (fun _ _ _ h => h) (Or.inl ⟨by rfl, ?_⟩) (by assumption) ?_; rotate_left; (focus (intro w hSw; (skip); (first | (go_simp; done) | (go_simp; with_reducible rfl)))); (try simp only [Act.put, List.setIfInBounds_toArray, List.set_cons_zero, List.set_cons_succ])
    refine wpAnyF_take (i := 3) (v := ?_) rfl (by kernel_rfl) (by kernel_rfl) (by kernel_rfl) (by kernel_rfl) (fun _ _ _ h => h) (Or.inl ⟨by rfl, ?_⟩) (by assumption) ?_; rotate_left; (focus (intro w hSw; (skip); (first | (go_simp; done) | (go_simp; with_reducible rfl)))); (try simp only [Act.put, List.setIfInBounds_toArray, List.set_cons_zero, List.set_cons_succ])
    refine wpAnyF_take (i := 4) (v := ?_) rfl (by kernel_rfl) (by kernel_rfl) (by kernel_rfl) (by kernel_rfl) (fun _ _ _ h => h) (Or.inl ⟨by rfl, ?_⟩) (by assumption) ?_; rotate_left; (focus (intro w hSw; (have q0 := blk_cell hSw.1 0; simp only [List.getElem?_toArray, List.getElem?_cons_zero] at q0); (first | (go_simp; done) | (go_simp; with_reducible rfl)))); (try simp only [Act.put, List.setIfInBounds_toArray, List.set_cons_zero, List.set_cons_succ])
    refine wpAnyF_take (i := 5) (v := ?_) rfl (by kernel_rfl) (by kernel_rfl) (by kernel_rfl) (by kernel_rfl) (fun _ _ _ h => h) (Or.inl ⟨by rfl, ?_⟩) (by assumption) ?_; rotate_left; (focus (intro w hSw; (skip); (first | (go_simp; done) | (go_simp; with_reducible rfl)))); (try simp only [Act.put, List.setIfInBounds_toArray, List.set_cons_zero, List.set_cons_succ])
    refine wpAnyF_take (i := 6) (v := ?_) rfl (by kernel_rfl) (by kernel_rfl) (by kernel_rfl) (by kernel_rfl) (fun _ _ _ h => h) (Or.inl ⟨by rfl, ?_⟩) (by assumption) ?_; rotate_left; (focus (intro w hSw; (have q0 := blk_cell hSw.2.1 0; simp only [List.getElem?_toArray, List.getElem?_cons_zero] at q0); (first | (go_simp; done) | (go_simp; with_reducible rfl)))); (try simp only [Act.put, List.setIfInBounds_toArray, List.set_cons_zero, List.set_cons_succ])
    refine wpAnyF_ready (rs := [7]) (by kernel_rfl) (by simp) ?_
    refine AllF.cons rfl (fun K hK => ?_) AllF.nil
    go_simp
    have lA : Below W2.heap.size W2.drew (W2.drew.alloc (.cells #[.int .i64 t] 3)) := by repeat (first | (with_reducible exact Below.refl _ _) | (with_reducible apply Below.drew) | (with_reducible refine below_drewN ?_ _) | (with_reducible refine below_alloc' ?_ ?_ _; (focus ((try simp) <;> omega))) | (with_reducible refine below_set' ?_ ?_ _; (focus ((try simp) <;> omega))))
    have oA : Only (fun k => (Value.slice oa n oc).ownBlock = some k) W2.drew (W2.drew.alloc (.cells #[.int .i64 t] 3)) := Only.of_below lA (fun k hk h => by have : W2.drew.heap.size = W2.heap.size := rfl; omega)
    have hnA : ∀ j u, [Value.int .i64 t][j]? = some u → (W2.drew.alloc (.cells #[.int .i64 t] 3)).cell? ((⟨W2.heap.size, 0, none⟩ : Addr).add j) = some u := by
      intro j u hu
      rw [Addr.add_lit]
      have := blk_cell (blk_new W2.drew (.cells #[.int .i64 t] 3)) j
      rw [Nat.zero_add]
      exact this.trans (by simpa using hu)
    have oRow := ownsRow_only (w := W2.drew) HO2.out (Only.empty lA (Nat.le_refl _)) (fun _ _ h => h)
    refine hK.out _ _ (fun _ => KS.out _ oA) ?_; clear hK K; (try simp only [Act.put, List.setIfInBounds_toArray, List.set_cons_zero, List.set_cons_succ])
    refine wpAnyF_ready (rs := [8]) (by kernel_rfl) (by simp) ?_
    refine AllF.cons rfl (fun K hK => ?_) AllF.nil
    refine step_append_own rfl (.tmp 50) (.tmp 53) 115 rfl 0 3 i0 (.int .i64 0) 1 8 Try.underlying115 hi hz0 hz1 hz2 rfl (by decide) (.slice oa n oc) n (ordVals es) rfl oRow ⟨W2.heap.size, 0, none⟩ 1 1 [.int .i64 t] rfl rfl hnA (by simp [Value.oneCell']) (by unfold maxLen; omega) (by omega) (Nat.zero_le _) ?_
    intro v' w3 hown3 hgr hat
    obtain ⟨va, vc, rfl⟩ := ownsRow_slice hown3
    have oB : Only (fun k => (Value.slice oa n oc).ownBlock = some k) W2.drew w3 := oA.trans (Only.of_grown hgr (fun k h => h))
    refine hK.out _ _ (fun _ => KS.out _ oB) ?_; clear hK K; (try simp only [Act.put, List.setIfInBounds_toArray, List.set_cons_zero, List.set_cons_succ])
    refine wpAnyF_ready (rs := [9]) (by kernel_rfl) (by simp) ?_
    refine AllF.cons rfl (fun K hK => ?_) AllF.nil
    go_simp
    refine hK.out _ _ (fun _ => KS.out _ oB) ?_; clear hK K; (try simp only [Act.put, List.setIfInBounds_toArray, List.set_cons_zero, List.set_cons_succ])
    refine wpAnyF_ready (rs := [10]) (by kernel_rfl) (by simp) ?_
    refine AllF.cons rfl (fun K hK => ?_) AllF.nil
    go_simp
    refine hK.out _ _ (fun _ => KS.out _ oB) ?_; clear hK K; (try simp only [Act.put, List.setIfInBounds_toArray, List.set_cons_zero, List.set_cons_succ])
    refine wpAnyF_ready (rs := [11]) (by kernel_rfl) (by simp) ?_
    refine AllF.cons rfl (fun K hK => ?_) AllF.nil
    have hS3 := KS.out _ oB
    have c0 := blk_cell hS3.1 0
    have cf := blk_free hS3.1
    simp only [List.getElem?_toArray, List.getElem?_cons_zero] at c0
    go_simp
    refine hK.out _ _ (fun h => absurd rfl h) ?_; clear hK K; (try simp only [Act.put, List.setIfInBounds_toArray, List.set_cons_zero, List.set_cons_succ]); refine wpAnyF_done (by kernel_rfl) ?_ _
    have hb4 := blk_set hS3.1 0 (.slice va (n + 1) vc)
    have hx4 := blk_other hS3.2.1 (p := ⟨b, 0, none⟩) (by show w.heap.size ≠ b; omega) (.slice va (n + 1) vc)
    have hbm : bm ≠ b := fun e => by subst e; exact hS3.2.2.not_cells hS3.1
    have hm4 := hS3.2.2.set (a := ⟨b, 0, none⟩) hbm (.slice va (n + 1) vc)
    have hrow : ∀ k, (Value.slice va (n + 1) vc).ownBlock = some k → k ≠ b ∧ (F k ∨ (w.heap.size ≤ k ∧ k < w3.heap.size)) := by
      intro k hk
      rcases hat with h | h
      · rw [h] at hk
        exact ⟨fun e => row_ne HO2.out (HB.out.trans (by rfl) |> fun h => bblk (btrans LW.out (Nat.le_refl _) L2.out) h) (by decide) (e ▸ hk), .inl (f3 k (by rw [HN.out]; exact hk))⟩
      · have hlt := ownsRow_lt hown3 hk
        rw [h] at hk
        injection hk with hk
        subst hk
        have h1 := L2.out.size
        simp at hlt ⊢
        exact ⟨by omega, .inr ⟨by omega, by omega⟩⟩
    have hr4 : (w3.setCell ⟨b, 0, none⟩ (.slice va (n + 1) vc)).ownsRow 0 3 1 (.slice va (n + 1) vc) (n + 1) (ordVals es ++ [.int .i64 t]) :=
      ownsRow_only hown3 ((Only.refl (fun k => k = b) w3).setCell (p := ⟨b, 0, none⟩) (.inr rfl) _) (fun k hk => (hrow k hk).1)
    have hz3 : w3.heap.size = (w3.setCell ⟨b, 0, none⟩ (.slice va (n + 1) vc)).heap.size := by simp
    have oC : Only F w (w3.setCell ⟨b, 0, none⟩ (.slice va (n + 1) vc)) := by
      have o1 := Only.of_below (B := w.heap.size) (S := F) (btrans LW.out (Nat.le_refl _) L2.out).drew (fun k hk h => absurd hk (Nat.not_lt.2 h))
      have o2 : Only F w w3 := o1.trans (oB.mono (fun k hk h => f3 k (by rw [HN.out]; exact h)))
      exact o2.setCell (p := ⟨b, 0, none⟩) (.inr f1) _
    go_wp2_with fail
    refine wp_at (fun w' => w'.heap[b]? = some (.cells #[.slice va (n + 1) vc, .map (some bm)] 117 (0, 0)) ∧ w'.heap[w.heap.size]? = some (.cells #[.int .i64 t, .int .u64 v, .int .u64 ver] 93 (0, 0)) ∧ MapIs Try.prog 3 w' bm es.length (setM es) ∧ w'.ownsRow 0 3 1 (.slice va (n + 1) vc) (n + 1) (ordVals es ++ [.int .i64 t]) ∧ Only F w w' ∧ w3.heap.size = w'.heap.size) ⟨by simpa using hb4, hx4, hm4, hr4, oC, hz3⟩ ?_
    rintro w4 ⟨hb5, hx5, hm5, hr5, oD, hz5⟩
    rw [hz5] at hrow
    have c1 := blk_cell hb5 1
    have y0 := blk_cell hx5 0; have y1 := blk_cell hx5 1; have y2 := blk_cell hx5 2
    simp only [List.getElem?_toArray, List.getElem?_cons_zero, List.getElem?_cons_succ] at c1 y0 y1 y2
    obtain ⟨w6, hrun, hm6, o6⟩ := MapIs.store (w := w4.drew) (by kernel_rfl) Try.underlying114 hm5 (by have := HN.out; omega) (okT_in HT.out) (entV (t, v, ver))
    unfold entV at hrun
    simp only at hrun
    have HM6 := Lib.hid hm6; have O6 := Lib.hid o6; have HB5 := Lib.hid hb5; have HM5 := Lib.hid hm5; have HR5 := Lib.hid hr5; have OD := Lib.hid oD; have HROW := Lib.hid hrow
    clear hm6 o6 hb5 hx5 hm5 hr5 oD hrow
    have hS6 : w4.drew.cell? ⟨b, 1, none⟩ = some (.map (some bm)) ∧ w4.drew.cell? ⟨w.heap.size, 0, none⟩ = some (.int .i64 t) ∧ w4.drew.cell? ⟨w.heap.size, 1, none⟩ = some (.int .u64 v) ∧ w4.drew.cell? ⟨w.heap.size, 2, none⟩ = some (.int .u64 ver) := ⟨c1, y0, y1, y2⟩
    clear c1 y0 y1 y2
    refine wp_region_F (fun w' => w'.cell? ⟨b, 1, none⟩ = some (.map (some bm)) ∧ w'.cell? ⟨w.heap.size, 0, none⟩ = some (.int .i64 t) ∧ w'.cell? ⟨w.heap.size, 1, none⟩ = some (.int .u64 v) ∧ w'.cell? ⟨w.heap.size, 2, none⟩ = some (.int .u64 ver)) 7 (by kernel_rfl) ?_
    refine wpAnyF_take (i := 0) (v := ?_) rfl (by kernel_rfl) (by kernel_rfl) (by kernel_rfl) (by kernel_rfl) (fun _ _ _ h => h) (Or.inl ⟨by rfl, ?_⟩) (by assumption) ?_; rotate_left; (focus (intro w hSw; (skip); (first | (go_simp; done) | (go_simp; with_reducible rfl)))); (try simp only [Act.put, List.setIfInBounds_toArray, List.set_cons_zero, List.set_cons_succ])
    refine wpAnyF_take (i := 1) (v := ?_) rfl (by kernel_rfl) (by kernel_rfl) (by kernel_rfl) (by kernel_rfl) (fun _ _ _ h => h) (Or.inl ⟨by rfl, ?_⟩) (by assumption) ?_; rotate_left; (focus (intro w hSw; (skip); (first | (go_simp; done) | (go_simp; with_reducible rfl)))); (try simp only [Act.put, List.setIfInBounds_toArray, List.set_cons_zero, List.set_cons_succ])
    refine wpAnyF_take (i := 2) (v := ?_) rfl (by kernel_rfl) (by kernel_rfl) (by kernel_rfl) (by kernel_rfl) (fun _ _ _ h => h) (Or.inl ⟨by rfl, ?_⟩) (by assumption) ?_; rotate_left; (focus (intro w hSw; (skip); (first | (go_simp; done) | (go_simp; with_reducible rfl)))); (try simp only [Act.put, List.setIfInBounds_toArray, List.set_cons_zero, List.set_cons_succ])
    refine wpAnyF_take (i := 3) (v := ?_) rfl (by kernel_rfl) (by kernel_rfl) (by kernel_rfl) (by kernel_rfl) (fun _ _ _ h => h) (Or.inl ⟨by rfl, ?_⟩) (by assumption) ?_; rotate_left; (focus (intro w hSw; (obtain ⟨q0, q1, q2, q3⟩ := hSw); (first | (go_simp; done) | (go_simp; with_reducible rfl)))); (try simp only [Act.put, List.setIfInBounds_toArray, List.set_cons_zero, List.set_cons_succ])
    refine wpAnyF_take (i := 4) (v := ?_) rfl (by kernel_rfl) (by kernel_rfl) (by kernel_rfl) (by kernel_rfl) (fun _ _ _ h => h) (Or.inl ⟨by rfl, ?_⟩) (by assumption) ?_; rotate_left; (focus (intro w hSw; (skip); (first | (go_simp; done) | (go_simp; with_reducible rfl)))); (try simp only [Act.put, List.setIfInBounds_toArray, List.set_cons_zero, List.set_cons_succ])
    refine wpAnyF_take (i := 5) (v := ?_) rfl (by kernel_rfl) (by kernel_rfl) (by kernel_rfl) (by kernel_rfl) (fun _ _ _ h => h) (Or.inl ⟨by rfl, ?_⟩) (by assumption) ?_; rotate_left; (focus (intro w hSw; (obtain ⟨q0, q1, q2, q3⟩ := hSw); (first | (go_simp; done) | (go_simp; with_reducible rfl)))); (try simp only [Act.put, List.setIfInBounds_toArray, List.set_cons_zero, List.set_cons_succ])
    refine wpAnyF_take (i := 6) (v := ?_) rfl (by kernel_rfl) (by kernel_rfl) (by kernel_rfl) (by kernel_rfl) (fun _ _ _ h => h) (Or.inl ⟨by rfl, ?_⟩) (by assumption) ?_; rotate_left; (focus (intro w hSw; (obtain ⟨q0, q1, q2, q3⟩ := hSw); (first | (go_simp; done) | (go_simp; with_reducible rfl)))); (try simp only [Act.put, List.setIfInBounds_toArray, List.set_cons_zero, List.set_cons_succ])
    refine wpAnyF_ready (rs := [7]) (by kernel_rfl) (by simp) ?_
    refine AllF.cons rfl (fun K hK => ?_) AllF.nil
    go_simp
    refine hK.out _ _ (fun h => absurd rfl h) ?_; clear hK K; (try simp only [Act.put, List.setIfInBounds_toArray, List.set_cons_zero, List.set_cons_succ]); refine wpAnyF_done (by kernel_rfl) ?_ _
    clear hS6 hrun
    go_wp2_with fail
    go_ret
    have o6 : Only F w w6 := OD.out.drew.trans (O6.out.mono fun k _ e => e ▸ f2)
    have hs6 : w4.heap.size ≤ w6.heap.size := O6.out.size
    refine ⟨rfl, ⟨.slice va (n + 1) vc, bm, O6.out.blk (w := w4.drew) HB5.out (fun e => ?_), ?_, ?_, .inl f1, .inl f2, ?_, ?_, ?_⟩, o6⟩
    · subst e; exact HM5.out.not_cells HB5.out
    · have := ownsRow_only (w := w4.drew) HR5.out O6.out (fun k hk e => row_ne_map HR5.out HM5.out (e ▸ hk))
      rw [List.length_append, HN.out]
      simpa [ordVals] using this
    · rw [← setM_snoc HG.out, List.length_append]
      exact HM6.out
    · intro k hk
      rcases (HROW.out k hk).2 with h | ⟨h1, h2⟩
      · exact .inl h
      · exact .inr ⟨h1, Nat.lt_of_lt_of_le h2 hs6⟩
    · exact f4.grow o6.size
    · rw [List.length_append, HN.out, List.length_singleton]; omega
/-- Add: what it answers, and what is then read -/
theorem add_any (w : World) (b : Nat) (F : Nat → Prop) (es : List Ent) (h : SetAt w b F es) (t v ver : Int) (hv : 0 ≤ v ∧ v < 18446744073709551616) :
    Calls Try.prog 47 #[ptr b, .agg #[.int .i64 t, .int .u64 v, .int .u64 ver]] w fun e w' => e = .returned (.int .i64 (addE es t v ver)) ∧ SetAt w' b (Grow F w w') (addS es t v ver) ∧ Only F w w' := by
  have hof : ∀ w', Below w.heap.size w w' → Only F w w' := fun w' l => Only.of_below l fun k hk h => absurd hk (Nat.not_lt.2 h)
  by_cases hbad : ¬ okT t ∨ 1099511627776 < ver
  · have hE : addE es t v ver = 2 := by unfold addE; rw [if_pos hbad]
    have hS : addS es t v ver = es := by unfold addS; rw [if_neg (fun h => by rw [hE] at h; exact absurd h.1 (by decide))]
    rw [hE, hS]
    refine (add_range w b t v ver hbad).mono ?_
    rintro e w' ⟨rfl, l⟩
    exact ⟨rfl, h.grow l, hof _ l⟩
  · have ht : okT t := Decidable.not_not.1 (fun h => hbad (.inl h))
    have hver : ver ≤ 1099511627776 := Int.not_lt.1 (fun h => hbad (.inr h))
    cases hr : rightVal v
    · have hE : addE es t v ver = 3 := by unfold addE; rw [if_neg hbad, if_pos hr]
      have hS : addS es t v ver = es := by unfold addS; rw [if_neg (fun h => by rw [hE] at h; exact absurd h.1 (by decide))]
      rw [hE, hS]
      refine (add_form w b t v ver ht hver hv hr).mono ?_
      rintro e w' ⟨rfl, l⟩
      exact ⟨rfl, h.grow l, hof _ l⟩
    · cases hg : getE es t with
      | some q =>
        have hgs : (getE es t).isSome := by rw [hg]; rfl
        have hE : addE es t v ver = 0 := by unfold addE; rw [if_neg hbad, if_neg (by rw [hr]; decide), if_pos hgs]
        have hS : addS es t v ver = es := by unfold addS; rw [if_neg (fun h => by rw [hg] at h; cases h.2)]
        rw [hE, hS]
        refine (add_is w b F es h t v ver ht hver hv hr hgs).mono ?_
        rintro e w' ⟨rfl, l⟩
        exact ⟨rfl, h.grow l, hof _ l⟩
      | none =>
        refine (add_new w b F es h t v ver ht hver hv hr hg).mono ?_
        have hgs : ¬ (getE es t).isSome := by rw [hg]; decide
        by_cases h8 : 8 ≤ es.length
        · have hE : addE es t v ver = 4 := by unfold addE; rw [if_neg hbad, if_neg (by rw [hr]; decide), if_neg hgs, if_pos h8]
          have hS : addS es t v ver = es := by unfold addS; rw [if_neg (fun h => by rw [hE] at h; exact absurd h.1 (by decide))]
          rw [hE, hS]
          simp only [if_pos h8]
          rintro e w' ⟨rfl, l⟩
          exact ⟨rfl, h.grow l, hof _ l⟩
        · have hE : addE es t v ver = 0 := by unfold addE; rw [if_neg hbad, if_neg (by rw [hr]; decide), if_neg hgs, if_neg h8]
          have hS : addS es t v ver = es ++ [(t, v, ver)] := by unfold addS; rw [if_pos ⟨hE, hg⟩]
          rw [hE, hS]
          simp only [if_neg h8]
          exact fun e w' h => h
end Go.Proofs.Ytgjemjogncnbnaa.Rd
