/- What an attempt has read: Get, List, Broken, Valid. -/
import Derived.Test.YtgjemjogncnbnaaRdA
namespace Go.Proofs.Ytgjemjogncnbnaa.Rd
open Go.RowKit
set_option linter.unusedSimpArgs false
set_option linter.unusedVariables false
set_option maxRecDepth 50000

structure WfE (es : List Ent) : Prop where
  nodup : (es.map (·.1)).Nodup
  ok : ∀ e ∈ es, okT e.1 ∧ 0 ≤ e.2.1 ∧ e.2.1 < 18446744073709551616
theorem WfE.nil : WfE [] := ⟨List.nodup_nil, fun e h => by cases h⟩
theorem getE_none {es : List Ent} {t : Int} (h : getE es t = none) : t ∉ es.map (·.1) := by
  intro hm
  obtain ⟨e, he, rfl⟩ := List.mem_map.1 hm
  unfold getE at h
  rw [List.find?_eq_none] at h
  exact h e he (by simp)
theorem WfE.add {es : List Ent} (h : WfE es) (t v ver : Int) (hv : 0 ≤ v ∧ v < 18446744073709551616) : WfE (addS es t v ver) := by
  unfold addS
  split
  · rename_i hE
    have ht : okT t := by
      have h0 := hE.1
      unfold addE at h0
      by_cases hb : ¬ okT t ∨ 1099511627776 < ver
      · rw [if_pos hb] at h0; cases h0
      · exact Decidable.not_not.1 fun hn => hb (.inl hn)
    refine ⟨?_, ?_⟩
    · rw [List.map_append, List.nodup_append]
      refine ⟨h.nodup, by simp, ?_⟩
      intro a ha b hb
      simp at hb
      subst hb
      rintro rfl
      exact getE_none hE.2 ha
    · intro e he
      rcases List.mem_append.1 he with he | he
      · exact h.ok e he
      · rw [List.mem_singleton] at he
        subst he
        exact ⟨ht, hv⟩
  · exact h
theorem getE_at {es : List Ent} (h : (es.map (·.1)).Nodup) {i : Nat} {e : Ent} (he : es[i]? = some e) : getE es e.1 = some e := by
  induction es generalizing i with
  | nil => simp at he
  | cons x es ih =>
    rw [List.map_cons, List.nodup_cons] at h
    cases i with
    | zero => simp at he; subst he; simp [getE]
    | succ i =>
      have he' : es[i]? = some e := by simpa using he
      have hne : ¬ x.1 = e.1 := fun hx => h.1 (List.mem_map.2 ⟨e, List.mem_of_getElem? he', hx.symm⟩)
      have := ih h.2 he'
      unfold getE at this ⊢
      rw [List.find?_cons_of_neg (by simpa using hne)]
      exact this
theorem setM_at {es : List Ent} (h : (es.map (·.1)).Nodup) {i : Nat} {e : Ent} (he : es[i]? = some e) : setM es e.1 = some (entV e) := by
  unfold setM
  rw [getE_at h he]; rfl
theorem ent_agg (es : List Ent) (t : Int) : ∃ z0 z1 z2 : Int, ((getE es t).map entV).getD (.agg #[.int .i64 0, .int .u64 0, .int .u64 0]) = .agg #[.int .i64 z0, .int .u64 z1, .int .u64 z2] := by
  cases getE es t with
  | none => exact ⟨0, 0, 0, rfl⟩
  | some q => exact ⟨_, _, _, rfl⟩
/-! ### List -/
def entVals (es : List Ent) : List Value := es.flatMap fun e => [.int .i64 e.1, .int .u64 e.2.1, .int .u64 e.2.2]
theorem entVals_append (es fs : List Ent) : entVals (es ++ fs) = entVals es ++ entVals fs := by simp [entVals]
theorem entVals_get (es : List Ent) (i : Nat) (e : Ent) (h : es[i]? = some e) : (entVals es)[i * 3]? = some (.int .i64 e.1) ∧ (entVals es)[i * 3 + 1]? = some (.int .u64 e.2.1) ∧ (entVals es)[i * 3 + 2]? = some (.int .u64 e.2.2) := by
  induction es generalizing i with
  | nil => simp at h
  | cons x es ih =>
    cases i with
    | zero => simp at h; subst h; exact ⟨rfl, rfl, rfl⟩
    | succ i =>
      have := ih i (by simpa using h)
      have e1 : ∀ j, (entVals (x :: es))[(i + 1) * 3 + j]? = (entVals es)[i * 3 + j]? := by
        intro j
        rw [show (i + 1) * 3 + j = (i * 3 + j) + 3 by omega]
        rfl
      exact ⟨(e1 0).trans this.1, (e1 1).trans this.2.1, (e1 2).trans this.2.2⟩
theorem entVals_len (es : List Ent) : (entVals es).length = es.length * 3 := by
  induction es with
  | nil => rfl
  | cons x es ih => simp [entVals] at ih ⊢; omega
theorem infoE : (Try.prog.info? 93).map (fun i => (i.zero, i.size, i.bytes)) = some (some (.agg #[.int .i64 0, .int .u64 0, .int .u64 0]), 3, 24) := by kernel_rfl
abbrev EntsAt (B : Nat) (w : World) (v : Value) (es : List Ent) : Prop := w.ownsRow B 93 3 v es.length (entVals es)
theorem ents_grow {B : Nat} {w w' : World} {v : Value} {es : List Ent} (h : EntsAt B w v es) (l : Below w.heap.size w w') : EntsAt B w' v es := ownsRow_only h (Only.empty l (Nat.le_refl _)) (fun _ _ h => h)
theorem row_cell1 {w : World} {v : Value} {base n e : Nat} {g cap : Nat} {xs : List Value} (h : w.ownsRow base e 1 (.slice (some ⟨g, 0, none⟩) n cap) n xs) {i : Nat} {u : Value} (hi : xs[i]? = some u) : w.cell? ⟨g, i, none⟩ = some u := by
  have e0 := h.cells (g := g) rfl _ _ hi
  rwa [Addr.add_lit, Nat.zero_add] at e0
set_option maxHeartbeats 1600000 in
theorem list_any (w : World) (b : Nat) (F : Nat → Prop) (es : List Ent) (h : SetAt w b F es) (hf : WfE es) :
    Calls Try.prog 35 #[ptr b] w fun e w' => ∃ v, e = .returned v ∧ EntsAt w.heap.size w' v es ∧ Below w.heap.size w w' := by
  obtain ⟨i0, hi, hz0, hz1, hz2⟩ := info_parts infoE
  obtain ⟨ov, bm, hb, ho, hm, _, _, _, _, h8⟩ := h
  obtain ⟨oa, oc, rfl⟩ := ownsRow_slice ho
  have b0 := blk_cell hb 0; have b1 := blk_cell hb 1
  simp only [List.getElem?_toArray, List.getElem?_cons_zero, List.getElem?_cons_succ] at b0 b1
  have HF := Lib.hid hf; have HM := Lib.hid hm; have HO := Lib.hid ho
  obtain ⟨n, hn⟩ : ∃ n, es.length = n := ⟨_, rfl⟩
  have HN := Lib.hid hn
  rw [hn] at b0 HO h8
  have B1 := Lib.hid b1
  clear hb hf hm ho hn
  go_enter Try.func35, Try.ntmps35
  go_wp2_with fail
  go_loopw [3, 13] (fun s i wr => ∃ k : Nat, i = .int .i64 k ∧ k ≤ n ∧ EntsAt w.heap.size wr s (es.take k) ∧ Below w.heap.size w wr) (fun _ i _ => n - (intOf i).toNat)
  case atStart => exact ⟨0, rfl, Nat.zero_le _, World.ownsRow_nil _ _ _ _, Below.refl _ _⟩
  case round =>
    obtain ⟨k, rfl, hk, hR, hB⟩ := hrel
    have HB := Lib.hid hB; have HR := Lib.hid hR
    clear hB hR
    by_cases hlt : k < n
    · obtain ⟨e, he⟩ : ∃ e, es[k]? = some e := ⟨es[k]'(by rw [HN.out]; exact hlt), List.getElem?_eq_getElem _⟩
      have hT : es.take (k + 1) = es.take k ++ [e] := by rw [List.take_add_one, he]; rfl
      have hok := (HF.out.ok e (List.mem_of_getElem? he)).1
      have hlook := (HM.out.below HB.out).look (by kernel_rfl) Try.underlying114 (zeroE _) (okT_in hok)
      rw [setM_at HF.out.nodup he] at hlook
      rcases HO.out.2 with ⟨h0, h1⟩ | ⟨g, cap, cur, h0, _⟩
      · omega
      injection h0 with h0 _ h2
      subst h0 h2
      have hcell := bkeep HB.out (row_cell1 (v := .nilFunc) HO.out (show (ordVals es)[k]? = some (.int .i64 e.1) by simp [ordVals, he]))
      have cb1 := bkeep HB.out B1.out
      obtain ⟨et, ev, er⟩ := e
      simp only [Option.getD_some, entV] at hlook hcell
      have HT := Lib.hid hT
      have hsz := HB.out.size
      have hlt' : (es.take k).length = k := by rw [List.length_take, HN.out]; omega
      clear he hT hok b0 b1
      go_wp2_with (at_builtin; refine wpList_append_own _ rfl _ _ 89 rfl w.heap.size 93 i0 (.agg #[.int .i64 0, .int .u64 0, .int .u64 0]) 3 24 Try.underlying89 hi hz0 hz1 hz2 rfl (by decide) _ _ (entVals (es.take k)) rfl (ents_grow HR.out ((Below.refl wr.heap.size wr).alloc (Nat.le_refl _) _)) ⟨wr.heap.size, 0, none⟩ 1 1 [.int .i64 et, .int .u64 ev, .int .u64 er] rfl rfl ?c1 ?c2 ?c3 ?c4 ?c5 ?_)
      case c2 => simp [Value.oneCell']
      case c3 => unfold maxLen; omega
      case c4 => omega
      case c5 => (try simp) <;> omega
      intro v' w2 hown hgr _
      have hB2 : Below w.heap.size w w2 := (HB.out.alloc hsz _).grown hgr (by simp; omega) (fun k hk => (HR.out.lt k hk).1)
      have hP2 : EntsAt w.heap.size w2 v' (es.take (k + 1)) := by
        unfold EntsAt
        rw [HT.out, entVals_append, List.length_append, hlt']
        exact hown
      have HB2 := Lib.hid hB2; have HP2 := Lib.hid hP2
      clear hown hgr hB2 hP2 hlook hcell cb1
      go_wp2_with fail
      exact ⟨⟨k + 1, by go_num, by omega, HP2.out, HB2.out⟩, by simp [intOf]; omega⟩
    · obtain rfl : k = n := by omega
      have hR := HR.out
      rw [List.take_of_length_le (by rw [HN.out]; exact Nat.le_refl _)] at hR
      have HR2 := Lib.hid hR
      clear hR HR
      go_wp2_with fail
      go_ret
      exact ⟨_, rfl, HR2.out, HB.out⟩
/-! ### Broken, Valid -/
def brokenP (hv : List Int) (e : Ent) : Bool := decide ((hv.length : Int) ≤ e.1) || !(canonVal (hv.getD e.1.toNat 0) == canonVal e.2.1)
def HeapAt (w : World) (a : Option Addr) (n : Nat) (hv : List Int) : Prop :=
  hv.length = n ∧ (n = 0 ∨ ∃ g off, a = some ⟨g, off, none⟩ ∧ ∀ i, i < n → w.cell? ⟨g, off + i, none⟩ = some (.int .u64 (hv.getD i 0))) ∧ ∀ i, 0 ≤ hv.getD i 0 ∧ hv.getD i 0 < 18446744073709551616
end Go.Proofs.Ytgjemjogncnbnaa.Rd
