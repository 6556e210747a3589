/- The engine: what stands while a lock, a log, a set, the map of threads, a row is turned; commit. -/
import Derived.Test.YtgjemjogncnbnaaTadG
namespace Go.Proofs.Ytgjemjogncnbnaa.Tad
open Go.RowKit
set_option linter.unusedSimpArgs false
set_option linter.unusedVariables false
set_option maxRecDepth 50000

section
variable {lo : Nat} {w w' : World} {eb : Nat} {B : Bk} {E : Eng}
/-- the lock is turned -/
theorem EngAt.lkT (h : EngAt lo w eb B E) (o : Only (fun k => k = B.lb) w w') {s : Seq.St} (hl : Seq.LockAt w' B.lb s) (hi : s.Inv) : EngAt lo w' eb B { E with lk := s } ∧ Only (Mut lo w) w w' := by
  obtain ⟨lcs, hlc⟩ := lock_obj h.lock
  have hK : KindS w (fun k => k = B.lb) := .one hlc (by show _ ∈ _; decide)
  have row : ∀ {e : TypeId} {size n : Nat} {v : Value} {xs : List Value}, w.ownsRow 0 e size v n xs → 87 ≠ e → w'.ownsRow 0 e size v n xs := fun hr hne => ownsRow_only hr o fun k hk e => by
    subst e
    exact row_ne hr hlc hne hk
  refine ⟨{
    obj := o.blk h.obj (blk_ne h.obj hlc (by decide))
    lock := hl
    linv := hi
    heap := row h.heap (by decide)
    mp := h.mp.only o (map_ne h.mp hlc)
    evs := h.evs.imp fun _ hr => row hr (by decide)
    kys := h.kys.imp fun _ hr => row hr (by decide)
    wys := h.wys.imp fun _ hr => row hr (by decide)
    ths := fun t x e => by
      have hA := h.ths t x e
      obtain ⟨ov, hs1, _, hmm, _⟩ := hA.set
      obtain ⟨xs, hxe, a, hl1, _⟩ := hA.log
      exact hA.frame o hK (blk_ne hA.obj hlc (by decide)) (blk_ne hl1 hlc (by decide)) (blk_ne hs1 hlc (by decide)) (map_ne hmm hlc)
    sep := h.sep
    sepm := h.sepm
    lo1 := h.lo1
    lo2 := h.lo2
    lo3 := h.lo3 }, mut_one o hlc (by show _ ∈ _; decide) h.lo1.2.1⟩
/-- a thread's log, or its set, is turned -/
theorem EngAt.thr {S : Nat → Prop} (h : EngAt lo w eb B E) {t : Int} {x y : T} (hx : E.th t = some x) (o : Only S w w') (hS : ∀ k, S k → k < w.heap.size → k = (B.pt t).q ∨ k = (B.pt t).s ∨ k = (B.pt t).b) {b' : Nat} (hb' : b' = (B.pt t).b ∨ w.heap.size ≤ b')
    (hA : AttAt w' ⟨(B.pt t).p, (B.pt t).q, (B.pt t).s, b'⟩ y) : EngAt lo w' eb { B with pt := fun u => if u = t then ⟨(B.pt t).p, (B.pt t).q, (B.pt t).s, b'⟩ else B.pt u } { E with th := updT E.th t (some y) } ∧ Only (Mut lo w) w w' := by
  have hT := h.ths t x hx
  obtain ⟨ov, ts1, _, tmm, _⟩ := hT.set
  obtain ⟨xs, txe, ta, tl1, _⟩ := hT.log
  have hL := h.lo3 t x hx
  have hK : KindS w S := fun k hk hlt => by
    rcases hS k hk hlt with rfl | rfl | rfl
    · exact ⟨_, tl1, by show _ ∈ _; decide⟩
    · exact ⟨_, ts1, by show _ ∈ _; decide⟩
    · obtain ⟨es, c, hm⟩ := tmm.obj
      exact ⟨_, hm, trivial⟩
  have nC : ∀ {k : Nat} {cs : Array Value} {ty : TypeId} {fr : Nat × Nat}, w.heap[k]? = some (.cells cs ty fr) → ty ∉ [105, 117] → ¬ S k := fun hc ht hs => by
    rcases hS _ hs (blk_lt hc) with rfl | rfl | rfl
    · exact blk_ne hc tl1 (fun e => ht (by rw [e]; decide)) rfl
    · exact blk_ne hc ts1 (fun e => ht (by rw [e]; decide)) rfl
    · exact tmm.not_cells hc
  have row : ∀ {e : TypeId} {size n : Nat} {v : Value} {xs : List Value}, w.ownsRow 0 e size v n xs → e ∉ [105, 117] → w'.ownsRow 0 e size v n xs := fun hr hne => ownsRow_only hr o fun k hk hs => by
    obtain ⟨cs, hc⟩ := row_obj hr hk
    exact nC hc hne hs
  have nMb : ¬ S B.mb := fun hs => by
    rcases hS _ hs h.mp.lt with e | e | e
    · exact map_ne h.mp tl1 e
    · exact map_ne h.mp ts1 e
    · exact h.sepm t x hx e.symm
  have hth : ∀ s z, updT E.th t (some y) s = some z → (s = t ∧ z = y) ∨ (s ≠ t ∧ E.th s = some z) := fun s z e => by
    unfold updT at e
    split at e
    · rename_i hs
      injection e with e
      exact .inl ⟨hs, e.symm⟩
    · rename_i hs
      exact .inr ⟨hs, e⟩
  obtain ⟨lcs, hlc⟩ := lock_obj h.lock
  have hbl := tmm.lt
  refine ⟨{
    obj := o.blk h.obj (nC h.obj (by decide))
    lock := lock_frame h.lock o hK (nC hlc (by decide))
    linv := h.linv
    heap := row h.heap (by decide)
    mp := (h.mp.only o nMb).congr fun s _ => by
      show (E.th s).map _ = (updT E.th t (some y) s).map _
      unfold updT
      by_cases hs : s = t
      · subst hs; rw [if_pos rfl, hx]; simp
      · rw [if_neg hs]; simp [hs]
    evs := h.evs.imp fun _ hr => row hr (by decide)
    kys := h.kys.imp fun _ hr => row hr (by decide)
    wys := h.wys.imp fun _ hr => row hr (by decide)
    ths := fun s z e => by
      rcases hth s z e with ⟨rfl, rfl⟩ | ⟨hs, e⟩
      · simpa using hA
      · have hz := h.ths s z e
        have hsp := h.sep s t z x e hx hs
        obtain ⟨ov', hs1, _, hmm, _⟩ := hz.set
        obtain ⟨xs', hxe, a, hl1, _⟩ := hz.log
        simp only [if_neg hs]
        refine hz.frame o hK (nC hz.obj (by decide)) (fun hq => ?_) (fun hq => ?_) (fun hq => ?_)
        · rcases hS _ hq (blk_lt hl1) with e | e | e
          · exact hsp.2.1 e
          · exact blk_ne hl1 ts1 (by decide) e
          · exact map_ne tmm hl1 e.symm
        · rcases hS _ hq (blk_lt hs1) with e | e | e
          · exact blk_ne hs1 tl1 (by decide) e
          · exact hsp.2.2.1 e
          · exact map_ne tmm hs1 e.symm
        · rcases hS _ hq hmm.lt with e | e | e
          · exact map_ne hmm tl1 e
          · exact map_ne hmm ts1 e
          · exact hsp.2.2.2 e
    sep := fun s s' z z' e e' hne => by
      have bnew : ∀ u v, E.th u = some v → u ≠ t → (B.pt u).b ≠ b' := fun u v hu hut e => by
        obtain ⟨_, _, _, hmm, _⟩ := (h.ths u v hu).set
        have := hmm.lt
        rcases hb' with e' | e'
        · exact (h.sep u t v x hu hx hut).2.2.2 (e.trans e')
        · omega
      rcases hth s z e with ⟨rfl, rfl⟩ | ⟨hs, e2⟩
      · rcases hth s' z' e' with ⟨rfl, _⟩ | ⟨hs', e2'⟩
        · exact absurd rfl hne
        · have := h.sep s s' x z' hx e2' hne
          simp only [if_neg hs', if_true]
          exact ⟨this.1, this.2.1, this.2.2.1, fun e => bnew s' z' e2' hs' e.symm⟩
      · rcases hth s' z' e' with ⟨rfl, rfl⟩ | ⟨hs', e2'⟩
        · have := h.sep s s' z x e2 hx hne
          simp only [if_neg hs, if_true]
          exact ⟨this.1, this.2.1, this.2.2.1, bnew s z e2 hs⟩
        · simp only [if_neg hs, if_neg hs']
          exact h.sep s s' z z' e2 e2' hne
    sepm := fun s z e => by
      rcases hth s z e with ⟨rfl, rfl⟩ | ⟨hs, e⟩
      · simp only [if_true]
        have := h.mp.lt
        rcases hb' with e' | e'
        · rw [e']; exact h.sepm s x hx
        · show b' ≠ B.mb
          omega
      · simp only [if_neg hs]
        exact h.sepm s z e
    lo1 := h.lo1
    lo2 := h.lo2
    lo3 := fun s z e => by
      rcases hth s z e with ⟨rfl, rfl⟩ | ⟨hs, e⟩
      · simp only [if_true]
        refine ⟨hL.1, hL.2.1, hL.2.2.1, ?_⟩
        rcases hb' with e' | e'
        · rw [e']; exact hL.2.2.2
        · exact Nat.le_trans hL.2.2.2 (Nat.le_trans (Nat.le_of_lt hbl) e')
      · simp only [if_neg hs]
        exact h.lo3 s z e }, (Only.refl (Mut lo w) w).after o fun k hlt hk => ?_⟩
  rcases hS k hk hlt with rfl | rfl | rfl
  · exact ⟨hL.2.1, _, tl1, by show _ ∈ _; decide⟩
  · exact ⟨hL.2.2.1, _, ts1, by show _ ∈ _; decide⟩
  · obtain ⟨es, c, hm⟩ := tmm.obj
    exact ⟨hL.2.2.2, _, hm, trivial⟩
/-- a thread's attempt is forgotten -/
theorem EngAt.del (h : EngAt lo w eb B E) (t : Int) (o : Only (fun k => k = B.mb) w w') (hm : MapIs Try.prog 3 w' B.mb E.c (updM (fun t => (E.th t).map fun _ => ptr (B.pt t).p) t none)) : EngAt lo w' eb B { E with th := updT E.th t none } ∧ Only (Mut lo w) w w' := by
  obtain ⟨es, c, hmo⟩ := h.mp.obj
  have hK : KindS w (fun k => k = B.mb) := .one hmo trivial
  have nC : ∀ {k : Nat} {cs : Array Value} {ty : TypeId} {fr : Nat × Nat}, w.heap[k]? = some (.cells cs ty fr) → ¬ k = B.mb := fun hc e => by
    subst e
    exact h.mp.not_cells hc
  have row : ∀ {e : TypeId} {size n : Nat} {v : Value} {xs : List Value}, w.ownsRow 0 e size v n xs → w'.ownsRow 0 e size v n xs := fun hr => ownsRow_only hr o fun k hk hs => by
    obtain ⟨cs, hc⟩ := row_obj hr hk
    exact nC hc hs
  have hth : ∀ s z, updT E.th t none s = some z → E.th s = some z := fun s z e => by
    unfold updT at e
    split at e
    · cases e
    · exact e
  obtain ⟨lcs, hlc⟩ := lock_obj h.lock
  exact ⟨{
    obj := o.blk h.obj (nC h.obj)
    lock := lock_frame h.lock o hK (nC hlc)
    linv := h.linv
    heap := row h.heap
    mp := hm.congr fun s _ => by
      show updM _ t none s = (updT E.th t none s).map _
      unfold updM updT
      split <;> rfl
    evs := h.evs.imp fun _ hr => row hr
    kys := h.kys.imp fun _ hr => row hr
    wys := h.wys.imp fun _ hr => row hr
    ths := fun s z e => by
      have hz := h.ths s z (hth s z e)
      obtain ⟨ov', hs1, _, hmm, _⟩ := hz.set
      obtain ⟨xs', hxe, a, hl1, _⟩ := hz.log
      exact hz.frame o hK (nC hz.obj) (nC hl1) (nC hs1) (h.sepm s z (hth s z e))
    sep := fun s s' z z' e e' => h.sep s s' z z' (hth s z e) (hth s' z' e')
    sepm := fun s z e => h.sepm s z (hth s z e)
    lo1 := h.lo1
    lo2 := h.lo2
    lo3 := fun s z e => h.lo3 s z (hth s z e) }, mut_one o hmo trivial h.lo1.2.2.2⟩
end
def RPost (lo : Nat) (w : World) (eb : Nat) (E' : Eng) (R : Value) (e : Ending) (w' : World) : Prop := e = .returned R ∧ (∃ B', EngAt lo w' eb B' E') ∧ Only (Mut lo w) w w'
set_option maxHeartbeats 3200000 in
theorem commit_any {lo : Nat} {w : World} {eb : Nat} {B : Bk} {E : Eng} (h : EngAt lo w eb B E) (hlo : lo ≤ w.heap.size) (hm : E.m ≤ 1000000) (t : Int) (h0 : 0 ≤ t) (h3 : t < 3) {x : T} (hx : E.th t = some x) :
    Calls Try.prog 40 #[ptr eb, .int .i64 t] w (RPost lo w eb { E with m := E.m + 1, th := updT E.th t none } (reply true 0 false 0 true 0 0)) := by
  have l1 : Below w.heap.size w (w.alloc (.cells #[.bool false, .int .u64 0, .bool false, .int .i64 0, .bool false, .int .u8 0, .int .i64 0] 38)) := by repeat (first | (with_reducible exact Below.refl _ _) | (with_reducible apply Below.drew) | (with_reducible refine below_drewN ?_ _) | (with_reducible refine below_alloc' ?_ ?_ _; (focus ((try simp) <;> omega))) | (with_reducible refine below_set' ?_ ?_ _; (focus ((try simp) <;> omega))))
  have hbr : (w.alloc (.cells #[.bool false, .int .u64 0, .bool false, .int .i64 0, .bool false, .int .u8 0, .int .i64 0] 38)).heap[w.heap.size]? = some (.cells #[.bool false, .int .u64 0, .bool false, .int .i64 0, .bool false, .int .u8 0, .int .i64 0] 38 (0, 0)) := by simp [↓heap_alloc_eq, ↓heap_set_eq, ↓heap_drew_eq, ↓heap_drewN_eq, setObj, size_drewN]
  have h1 := h.below l1
  have HT := Lib.hid (tell_any h1 (Nat.le_trans hlo l1.size) hm 8 x.num 0 0)
  have hlk := h.look t h0 h3 (w.alloc (.cells #[.bool false, .int .u64 0, .bool false, .int .i64 0, .bool false, .int .u8 0, .int .i64 0] 38)) l1
  rw [hx] at hlk
  simp only [Option.map_some, Option.getD_some] at hlk
  have e2 := blk_cell h.obj 2
  simp only [List.getElem?_toArray, List.getElem?_cons_zero, List.getElem?_cons_succ] at e2
  have x2 := ((h.ths t x hx).cells 2 _ rfl).1
  have hpl := blk_lt (h.ths t x hx).obj
  have hel := blk_lt h.obj
  have hpn : ¬ (B.pt t).p = w.heap.size := by omega
  have hen : ¬ eb = w.heap.size := by omega
  have HX := Lib.hid hx; have L1 := Lib.hid l1; have HBR := Lib.hid hbr
  clear h h1 hx l1 hbr
  go_enter Try.func40, Try.ntmps40
  go_wp2_with fail
  refine HT.out.mono ?_
  rintro e w2 ⟨rfl, ⟨u, hE⟩, o2⟩
  have HE := Lib.hid hE
  have O2 := Lib.hid (show Only (Mut lo w) w w2 from mut_trans (mut_below L1.out) o2)
  have HBR2 := Lib.hid (mut_keep o2 HBR.out (by decide))
  obtain ⟨wd, hdr, hmd, od⟩ := MapIs.drop (P := Try.prog) Try.underlying3 Try.underlying56 hE.mp (th_in h0 h3) 0
  have e2' := blk_cell hE.obj 2
  simp only [List.getElem?_toArray, List.getElem?_cons_zero, List.getElem?_cons_succ] at e2'
  have HMD := Lib.hid hmd; have OD := Lib.hid od
  have hbrd := od.blk HBR2.out (fun e => map_ne hE.mp HBR2.out e.symm)
  have HBRD := Lib.hid hbrd
  have r0 := blk_cell hbrd 0; have r1 := blk_cell hbrd 1; have r2 := blk_cell hbrd 2; have r3 := blk_cell hbrd 3; have r4 := blk_cell hbrd 4; have r5 := blk_cell hbrd 5; have r6 := blk_cell hbrd 6; have s0 := blk_free hbrd 0; have s1 := blk_free hbrd 1; have s2 := blk_free hbrd 2; have s3 := blk_free hbrd 3; have s4 := blk_free hbrd 4; have s5 := blk_free hbrd 5; have s6 := blk_free hbrd 6; simp only [List.getElem?_toArray, List.getElem?_cons_zero, List.getElem?_cons_succ] at r0 r1 r2 r3 r4 r5 r6
  clear hE o2 hlk e2 x2 hpl hel hpn hen hmd od HT hbrd
  go_wp2_with fail
  have hD := HE.out.del t OD.out HMD.out
  have hfin := reply_end hD.1 (mut_trans O2.out hD.2) HBRD.out (Nat.le_refl _) (repW_only _ w.heap.size true 0 false 0 true 0 0); have hz := repW_obj HBRD.out true 0 false 0 true 0 0; refine bodyPost_ret (v := reply true 0 false 0 true 0 0) ?_ rfl ?_; (focus (refine (show (results _ _).run _ (repW _ w.heap.size true 0 false 0 true 0 0) = .ok _ (repW _ w.heap.size true 0 false 0 true 0 0) from ?_); have z0 := blk_cell hz 0; have z1 := blk_cell hz 1; have z2 := blk_cell hz 2; have z3 := blk_cell hz 3; have z4 := blk_cell hz 4; have z5 := blk_cell hz 5; have z6 := blk_cell hz 6; simp only [List.getElem?_toArray, List.getElem?_cons_zero, List.getElem?_cons_succ] at z0 z1 z2 z3 z4 z5 z6; simp [results, Try.results40, go_sem, z0, z1, z2, z3, z4, z5, z6, reply]; done))
  exact ⟨rfl, ⟨_, hfin.1⟩, hfin.2⟩
end Go.Proofs.Ytgjemjogncnbnaa.Tad
