/- The plain side of the lock that counts: who has it, what it counts. No Go here. -/
namespace Go.Proofs.Ytgjemjogncnbnaa.Seq

structure St where
  own : Option Int
  cnt : Int

structure St.Inv (s : St) : Prop where
  lo : 0 ≤ s.cnt
  hi : s.cnt ≤ 1099511627776
  held : ∀ o, s.own = some o → s.cnt % 2 = 1 ∧ s.cnt ≤ 1099511627775 ∧ 0 ≤ o ∧ o < 4
  free : s.own = none → s.cnt % 2 = 0

def st0 : St := ⟨none, 0⟩
def ownE : Option Int → Int | none => 0 | some _ => 7
def St.snapE (s : St) : Int := ownE s.own
def St.snapV (s : St) : Int := if s.own.isSome then 0 else s.cnt
def St.tryE (s : St) (o t : Int) : Int :=
  if o < 0 ∨ 4 ≤ o then 2 else if s.own.isSome then 7 else if s.cnt ≠ t then 8 else if 1099511627775 ≤ s.cnt then 4 else 0
def St.trySt (s : St) (o t : Int) : St := if s.tryE o t = 0 then ⟨some o, s.cnt + 1⟩ else s
def St.freeE (s : St) (o : Int) : Int := if s.own = some o then 0 else 8
def St.unlockSt (s : St) (o : Int) : St := if s.own = some o then ⟨none, s.cnt + 1⟩ else s
def St.breakSt (s : St) (o : Int) : St := if s.own = some o then ⟨none, s.cnt - 1⟩ else s
def St.ownV (s : St) : Int := s.own.getD 0

theorem inv0 : st0.Inv := ⟨by decide, by decide, (fun o h => by cases h), fun _ => by decide⟩

theorem inv_try {s : St} (h : s.Inv) (o t : Int) : (s.trySt o t).Inv := by
  unfold St.trySt
  split
  · rename_i he
    unfold St.tryE at he
    have ⟨h1, h2, h3, h4⟩ := h
    split at he
    · cases he
    split at he
    · cases he
    split at he
    · cases he
    split at he
    · cases he
    rename_i a b c d
    have e : s.own = none := by simpa using b
    have := h4 e
    exact ⟨by simp; omega, by simp; omega, fun o' ho' => by simp at ho'; subst ho'; simp; omega, fun hn => by simp at hn⟩
  · exact h

theorem inv_unlock {s : St} (h : s.Inv) (o : Int) : (s.unlockSt o).Inv := by
  unfold St.unlockSt
  split
  · rename_i he
    have ⟨h1, h2, h3, h4⟩ := h
    have := h3 o he
    exact ⟨by simp; omega, by simp; omega, fun o' ho' => by simp at ho', fun _ => by simp; omega⟩
  · exact h

theorem inv_break {s : St} (h : s.Inv) (o : Int) : (s.breakSt o).Inv := by
  unfold St.breakSt
  split
  · rename_i he
    have ⟨h1, h2, h3, h4⟩ := h
    have := h3 o he
    exact ⟨by simp; omega, by simp; omega, fun o' ho' => by simp at ho', fun _ => by simp; omega⟩
  · exact h
theorem cnt_try (s : St) (o t : Int) : (s.trySt o t).cnt ≤ s.cnt + 1 := by unfold St.trySt; split <;> (try simp) <;> omega
theorem cnt_unlock (s : St) (o : Int) : (s.unlockSt o).cnt ≤ s.cnt + 1 := by unfold St.unlockSt; split <;> (try simp) <;> omega
theorem cnt_break (s : St) (o : Int) : (s.breakSt o).cnt ≤ s.cnt + 1 := by unfold St.breakSt; split <;> (try simp) <;> omega
end Go.Proofs.Ytgjemjogncnbnaa.Seq
