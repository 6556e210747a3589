/-
  No cell of these rows narrows 'for every input' (looked for: loops, veiled, ifaces, maps, wideKeys, modest, calm, conditions, laid).
  DERIVED. THE GIVEN ROWS OF THIS SEAT. 5 by the template 'for every input the law returns true; each argument reads behind the call as it read before'; 0 by the template 'total and deterministic' (their statements: YtgdflghfahlfpaaTotals.lean).
  GIVEN WITH THE SEED: the statements are not yours to turn. If you find one false, say at which input.
  Laid BY PROGRAM, IN A SANDBOX (cutbox-rows.mjs): the forced cells as the released guide's own fill.sh prints them over the translation fe15903e8259d90a… (all of the seat's roots in one cut). By AI agents, Wed Nov 11 2026. No macro, syntax, notation, axiom, sorry.
-/
import Derived.Test.YtgdflghfahlfpaaChecked
import GoSem.Claim
import GoSem.ClaimJoined
import GoSem.ClaimMapViews
import Derived.JoinedTies
import Derived.KernelRfl
namespace Go.Proofs.Ytgdflghfahlfpaa
/- THE CELL 'sum', in the pinned program and in every row, IS THE sha256 OF THE DUMP (.gsa) THAT YtgdflghfahlfpaaProg.lean LOADS. Nothing in Lean hashes anything: it is a label: what it is worth is what the hold of that sum in a sandbox is worth. -/
noncomputable def Try.pinned : Pinned := { name := "ytgdflghfahlfpaa", sum := "fe15903e8259d90a315fdebccd549707e45c6de27ef4c141219bb0646f2e64d8", checked := Try.checked }
namespace Rows
def none {H : Type} : Left H := { results := [], args := [] }

/-- 'rowlocklaw03.LockwordForms': WHATEVER THE INPUT: true; the input reads as it did. -/
def lockwordFormsSpec : ChangeSpec := { name := "lockwordForms", fn := fun _ => fun
  | [d1, d2, d3] => { results := [.lit (.bool true)], args := [d1, d2, d3] }
  | _ => none }
def lockwordFormsRow : OpenClaim := { program := "ytgdflghfahlfpaa", sum := "fe15903e8259d90a315fdebccd549707e45c6de27ef4c141219bb0646f2e64d8", func := "rowlock/rowlocklaw03.LockwordForms", spec := "lockwordForms", apart := false }
def LockwordFormsSaid : Prop := lockwordFormsRow.holds Try.pinned (OpenSpec.ofChange lockwordFormsSpec)

/-- ITS FALSE NEIGHBOUR: 'it returns false'. Refute it at one input. -/
def lockwordFormsWrong : ChangeSpec := { name := "lockwordForms", fn := fun _ => fun
  | [d1, d2, d3] => { results := [.lit (.bool false)], args := [d1, d2, d3] }
  | _ => none }
def LockwordFormsWrongFalsely : Prop := lockwordFormsRow.holds Try.pinned (OpenSpec.ofChange lockwordFormsWrong)

/-- 'rowlocklaw03.LockwordBack': WHATEVER THE INPUT: true; the input reads as it did. -/
def lockwordBackSpec : ChangeSpec := { name := "lockwordBack", fn := fun _ => fun
  | [d1, d2, d3] => { results := [.lit (.bool true)], args := [d1, d2, d3] }
  | _ => none }
def lockwordBackRow : OpenClaim := { program := "ytgdflghfahlfpaa", sum := "fe15903e8259d90a315fdebccd549707e45c6de27ef4c141219bb0646f2e64d8", func := "rowlock/rowlocklaw03.LockwordBack", spec := "lockwordBack", apart := false }
def LockwordBackSaid : Prop := lockwordBackRow.holds Try.pinned (OpenSpec.ofChange lockwordBackSpec)

/-- ITS FALSE NEIGHBOUR: 'it returns false'. Refute it at one input. -/
def lockwordBackWrong : ChangeSpec := { name := "lockwordBack", fn := fun _ => fun
  | [d1, d2, d3] => { results := [.lit (.bool false)], args := [d1, d2, d3] }
  | _ => none }
def LockwordBackWrongFalsely : Prop := lockwordBackRow.holds Try.pinned (OpenSpec.ofChange lockwordBackWrong)

/-- 'rowlocklaw03.LockwordUnlike': WHATEVER THE INPUT: true; the input reads as it did. -/
def lockwordUnlikeSpec : ChangeSpec := { name := "lockwordUnlike", fn := fun _ => fun
  | [d1, d2] => { results := [.lit (.bool true)], args := [d1, d2] }
  | _ => none }
def lockwordUnlikeRow : OpenClaim := { program := "ytgdflghfahlfpaa", sum := "fe15903e8259d90a315fdebccd549707e45c6de27ef4c141219bb0646f2e64d8", func := "rowlock/rowlocklaw03.LockwordUnlike", spec := "lockwordUnlike", apart := false }
def LockwordUnlikeSaid : Prop := lockwordUnlikeRow.holds Try.pinned (OpenSpec.ofChange lockwordUnlikeSpec)

/-- ITS FALSE NEIGHBOUR: 'it returns false'. Refute it at one input. -/
def lockwordUnlikeWrong : ChangeSpec := { name := "lockwordUnlike", fn := fun _ => fun
  | [d1, d2] => { results := [.lit (.bool false)], args := [d1, d2] }
  | _ => none }
def LockwordUnlikeWrongFalsely : Prop := lockwordUnlikeRow.holds Try.pinned (OpenSpec.ofChange lockwordUnlikeWrong)

/-- 'rowlocklaw03.LockwordRestores': WHATEVER THE INPUT: true; the input reads as it did. -/
def lockwordRestoresSpec : ChangeSpec := { name := "lockwordRestores", fn := fun _ => fun
  | [d1, d2, d3] => { results := [.lit (.bool true)], args := [d1, d2, d3] }
  | _ => none }
def lockwordRestoresRow : OpenClaim := { program := "ytgdflghfahlfpaa", sum := "fe15903e8259d90a315fdebccd549707e45c6de27ef4c141219bb0646f2e64d8", func := "rowlock/rowlocklaw03.LockwordRestores", spec := "lockwordRestores", apart := false }
def LockwordRestoresSaid : Prop := lockwordRestoresRow.holds Try.pinned (OpenSpec.ofChange lockwordRestoresSpec)

/-- ITS FALSE NEIGHBOUR: 'it returns false'. Refute it at one input. -/
def lockwordRestoresWrong : ChangeSpec := { name := "lockwordRestores", fn := fun _ => fun
  | [d1, d2, d3] => { results := [.lit (.bool false)], args := [d1, d2, d3] }
  | _ => none }
def LockwordRestoresWrongFalsely : Prop := lockwordRestoresRow.holds Try.pinned (OpenSpec.ofChange lockwordRestoresWrong)

/-- 'rowlocklaw03.LockwordTurns': WHATEVER THE INPUT: true; the input reads as it did. -/
def lockwordTurnsSpec : ChangeSpec := { name := "lockwordTurns", fn := fun _ => fun
  | [d1, d2, d3] => { results := [.lit (.bool true)], args := [d1, d2, d3] }
  | _ => none }
def lockwordTurnsRow : OpenClaim := { program := "ytgdflghfahlfpaa", sum := "fe15903e8259d90a315fdebccd549707e45c6de27ef4c141219bb0646f2e64d8", func := "rowlock/rowlocklaw03.LockwordTurns", spec := "lockwordTurns", apart := false }
def LockwordTurnsSaid : Prop := lockwordTurnsRow.holds Try.pinned (OpenSpec.ofChange lockwordTurnsSpec)

/-- ITS FALSE NEIGHBOUR: 'it returns false'. Refute it at one input. -/
def lockwordTurnsWrong : ChangeSpec := { name := "lockwordTurns", fn := fun _ => fun
  | [d1, d2, d3] => { results := [.lit (.bool false)], args := [d1, d2, d3] }
  | _ => none }
def LockwordTurnsWrongFalsely : Prop := lockwordTurnsRow.holds Try.pinned (OpenSpec.ofChange lockwordTurnsWrong)

/- THE SECOND FORM. 'bulk': how many values and letters a reading holds, each counted each time it is reached (what is shared counts as often as it is met; a slice's spare places count too). A statement '..UptoSaid' is the law's where the arguments, and the package variables that the reading takes, are together of bulk at most 1048576: NARROWER than '..Said'. Prove '..Said' where nothing that the law and all that it calls make is longer than what came in: it says more and counts as full. Else prove '..UptoSaid'. A law counts once. -/
mutual
def uptoBulk {H : Type} : DataW H → Nat
  | .lit (.string bytes) => bytes.length + 1
  | .lit _ => 1
  | .nil => 1
  | .ptr d => uptoBulk d + 1
  | .slice elems spare => uptoBulkAll elems + uptoBulkAll spare + 1
  | .agg parts => uptoBulkAll parts + 1
  | .iface _ d => uptoBulk d + 1
  | .map entries => uptoBulkEntries entries + 1
  | .held _ => 1
def uptoBulkAll {H : Type} : List (DataW H) → Nat
  | [] => 0
  | d :: r => uptoBulk d + uptoBulkAll r
def uptoBulkEntries {H : Type} : List (Lit × DataW H) → Nat
  | [] => 0
  | x :: r => uptoBulkEntry x + uptoBulkEntries r
def uptoBulkEntry {H : Type} : Lit × DataW H → Nat
  | (.string bytes, d) => bytes.length + uptoBulk d + 1
  | (_, d) => uptoBulk d + 1
 end
def uptoSmall : (H : Type) → List (DataW H) → Bool := fun _ ds => decide (uptoBulkAll ds ≤ 1048576)
def OpenSpec.upto (s : _root_.Go.ChangeSpec) : _root_.Go.OpenSpec := { _root_.Go.OpenSpec.ofChange s with cond := some uptoSmall }

/-- 'rowlocklaw03.LockwordForms', WHERE WHAT IT READS IS OF BULK AT MOST 1048576: true; the input reads as it did. -/
def lockwordFormsUptoRow : OpenClaim := { program := "ytgdflghfahlfpaa", sum := "fe15903e8259d90a315fdebccd549707e45c6de27ef4c141219bb0646f2e64d8", func := "rowlock/rowlocklaw03.LockwordForms", spec := "lockwordForms", apart := false, narrowed := true }
def LockwordFormsUptoSaid : Prop := lockwordFormsUptoRow.holds Try.pinned (OpenSpec.upto lockwordFormsSpec)

/-- 'rowlocklaw03.LockwordBack', WHERE WHAT IT READS IS OF BULK AT MOST 1048576: true; the input reads as it did. -/
def lockwordBackUptoRow : OpenClaim := { program := "ytgdflghfahlfpaa", sum := "fe15903e8259d90a315fdebccd549707e45c6de27ef4c141219bb0646f2e64d8", func := "rowlock/rowlocklaw03.LockwordBack", spec := "lockwordBack", apart := false, narrowed := true }
def LockwordBackUptoSaid : Prop := lockwordBackUptoRow.holds Try.pinned (OpenSpec.upto lockwordBackSpec)

/-- 'rowlocklaw03.LockwordUnlike', WHERE WHAT IT READS IS OF BULK AT MOST 1048576: true; the input reads as it did. -/
def lockwordUnlikeUptoRow : OpenClaim := { program := "ytgdflghfahlfpaa", sum := "fe15903e8259d90a315fdebccd549707e45c6de27ef4c141219bb0646f2e64d8", func := "rowlock/rowlocklaw03.LockwordUnlike", spec := "lockwordUnlike", apart := false, narrowed := true }
def LockwordUnlikeUptoSaid : Prop := lockwordUnlikeUptoRow.holds Try.pinned (OpenSpec.upto lockwordUnlikeSpec)

/-- 'rowlocklaw03.LockwordRestores', WHERE WHAT IT READS IS OF BULK AT MOST 1048576: true; the input reads as it did. -/
def lockwordRestoresUptoRow : OpenClaim := { program := "ytgdflghfahlfpaa", sum := "fe15903e8259d90a315fdebccd549707e45c6de27ef4c141219bb0646f2e64d8", func := "rowlock/rowlocklaw03.LockwordRestores", spec := "lockwordRestores", apart := false, narrowed := true }
def LockwordRestoresUptoSaid : Prop := lockwordRestoresUptoRow.holds Try.pinned (OpenSpec.upto lockwordRestoresSpec)

/-- 'rowlocklaw03.LockwordTurns', WHERE WHAT IT READS IS OF BULK AT MOST 1048576: true; the input reads as it did. -/
def lockwordTurnsUptoRow : OpenClaim := { program := "ytgdflghfahlfpaa", sum := "fe15903e8259d90a315fdebccd549707e45c6de27ef4c141219bb0646f2e64d8", func := "rowlock/rowlocklaw03.LockwordTurns", spec := "lockwordTurns", apart := false, narrowed := true }
def LockwordTurnsUptoSaid : Prop := lockwordTurnsUptoRow.holds Try.pinned (OpenSpec.upto lockwordTurnsSpec)

end Rows
end Go.Proofs.Ytgdflghfahlfpaa
