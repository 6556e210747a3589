/-
  No cell of these rows narrows 'for every input' (looked for: loops, veiled, ifaces, maps, wideKeys, modest, calm, conditions, laid).
  DERIVED. THE GIVEN ROWS OF THIS SEAT. 5 by the template 'for every input the law returns true; each argument reads behind the call as it read before'; 0 by the template 'total and deterministic' (their statements: YtphnogbkiemoeaaTotals.lean).
  GIVEN WITH THE SEED: the statements are not yours to turn. If you find one false, say at which input.
  Laid BY PROGRAM, IN A SANDBOX (cutbox-rows.mjs): the forced cells as the released guide's own fill.sh prints them over the translation 4c0ebbe97e313dcc… (all of the seat's roots in one cut). By AI agents, Wed Nov 11 2026. No macro, syntax, notation, axiom, sorry.
-/
import Derived.Test.YtphnogbkiemoeaaChecked
import GoSem.Claim
import GoSem.ClaimJoined
import GoSem.ClaimMapViews
import Derived.JoinedTies
import Derived.KernelRfl
namespace Go.Proofs.Ytphnogbkiemoeaa
/- THE CELL 'sum', in the pinned program and in every row, IS THE sha256 OF THE DUMP (.gsa) THAT YtphnogbkiemoeaaProg.lean LOADS. Nothing in Lean hashes anything: it is a label: what it is worth is what the hold of that sum in a sandbox is worth. -/
noncomputable def Try.pinned : Pinned := { name := "ytphnogbkiemoeaa", sum := "4c0ebbe97e313dcce8852da21522754fec6a7553843faea0077432c61813f31f", checked := Try.checked }
namespace Rows
def none {H : Type} : Left H := { results := [], args := [] }

/-- 'rowlocklaw12.ManagerPatience': WHATEVER THE INPUT: true; the input reads as it did. -/
def managerPatienceSpec : ChangeSpec := { name := "managerPatience", fn := fun _ => fun
  | [d1, d2] => { results := [.lit (.bool true)], args := [d1, d2] }
  | _ => none }
def managerPatienceRow : OpenClaim := { program := "ytphnogbkiemoeaa", sum := "4c0ebbe97e313dcce8852da21522754fec6a7553843faea0077432c61813f31f", func := "rowlock/rowlocklaw12.ManagerPatience", spec := "managerPatience", unfollowed := true, recurses := true, apart := false }
def ManagerPatienceSaid : Prop := managerPatienceRow.holds Try.pinned (OpenSpec.ofChange managerPatienceSpec)

/-- ITS FALSE NEIGHBOUR: 'it returns false'. Refute it at one input. -/
def managerPatienceWrong : ChangeSpec := { name := "managerPatience", fn := fun _ => fun
  | [d1, d2] => { results := [.lit (.bool false)], args := [d1, d2] }
  | _ => none }
def ManagerPatienceWrongFalsely : Prop := managerPatienceRow.holds Try.pinned (OpenSpec.ofChange managerPatienceWrong)

/-- 'rowlocklaw12.ManagerStamps': WHATEVER THE INPUT: true; the input reads as it did. -/
def managerStampsSpec : ChangeSpec := { name := "managerStamps", fn := fun _ => fun
  | [d1, d2, d3] => { results := [.lit (.bool true)], args := [d1, d2, d3] }
  | _ => none }
def managerStampsRow : OpenClaim := { program := "ytphnogbkiemoeaa", sum := "4c0ebbe97e313dcce8852da21522754fec6a7553843faea0077432c61813f31f", func := "rowlock/rowlocklaw12.ManagerStamps", spec := "managerStamps", unfollowed := true, recurses := true, apart := false }
def ManagerStampsSaid : Prop := managerStampsRow.holds Try.pinned (OpenSpec.ofChange managerStampsSpec)

/-- ITS FALSE NEIGHBOUR: 'it returns false'. Refute it at one input. -/
def managerStampsWrong : ChangeSpec := { name := "managerStamps", fn := fun _ => fun
  | [d1, d2, d3] => { results := [.lit (.bool false)], args := [d1, d2, d3] }
  | _ => none }
def ManagerStampsWrongFalsely : Prop := managerStampsRow.holds Try.pinned (OpenSpec.ofChange managerStampsWrong)

/-- 'rowlocklaw12.ManagerOldest': WHATEVER THE INPUT: true; the input reads as it did. -/
def managerOldestSpec : ChangeSpec := { name := "managerOldest", fn := fun _ => fun
  | [d1, d2] => { results := [.lit (.bool true)], args := [d1, d2] }
  | _ => none }
def managerOldestRow : OpenClaim := { program := "ytphnogbkiemoeaa", sum := "4c0ebbe97e313dcce8852da21522754fec6a7553843faea0077432c61813f31f", func := "rowlock/rowlocklaw12.ManagerOldest", spec := "managerOldest", unfollowed := true, recurses := true, apart := false }
def ManagerOldestSaid : Prop := managerOldestRow.holds Try.pinned (OpenSpec.ofChange managerOldestSpec)

/-- ITS FALSE NEIGHBOUR: 'it returns false'. Refute it at one input. -/
def managerOldestWrong : ChangeSpec := { name := "managerOldest", fn := fun _ => fun
  | [d1, d2] => { results := [.lit (.bool false)], args := [d1, d2] }
  | _ => none }
def ManagerOldestWrongFalsely : Prop := managerOldestRow.holds Try.pinned (OpenSpec.ofChange managerOldestWrong)

/-- 'rowlocklaw12.ManagerNone': WHATEVER THE INPUT: true; the input reads as it did. -/
def managerNoneSpec : ChangeSpec := { name := "managerNone", fn := fun _ => fun
  | [d1, d2] => { results := [.lit (.bool true)], args := [d1, d2] }
  | _ => none }
def managerNoneRow : OpenClaim := { program := "ytphnogbkiemoeaa", sum := "4c0ebbe97e313dcce8852da21522754fec6a7553843faea0077432c61813f31f", func := "rowlock/rowlocklaw12.ManagerNone", spec := "managerNone", unfollowed := true, recurses := true, apart := false }
def ManagerNoneSaid : Prop := managerNoneRow.holds Try.pinned (OpenSpec.ofChange managerNoneSpec)

/-- ITS FALSE NEIGHBOUR: 'it returns false'. Refute it at one input. -/
def managerNoneWrong : ChangeSpec := { name := "managerNone", fn := fun _ => fun
  | [d1, d2] => { results := [.lit (.bool false)], args := [d1, d2] }
  | _ => none }
def ManagerNoneWrongFalsely : Prop := managerNoneRow.holds Try.pinned (OpenSpec.ofChange managerNoneWrong)

/-- 'rowlocktop.TopYields': WHATEVER THE INPUT: true; the input reads as it did. -/
def topYieldsSpec : ChangeSpec := { name := "topYields", fn := fun _ => fun
  | [d1, d2] => { results := [.lit (.bool true)], args := [d1, d2] }
  | _ => none }
def topYieldsRow : OpenClaim := { program := "ytphnogbkiemoeaa", sum := "4c0ebbe97e313dcce8852da21522754fec6a7553843faea0077432c61813f31f", func := "rowlock/rowlocktop.TopYields", spec := "topYields", unfollowed := true, recurses := true, apart := false }
def TopYieldsSaid : Prop := topYieldsRow.holds Try.pinned (OpenSpec.ofChange topYieldsSpec)

/-- ITS FALSE NEIGHBOUR: 'it returns false'. Refute it at one input. -/
def topYieldsWrong : ChangeSpec := { name := "topYields", fn := fun _ => fun
  | [d1, d2] => { results := [.lit (.bool false)], args := [d1, d2] }
  | _ => none }
def TopYieldsWrongFalsely : Prop := topYieldsRow.holds Try.pinned (OpenSpec.ofChange topYieldsWrong)

/- THE SECOND FORM. 'bulk': how many values and letters a reading holds, each counted each time it is reached (what is shared counts as often as it is met; a slice's spare places count too). A statement '..UptoSaid' is the law's where the arguments, and the package variables that the reading takes, are together of bulk at most 1048576: NARROWER than '..Said'. Prove '..Said' where nothing that the law and all that it calls make is longer than what came in: it says more and counts as full. Else prove '..UptoSaid'. A law counts once. -/
mutual
def uptoBulk {H : Type} : DataW H → Nat
  | .lit (.string bytes) => bytes.length + 1
  | .lit _ => 1
  | .nil => 1
  | .ptr d => uptoBulk d + 1
  | .slice elems spare => uptoBulkAll elems + uptoBulkAll spare + 1
  | .agg parts => uptoBulkAll parts + 1
  | .iface _ d => uptoBulk d + 1
  | .map entries => uptoBulkEntries entries + 1
  | .held _ => 1
def uptoBulkAll {H : Type} : List (DataW H) → Nat
  | [] => 0
  | d :: r => uptoBulk d + uptoBulkAll r
def uptoBulkEntries {H : Type} : List (Lit × DataW H) → Nat
  | [] => 0
  | x :: r => uptoBulkEntry x + uptoBulkEntries r
def uptoBulkEntry {H : Type} : Lit × DataW H → Nat
  | (.string bytes, d) => bytes.length + uptoBulk d + 1
  | (_, d) => uptoBulk d + 1
 end
def uptoSmall : (H : Type) → List (DataW H) → Bool := fun _ ds => decide (uptoBulkAll ds ≤ 1048576)
def OpenSpec.upto (s : _root_.Go.ChangeSpec) : _root_.Go.OpenSpec := { _root_.Go.OpenSpec.ofChange s with cond := some uptoSmall }

/-- 'rowlocklaw12.ManagerPatience', WHERE WHAT IT READS IS OF BULK AT MOST 1048576: true; the input reads as it did. -/
def managerPatienceUptoRow : OpenClaim := { program := "ytphnogbkiemoeaa", sum := "4c0ebbe97e313dcce8852da21522754fec6a7553843faea0077432c61813f31f", func := "rowlock/rowlocklaw12.ManagerPatience", spec := "managerPatience", unfollowed := true, recurses := true, apart := false, narrowed := true }
def ManagerPatienceUptoSaid : Prop := managerPatienceUptoRow.holds Try.pinned (OpenSpec.upto managerPatienceSpec)

/-- 'rowlocklaw12.ManagerStamps', WHERE WHAT IT READS IS OF BULK AT MOST 1048576: true; the input reads as it did. -/
def managerStampsUptoRow : OpenClaim := { program := "ytphnogbkiemoeaa", sum := "4c0ebbe97e313dcce8852da21522754fec6a7553843faea0077432c61813f31f", func := "rowlock/rowlocklaw12.ManagerStamps", spec := "managerStamps", unfollowed := true, recurses := true, apart := false, narrowed := true }
def ManagerStampsUptoSaid : Prop := managerStampsUptoRow.holds Try.pinned (OpenSpec.upto managerStampsSpec)

/-- 'rowlocklaw12.ManagerOldest', WHERE WHAT IT READS IS OF BULK AT MOST 1048576: true; the input reads as it did. -/
def managerOldestUptoRow : OpenClaim := { program := "ytphnogbkiemoeaa", sum := "4c0ebbe97e313dcce8852da21522754fec6a7553843faea0077432c61813f31f", func := "rowlock/rowlocklaw12.ManagerOldest", spec := "managerOldest", unfollowed := true, recurses := true, apart := false, narrowed := true }
def ManagerOldestUptoSaid : Prop := managerOldestUptoRow.holds Try.pinned (OpenSpec.upto managerOldestSpec)

/-- 'rowlocklaw12.ManagerNone', WHERE WHAT IT READS IS OF BULK AT MOST 1048576: true; the input reads as it did. -/
def managerNoneUptoRow : OpenClaim := { program := "ytphnogbkiemoeaa", sum := "4c0ebbe97e313dcce8852da21522754fec6a7553843faea0077432c61813f31f", func := "rowlock/rowlocklaw12.ManagerNone", spec := "managerNone", unfollowed := true, recurses := true, apart := false, narrowed := true }
def ManagerNoneUptoSaid : Prop := managerNoneUptoRow.holds Try.pinned (OpenSpec.upto managerNoneSpec)

/-- 'rowlocktop.TopYields', WHERE WHAT IT READS IS OF BULK AT MOST 1048576: true; the input reads as it did. -/
def topYieldsUptoRow : OpenClaim := { program := "ytphnogbkiemoeaa", sum := "4c0ebbe97e313dcce8852da21522754fec6a7553843faea0077432c61813f31f", func := "rowlock/rowlocktop.TopYields", spec := "topYields", unfollowed := true, recurses := true, apart := false, narrowed := true }
def TopYieldsUptoSaid : Prop := topYieldsUptoRow.holds Try.pinned (OpenSpec.upto topYieldsSpec)

end Rows
end Go.Proofs.Ytphnogbkiemoeaa
