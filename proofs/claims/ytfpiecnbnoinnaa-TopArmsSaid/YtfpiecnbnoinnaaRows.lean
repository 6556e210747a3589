/-
  No cell of these rows narrows 'for every input' (looked for: loops, veiled, ifaces, maps, wideKeys, modest, calm, conditions, laid).
  DERIVED. THE GIVEN ROWS OF THIS SEAT. 6 by the template 'for every input the law returns true; each argument reads behind the call as it read before'; 0 by the template 'total and deterministic' (their statements: YtfpiecnbnoinnaaTotals.lean).
  GIVEN WITH THE SEED: the statements are not yours to turn. If you find one false, say at which input.
  Laid BY PROGRAM, IN A SANDBOX (cutbox-rows.mjs): the forced cells as the released guide's own fill.sh prints them over the translation 0741eb1feac7ff6d… (all of the seat's roots in one cut). By AI agents, Wed Nov 11 2026. No macro, syntax, notation, axiom, sorry.
-/
import Derived.Test.YtfpiecnbnoinnaaChecked
import GoSem.Claim
import GoSem.ClaimJoined
import GoSem.ClaimMapViews
import Derived.JoinedTies
import Derived.KernelRfl
namespace Go.Proofs.Ytfpiecnbnoinnaa
/- THE CELL 'sum', in the pinned program and in every row, IS THE sha256 OF THE DUMP (.gsa) THAT YtfpiecnbnoinnaaProg.lean LOADS. Nothing in Lean hashes anything: it is a label: what it is worth is what the hold of that sum in a sandbox is worth. -/
noncomputable def Try.pinned : Pinned := { name := "ytfpiecnbnoinnaa", sum := "0741eb1feac7ff6d4b4df01396c033943b6fcd3bc9620b1e6eae04242bb67b30", checked := Try.checked }
namespace Rows
def none {H : Type} : Left H := { results := [], args := [] }

/-- 'rowlocklaw08.HistoryBegins': WHATEVER THE INPUT: true; the input reads as it did. -/
def historyBeginsSpec : ChangeSpec := { name := "historyBegins", fn := fun _ => fun
  | [d1, d2, d3] => { results := [.lit (.bool true)], args := [d1, d2, d3] }
  | _ => none }
def historyBeginsRow : OpenClaim := { program := "ytfpiecnbnoinnaa", sum := "0741eb1feac7ff6d4b4df01396c033943b6fcd3bc9620b1e6eae04242bb67b30", func := "rowlock/rowlocklaw08.HistoryBegins", spec := "historyBegins", unfollowed := true, recurses := true, apart := false }
def HistoryBeginsSaid : Prop := historyBeginsRow.holds Try.pinned (OpenSpec.ofChange historyBeginsSpec)

/-- ITS FALSE NEIGHBOUR: 'it returns false'. Refute it at one input. -/
def historyBeginsWrong : ChangeSpec := { name := "historyBegins", fn := fun _ => fun
  | [d1, d2, d3] => { results := [.lit (.bool false)], args := [d1, d2, d3] }
  | _ => none }
def HistoryBeginsWrongFalsely : Prop := historyBeginsRow.holds Try.pinned (OpenSpec.ofChange historyBeginsWrong)

/-- 'rowlocklaw08.HistoryTells': WHATEVER THE INPUT: true; the input reads as it did. -/
def historyTellsSpec : ChangeSpec := { name := "historyTells", fn := fun _ => fun
  | [d1, d2] => { results := [.lit (.bool true)], args := [d1, d2] }
  | _ => none }
def historyTellsRow : OpenClaim := { program := "ytfpiecnbnoinnaa", sum := "0741eb1feac7ff6d4b4df01396c033943b6fcd3bc9620b1e6eae04242bb67b30", func := "rowlock/rowlocklaw08.HistoryTells", spec := "historyTells", unfollowed := true, recurses := true, apart := false }
def HistoryTellsSaid : Prop := historyTellsRow.holds Try.pinned (OpenSpec.ofChange historyTellsSpec)

/-- ITS FALSE NEIGHBOUR: 'it returns false'. Refute it at one input. -/
def historyTellsWrong : ChangeSpec := { name := "historyTells", fn := fun _ => fun
  | [d1, d2] => { results := [.lit (.bool false)], args := [d1, d2] }
  | _ => none }
def HistoryTellsWrongFalsely : Prop := historyTellsRow.holds Try.pinned (OpenSpec.ofChange historyTellsWrong)

/-- 'rowlocklaw08.HistoryOrder': WHATEVER THE INPUT: true; the input reads as it did. -/
def historyOrderSpec : ChangeSpec := { name := "historyOrder", fn := fun _ => fun
  | [d1, d2] => { results := [.lit (.bool true)], args := [d1, d2] }
  | _ => none }
def historyOrderRow : OpenClaim := { program := "ytfpiecnbnoinnaa", sum := "0741eb1feac7ff6d4b4df01396c033943b6fcd3bc9620b1e6eae04242bb67b30", func := "rowlock/rowlocklaw08.HistoryOrder", spec := "historyOrder", unfollowed := true, recurses := true, apart := false }
def HistoryOrderSaid : Prop := historyOrderRow.holds Try.pinned (OpenSpec.ofChange historyOrderSpec)

/-- ITS FALSE NEIGHBOUR: 'it returns false'. Refute it at one input. -/
def historyOrderWrong : ChangeSpec := { name := "historyOrder", fn := fun _ => fun
  | [d1, d2] => { results := [.lit (.bool false)], args := [d1, d2] }
  | _ => none }
def HistoryOrderWrongFalsely : Prop := historyOrderRow.holds Try.pinned (OpenSpec.ofChange historyOrderWrong)

/-- 'rowlocklaw08.HistoryStates': WHATEVER THE INPUT: true; the input reads as it did. -/
def historyStatesSpec : ChangeSpec := { name := "historyStates", fn := fun _ => fun
  | [d1, d2] => { results := [.lit (.bool true)], args := [d1, d2] }
  | _ => none }
def historyStatesRow : OpenClaim := { program := "ytfpiecnbnoinnaa", sum := "0741eb1feac7ff6d4b4df01396c033943b6fcd3bc9620b1e6eae04242bb67b30", func := "rowlock/rowlocklaw08.HistoryStates", spec := "historyStates", unfollowed := true, recurses := true, apart := false }
def HistoryStatesSaid : Prop := historyStatesRow.holds Try.pinned (OpenSpec.ofChange historyStatesSpec)

/-- ITS FALSE NEIGHBOUR: 'it returns false'. Refute it at one input. -/
def historyStatesWrong : ChangeSpec := { name := "historyStates", fn := fun _ => fun
  | [d1, d2] => { results := [.lit (.bool false)], args := [d1, d2] }
  | _ => none }
def HistoryStatesWrongFalsely : Prop := historyStatesRow.holds Try.pinned (OpenSpec.ofChange historyStatesWrong)

/-- 'rowlocklaw08.HistoryRight': WHATEVER THE INPUT: true; the input reads as it did. -/
def historyRightSpec : ChangeSpec := { name := "historyRight", fn := fun _ => fun
  | [d1, d2] => { results := [.lit (.bool true)], args := [d1, d2] }
  | _ => none }
def historyRightRow : OpenClaim := { program := "ytfpiecnbnoinnaa", sum := "0741eb1feac7ff6d4b4df01396c033943b6fcd3bc9620b1e6eae04242bb67b30", func := "rowlock/rowlocklaw08.HistoryRight", spec := "historyRight", inPlace := ["math.Float64frombits"], unfollowed := true, recurses := true, apart := false }
def HistoryRightSaid : Prop := historyRightRow.holds Try.pinned (OpenSpec.ofChange historyRightSpec)

/-- ITS FALSE NEIGHBOUR: 'it returns false'. Refute it at one input. -/
def historyRightWrong : ChangeSpec := { name := "historyRight", fn := fun _ => fun
  | [d1, d2] => { results := [.lit (.bool false)], args := [d1, d2] }
  | _ => none }
def HistoryRightWrongFalsely : Prop := historyRightRow.holds Try.pinned (OpenSpec.ofChange historyRightWrong)

/-- 'rowlocktop.TopArms': WHATEVER THE INPUT: true; the input reads as it did. -/
def topArmsSpec : ChangeSpec := { name := "topArms", fn := fun _ => fun
  | [d] => { results := [.lit (.bool true)], args := [d] }
  | _ => none }
def topArmsRow : OpenClaim := { program := "ytfpiecnbnoinnaa", sum := "0741eb1feac7ff6d4b4df01396c033943b6fcd3bc9620b1e6eae04242bb67b30", func := "rowlock/rowlocktop.TopArms", spec := "topArms", inPlace := ["math.Float64bits"], unfollowed := true, recurses := true, apart := false }
def TopArmsSaid : Prop := topArmsRow.holds Try.pinned (OpenSpec.ofChange topArmsSpec)

/-- ITS FALSE NEIGHBOUR: 'it returns false'. Refute it at one input. -/
def topArmsWrong : ChangeSpec := { name := "topArms", fn := fun _ => fun
  | [d] => { results := [.lit (.bool false)], args := [d] }
  | _ => none }
def TopArmsWrongFalsely : Prop := topArmsRow.holds Try.pinned (OpenSpec.ofChange topArmsWrong)

/- THE SECOND FORM. 'bulk': how many values and letters a reading holds, each counted each time it is reached (what is shared counts as often as it is met; a slice's spare places count too). A statement '..UptoSaid' is the law's where the arguments, and the package variables that the reading takes, are together of bulk at most 1048576: NARROWER than '..Said'. Prove '..Said' where nothing that the law and all that it calls make is longer than what came in: it says more and counts as full. Else prove '..UptoSaid'. A law counts once. -/
mutual
def uptoBulk {H : Type} : DataW H → Nat
  | .lit (.string bytes) => bytes.length + 1
  | .lit _ => 1
  | .nil => 1
  | .ptr d => uptoBulk d + 1
  | .slice elems spare => uptoBulkAll elems + uptoBulkAll spare + 1
  | .agg parts => uptoBulkAll parts + 1
  | .iface _ d => uptoBulk d + 1
  | .map entries => uptoBulkEntries entries + 1
  | .held _ => 1
def uptoBulkAll {H : Type} : List (DataW H) → Nat
  | [] => 0
  | d :: r => uptoBulk d + uptoBulkAll r
def uptoBulkEntries {H : Type} : List (Lit × DataW H) → Nat
  | [] => 0
  | x :: r => uptoBulkEntry x + uptoBulkEntries r
def uptoBulkEntry {H : Type} : Lit × DataW H → Nat
  | (.string bytes, d) => bytes.length + uptoBulk d + 1
  | (_, d) => uptoBulk d + 1
 end
def uptoSmall : (H : Type) → List (DataW H) → Bool := fun _ ds => decide (uptoBulkAll ds ≤ 1048576)
def OpenSpec.upto (s : _root_.Go.ChangeSpec) : _root_.Go.OpenSpec := { _root_.Go.OpenSpec.ofChange s with cond := some uptoSmall }

/-- 'rowlocklaw08.HistoryBegins', WHERE WHAT IT READS IS OF BULK AT MOST 1048576: true; the input reads as it did. -/
def historyBeginsUptoRow : OpenClaim := { program := "ytfpiecnbnoinnaa", sum := "0741eb1feac7ff6d4b4df01396c033943b6fcd3bc9620b1e6eae04242bb67b30", func := "rowlock/rowlocklaw08.HistoryBegins", spec := "historyBegins", unfollowed := true, recurses := true, apart := false, narrowed := true }
def HistoryBeginsUptoSaid : Prop := historyBeginsUptoRow.holds Try.pinned (OpenSpec.upto historyBeginsSpec)

/-- 'rowlocklaw08.HistoryTells', WHERE WHAT IT READS IS OF BULK AT MOST 1048576: true; the input reads as it did. -/
def historyTellsUptoRow : OpenClaim := { program := "ytfpiecnbnoinnaa", sum := "0741eb1feac7ff6d4b4df01396c033943b6fcd3bc9620b1e6eae04242bb67b30", func := "rowlock/rowlocklaw08.HistoryTells", spec := "historyTells", unfollowed := true, recurses := true, apart := false, narrowed := true }
def HistoryTellsUptoSaid : Prop := historyTellsUptoRow.holds Try.pinned (OpenSpec.upto historyTellsSpec)

/-- 'rowlocklaw08.HistoryOrder', WHERE WHAT IT READS IS OF BULK AT MOST 1048576: true; the input reads as it did. -/
def historyOrderUptoRow : OpenClaim := { program := "ytfpiecnbnoinnaa", sum := "0741eb1feac7ff6d4b4df01396c033943b6fcd3bc9620b1e6eae04242bb67b30", func := "rowlock/rowlocklaw08.HistoryOrder", spec := "historyOrder", unfollowed := true, recurses := true, apart := false, narrowed := true }
def HistoryOrderUptoSaid : Prop := historyOrderUptoRow.holds Try.pinned (OpenSpec.upto historyOrderSpec)

/-- 'rowlocklaw08.HistoryStates', WHERE WHAT IT READS IS OF BULK AT MOST 1048576: true; the input reads as it did. -/
def historyStatesUptoRow : OpenClaim := { program := "ytfpiecnbnoinnaa", sum := "0741eb1feac7ff6d4b4df01396c033943b6fcd3bc9620b1e6eae04242bb67b30", func := "rowlock/rowlocklaw08.HistoryStates", spec := "historyStates", unfollowed := true, recurses := true, apart := false, narrowed := true }
def HistoryStatesUptoSaid : Prop := historyStatesUptoRow.holds Try.pinned (OpenSpec.upto historyStatesSpec)

/-- 'rowlocklaw08.HistoryRight', WHERE WHAT IT READS IS OF BULK AT MOST 1048576: true; the input reads as it did. -/
def historyRightUptoRow : OpenClaim := { program := "ytfpiecnbnoinnaa", sum := "0741eb1feac7ff6d4b4df01396c033943b6fcd3bc9620b1e6eae04242bb67b30", func := "rowlock/rowlocklaw08.HistoryRight", spec := "historyRight", inPlace := ["math.Float64frombits"], unfollowed := true, recurses := true, apart := false, narrowed := true }
def HistoryRightUptoSaid : Prop := historyRightUptoRow.holds Try.pinned (OpenSpec.upto historyRightSpec)

/-- 'rowlocktop.TopArms', WHERE WHAT IT READS IS OF BULK AT MOST 1048576: true; the input reads as it did. -/
def topArmsUptoRow : OpenClaim := { program := "ytfpiecnbnoinnaa", sum := "0741eb1feac7ff6d4b4df01396c033943b6fcd3bc9620b1e6eae04242bb67b30", func := "rowlock/rowlocktop.TopArms", spec := "topArms", inPlace := ["math.Float64bits"], unfollowed := true, recurses := true, apart := false, narrowed := true }
def TopArmsUptoSaid : Prop := topArmsUptoRow.holds Try.pinned (OpenSpec.upto topArmsSpec)

end Rows
end Go.Proofs.Ytfpiecnbnoinnaa
