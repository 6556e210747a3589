/-
  No cell of these rows narrows 'for every input' (looked for: loops, veiled, ifaces, maps, wideKeys, modest, calm, conditions, laid).
  DERIVED. THE GIVEN ROWS OF THIS SEAT. 6 by the template 'for every input the law returns true; each argument reads behind the call as it read before'; 0 by the template 'total and deterministic' (their statements: YtmhlemgchlencaaTotals.lean).
  GIVEN WITH THE SEED: the statements are not yours to turn. If you find one false, say at which input.
  Laid BY PROGRAM, IN A SANDBOX (cutbox-rows.mjs): the forced cells as the released guide's own fill.sh prints them over the translation 11c7911b5b5c4df2… (all of the seat's roots in one cut). By AI agents, Wed Nov 11 2026. No macro, syntax, notation, axiom, sorry.
-/
import Derived.Test.YtmhlemgchlencaaChecked
import GoSem.Claim
import GoSem.ClaimJoined
import GoSem.ClaimMapViews
import Derived.JoinedTies
import Derived.KernelRfl
namespace Go.Proofs.Ytmhlemgchlencaa
/- THE CELL 'sum', in the pinned program and in every row, IS THE sha256 OF THE DUMP (.gsa) THAT YtmhlemgchlencaaProg.lean LOADS. Nothing in Lean hashes anything: it is a label: what it is worth is what the hold of that sum in a sandbox is worth. -/
noncomputable def Try.pinned : Pinned := { name := "ytmhlemgchlencaa", sum := "11c7911b5b5c4df2c056bafd569da496efccb80143c9ec5069404a6f761a1c37", checked := Try.checked }
namespace Rows
def none {H : Type} : Left H := { results := [], args := [] }

/-- 'rowlocklaw07.WritesLast': WHATEVER THE INPUT: true; the input reads as it did. -/
def writesLastSpec : ChangeSpec := { name := "writesLast", fn := fun _ => fun
  | [d1, d2] => { results := [.lit (.bool true)], args := [d1, d2] }
  | _ => none }
def writesLastRow : OpenClaim := { program := "ytmhlemgchlencaa", sum := "11c7911b5b5c4df2c056bafd569da496efccb80143c9ec5069404a6f761a1c37", func := "rowlock/rowlocklaw07.WritesLast", spec := "writesLast", inPlace := ["math.Float64frombits"], unfollowed := true, recurses := true, apart := false }
def WritesLastSaid : Prop := writesLastRow.holds Try.pinned (OpenSpec.ofChange writesLastSpec)

/-- ITS FALSE NEIGHBOUR: 'it returns false'. Refute it at one input. -/
def writesLastWrong : ChangeSpec := { name := "writesLast", fn := fun _ => fun
  | [d1, d2] => { results := [.lit (.bool false)], args := [d1, d2] }
  | _ => none }
def WritesLastWrongFalsely : Prop := writesLastRow.holds Try.pinned (OpenSpec.ofChange writesLastWrong)

/-- 'rowlocklaw07.WritesPlays': WHATEVER THE INPUT: true; the input reads as it did. -/
def writesPlaysSpec : ChangeSpec := { name := "writesPlays", fn := fun _ => fun
  | [d] => { results := [.lit (.bool true)], args := [d] }
  | _ => none }
def writesPlaysRow : OpenClaim := { program := "ytmhlemgchlencaa", sum := "11c7911b5b5c4df2c056bafd569da496efccb80143c9ec5069404a6f761a1c37", func := "rowlock/rowlocklaw07.WritesPlays", spec := "writesPlays", inPlace := ["math.Float64frombits"], unfollowed := true, recurses := true, apart := false }
def WritesPlaysSaid : Prop := writesPlaysRow.holds Try.pinned (OpenSpec.ofChange writesPlaysSpec)

/-- ITS FALSE NEIGHBOUR: 'it returns false'. Refute it at one input. -/
def writesPlaysWrong : ChangeSpec := { name := "writesPlays", fn := fun _ => fun
  | [d] => { results := [.lit (.bool false)], args := [d] }
  | _ => none }
def WritesPlaysWrongFalsely : Prop := writesPlaysRow.holds Try.pinned (OpenSpec.ofChange writesPlaysWrong)

/-- 'rowlocklaw07.WritesDrops': WHATEVER THE INPUT: true; the input reads as it did. -/
def writesDropsSpec : ChangeSpec := { name := "writesDrops", fn := fun _ => fun
  | [d1, d2] => { results := [.lit (.bool true)], args := [d1, d2] }
  | _ => none }
def writesDropsRow : OpenClaim := { program := "ytmhlemgchlencaa", sum := "11c7911b5b5c4df2c056bafd569da496efccb80143c9ec5069404a6f761a1c37", func := "rowlock/rowlocklaw07.WritesDrops", spec := "writesDrops", inPlace := ["math.Float64frombits"], unfollowed := true, recurses := true, apart := false }
def WritesDropsSaid : Prop := writesDropsRow.holds Try.pinned (OpenSpec.ofChange writesDropsSpec)

/-- ITS FALSE NEIGHBOUR: 'it returns false'. Refute it at one input. -/
def writesDropsWrong : ChangeSpec := { name := "writesDrops", fn := fun _ => fun
  | [d1, d2] => { results := [.lit (.bool false)], args := [d1, d2] }
  | _ => none }
def WritesDropsWrongFalsely : Prop := writesDropsRow.holds Try.pinned (OpenSpec.ofChange writesDropsWrong)

/-- 'rowlocklaw07.WritesMerges': WHATEVER THE INPUT: true; the input reads as it did. -/
def writesMergesSpec : ChangeSpec := { name := "writesMerges", fn := fun _ => fun
  | [d] => { results := [.lit (.bool true)], args := [d] }
  | _ => none }
def writesMergesRow : OpenClaim := { program := "ytmhlemgchlencaa", sum := "11c7911b5b5c4df2c056bafd569da496efccb80143c9ec5069404a6f761a1c37", func := "rowlock/rowlocklaw07.WritesMerges", spec := "writesMerges", inPlace := ["math.Float64frombits"], unfollowed := true, recurses := true, apart := false }
def WritesMergesSaid : Prop := writesMergesRow.holds Try.pinned (OpenSpec.ofChange writesMergesSpec)

/-- ITS FALSE NEIGHBOUR: 'it returns false'. Refute it at one input. -/
def writesMergesWrong : ChangeSpec := { name := "writesMerges", fn := fun _ => fun
  | [d] => { results := [.lit (.bool false)], args := [d] }
  | _ => none }
def WritesMergesWrongFalsely : Prop := writesMergesRow.holds Try.pinned (OpenSpec.ofChange writesMergesWrong)

/-- 'rowlocklaw07.WritesForks': WHATEVER THE INPUT: true; the input reads as it did. -/
def writesForksSpec : ChangeSpec := { name := "writesForks", fn := fun _ => fun
  | [d1, d2] => { results := [.lit (.bool true)], args := [d1, d2] }
  | _ => none }
def writesForksRow : OpenClaim := { program := "ytmhlemgchlencaa", sum := "11c7911b5b5c4df2c056bafd569da496efccb80143c9ec5069404a6f761a1c37", func := "rowlock/rowlocklaw07.WritesForks", spec := "writesForks", inPlace := ["math.Float64frombits"], unfollowed := true, recurses := true, apart := false }
def WritesForksSaid : Prop := writesForksRow.holds Try.pinned (OpenSpec.ofChange writesForksSpec)

/-- ITS FALSE NEIGHBOUR: 'it returns false'. Refute it at one input. -/
def writesForksWrong : ChangeSpec := { name := "writesForks", fn := fun _ => fun
  | [d1, d2] => { results := [.lit (.bool false)], args := [d1, d2] }
  | _ => none }
def WritesForksWrongFalsely : Prop := writesForksRow.holds Try.pinned (OpenSpec.ofChange writesForksWrong)

/-- 'rowlocklaw07.WritesNone': WHATEVER THE INPUT: true; the input reads as it did. -/
def writesNoneSpec : ChangeSpec := { name := "writesNone", fn := fun _ => fun
  | [d1, d2] => { results := [.lit (.bool true)], args := [d1, d2] }
  | _ => none }
def writesNoneRow : OpenClaim := { program := "ytmhlemgchlencaa", sum := "11c7911b5b5c4df2c056bafd569da496efccb80143c9ec5069404a6f761a1c37", func := "rowlock/rowlocklaw07.WritesNone", spec := "writesNone", unfollowed := true, recurses := true, apart := false }
def WritesNoneSaid : Prop := writesNoneRow.holds Try.pinned (OpenSpec.ofChange writesNoneSpec)

/-- ITS FALSE NEIGHBOUR: 'it returns false'. Refute it at one input. -/
def writesNoneWrong : ChangeSpec := { name := "writesNone", fn := fun _ => fun
  | [d1, d2] => { results := [.lit (.bool false)], args := [d1, d2] }
  | _ => none }
def WritesNoneWrongFalsely : Prop := writesNoneRow.holds Try.pinned (OpenSpec.ofChange writesNoneWrong)

/- THE SECOND FORM. 'bulk': how many values and letters a reading holds, each counted each time it is reached (what is shared counts as often as it is met; a slice's spare places count too). A statement '..UptoSaid' is the law's where the arguments, and the package variables that the reading takes, are together of bulk at most 1048576: NARROWER than '..Said'. Prove '..Said' where nothing that the law and all that it calls make is longer than what came in: it says more and counts as full. Else prove '..UptoSaid'. A law counts once. -/
mutual
def uptoBulk {H : Type} : DataW H → Nat
  | .lit (.string bytes) => bytes.length + 1
  | .lit _ => 1
  | .nil => 1
  | .ptr d => uptoBulk d + 1
  | .slice elems spare => uptoBulkAll elems + uptoBulkAll spare + 1
  | .agg parts => uptoBulkAll parts + 1
  | .iface _ d => uptoBulk d + 1
  | .map entries => uptoBulkEntries entries + 1
  | .held _ => 1
def uptoBulkAll {H : Type} : List (DataW H) → Nat
  | [] => 0
  | d :: r => uptoBulk d + uptoBulkAll r
def uptoBulkEntries {H : Type} : List (Lit × DataW H) → Nat
  | [] => 0
  | x :: r => uptoBulkEntry x + uptoBulkEntries r
def uptoBulkEntry {H : Type} : Lit × DataW H → Nat
  | (.string bytes, d) => bytes.length + uptoBulk d + 1
  | (_, d) => uptoBulk d + 1
 end
def uptoSmall : (H : Type) → List (DataW H) → Bool := fun _ ds => decide (uptoBulkAll ds ≤ 1048576)
def OpenSpec.upto (s : _root_.Go.ChangeSpec) : _root_.Go.OpenSpec := { _root_.Go.OpenSpec.ofChange s with cond := some uptoSmall }

/-- 'rowlocklaw07.WritesLast', WHERE WHAT IT READS IS OF BULK AT MOST 1048576: true; the input reads as it did. -/
def writesLastUptoRow : OpenClaim := { program := "ytmhlemgchlencaa", sum := "11c7911b5b5c4df2c056bafd569da496efccb80143c9ec5069404a6f761a1c37", func := "rowlock/rowlocklaw07.WritesLast", spec := "writesLast", inPlace := ["math.Float64frombits"], unfollowed := true, recurses := true, apart := false, narrowed := true }
def WritesLastUptoSaid : Prop := writesLastUptoRow.holds Try.pinned (OpenSpec.upto writesLastSpec)

/-- 'rowlocklaw07.WritesPlays', WHERE WHAT IT READS IS OF BULK AT MOST 1048576: true; the input reads as it did. -/
def writesPlaysUptoRow : OpenClaim := { program := "ytmhlemgchlencaa", sum := "11c7911b5b5c4df2c056bafd569da496efccb80143c9ec5069404a6f761a1c37", func := "rowlock/rowlocklaw07.WritesPlays", spec := "writesPlays", inPlace := ["math.Float64frombits"], unfollowed := true, recurses := true, apart := false, narrowed := true }
def WritesPlaysUptoSaid : Prop := writesPlaysUptoRow.holds Try.pinned (OpenSpec.upto writesPlaysSpec)

/-- 'rowlocklaw07.WritesDrops', WHERE WHAT IT READS IS OF BULK AT MOST 1048576: true; the input reads as it did. -/
def writesDropsUptoRow : OpenClaim := { program := "ytmhlemgchlencaa", sum := "11c7911b5b5c4df2c056bafd569da496efccb80143c9ec5069404a6f761a1c37", func := "rowlock/rowlocklaw07.WritesDrops", spec := "writesDrops", inPlace := ["math.Float64frombits"], unfollowed := true, recurses := true, apart := false, narrowed := true }
def WritesDropsUptoSaid : Prop := writesDropsUptoRow.holds Try.pinned (OpenSpec.upto writesDropsSpec)

/-- 'rowlocklaw07.WritesMerges', WHERE WHAT IT READS IS OF BULK AT MOST 1048576: true; the input reads as it did. -/
def writesMergesUptoRow : OpenClaim := { program := "ytmhlemgchlencaa", sum := "11c7911b5b5c4df2c056bafd569da496efccb80143c9ec5069404a6f761a1c37", func := "rowlock/rowlocklaw07.WritesMerges", spec := "writesMerges", inPlace := ["math.Float64frombits"], unfollowed := true, recurses := true, apart := false, narrowed := true }
def WritesMergesUptoSaid : Prop := writesMergesUptoRow.holds Try.pinned (OpenSpec.upto writesMergesSpec)

/-- 'rowlocklaw07.WritesForks', WHERE WHAT IT READS IS OF BULK AT MOST 1048576: true; the input reads as it did. -/
def writesForksUptoRow : OpenClaim := { program := "ytmhlemgchlencaa", sum := "11c7911b5b5c4df2c056bafd569da496efccb80143c9ec5069404a6f761a1c37", func := "rowlock/rowlocklaw07.WritesForks", spec := "writesForks", inPlace := ["math.Float64frombits"], unfollowed := true, recurses := true, apart := false, narrowed := true }
def WritesForksUptoSaid : Prop := writesForksUptoRow.holds Try.pinned (OpenSpec.upto writesForksSpec)

/-- 'rowlocklaw07.WritesNone', WHERE WHAT IT READS IS OF BULK AT MOST 1048576: true; the input reads as it did. -/
def writesNoneUptoRow : OpenClaim := { program := "ytmhlemgchlencaa", sum := "11c7911b5b5c4df2c056bafd569da496efccb80143c9ec5069404a6f761a1c37", func := "rowlock/rowlocklaw07.WritesNone", spec := "writesNone", unfollowed := true, recurses := true, apart := false, narrowed := true }
def WritesNoneUptoSaid : Prop := writesNoneUptoRow.holds Try.pinned (OpenSpec.upto writesNoneSpec)

end Rows
end Go.Proofs.Ytmhlemgchlencaa
