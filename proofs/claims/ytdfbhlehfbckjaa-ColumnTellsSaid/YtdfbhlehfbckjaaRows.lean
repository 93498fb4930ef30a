/-
  No cell of these rows narrows 'for every input' (looked for: loops, veiled, ifaces, maps, wideKeys, modest, calm, conditions, laid).
  DERIVED. THE GIVEN ROWS OF THIS SEAT. 4 by the template 'for every input the law returns true; each argument reads behind the call as it read before'; 0 by the template 'total and deterministic' (their statements: YtdfbhlehfbckjaaTotals.lean).
  GIVEN WITH THE SEED: the statements are not yours to turn. If you find one false, say at which input.
  Laid BY PROGRAM, IN A SANDBOX (cutbox-rows.mjs): the forced cells as the released guide's own fill.sh prints them over the translation 1e0faadceb680dd6… (all of the seat's roots in one cut). By AI agents, Wed Nov 11 2026. No macro, syntax, notation, axiom, sorry.
-/
import Derived.Test.YtdfbhlehfbckjaaChecked
import GoSem.Claim
import GoSem.ClaimJoined
import GoSem.ClaimMapViews
import Derived.JoinedTies
import Derived.KernelRfl
namespace Go.Proofs.Ytdfbhlehfbckjaa
/- THE CELL 'sum', in the pinned program and in every row, IS THE sha256 OF THE DUMP (.gsa) THAT YtdfbhlehfbckjaaProg.lean LOADS. Nothing in Lean hashes anything: it is a label: what it is worth is what the hold of that sum in a sandbox is worth. -/
noncomputable def Try.pinned : Pinned := { name := "ytdfbhlehfbckjaa", sum := "1e0faadceb680dd629f7abc2ec6623a46b9e9429f291604c6f10221ee31720e8", checked := Try.checked }
namespace Rows
def none {H : Type} : Left H := { results := [], args := [] }

/-- 'hindsightlaw.IndexTells': WHATEVER THE INPUT: true; the input reads as it did. -/
def indexTellsSpec : ChangeSpec := { name := "indexTells", fn := fun _ => fun
  | [d1, d2, d3, d4, d5] => { results := [.lit (.bool true)], args := [d1, d2, d3, d4, d5] }
  | _ => none }
def indexTellsRow : OpenClaim := { program := "ytdfbhlehfbckjaa", sum := "1e0faadceb680dd629f7abc2ec6623a46b9e9429f291604c6f10221ee31720e8", func := "hindsight/hindsightlaw.IndexTells", spec := "indexTells", plainKeys := false, apart := false }
def IndexTellsSaid : Prop := indexTellsRow.holds Try.pinned (OpenSpec.ofChange indexTellsSpec)

/-- ITS FALSE NEIGHBOUR: 'it returns false'. Refute it at one input. -/
def indexTellsWrong : ChangeSpec := { name := "indexTells", fn := fun _ => fun
  | [d1, d2, d3, d4, d5] => { results := [.lit (.bool false)], args := [d1, d2, d3, d4, d5] }
  | _ => none }
def IndexTellsWrongFalsely : Prop := indexTellsRow.holds Try.pinned (OpenSpec.ofChange indexTellsWrong)

/-- 'hindsightlaw.IndexHangs': WHATEVER THE INPUT: true; the input reads as it did. -/
def indexHangsSpec : ChangeSpec := { name := "indexHangs", fn := fun _ => fun
  | [d1, d2, d3, d4] => { results := [.lit (.bool true)], args := [d1, d2, d3, d4] }
  | _ => none }
def indexHangsRow : OpenClaim := { program := "ytdfbhlehfbckjaa", sum := "1e0faadceb680dd629f7abc2ec6623a46b9e9429f291604c6f10221ee31720e8", func := "hindsight/hindsightlaw.IndexHangs", spec := "indexHangs", plainKeys := false, apart := false }
def IndexHangsSaid : Prop := indexHangsRow.holds Try.pinned (OpenSpec.ofChange indexHangsSpec)

/-- ITS FALSE NEIGHBOUR: 'it returns false'. Refute it at one input. -/
def indexHangsWrong : ChangeSpec := { name := "indexHangs", fn := fun _ => fun
  | [d1, d2, d3, d4] => { results := [.lit (.bool false)], args := [d1, d2, d3, d4] }
  | _ => none }
def IndexHangsWrongFalsely : Prop := indexHangsRow.holds Try.pinned (OpenSpec.ofChange indexHangsWrong)

/-- 'hindsightlaw.ColumnTells': WHATEVER THE INPUT: true; the input reads as it did. -/
def columnTellsSpec : ChangeSpec := { name := "columnTells", fn := fun _ => fun
  | [d1, d2] => { results := [.lit (.bool true)], args := [d1, d2] }
  | _ => none }
def columnTellsRow : OpenClaim := { program := "ytdfbhlehfbckjaa", sum := "1e0faadceb680dd629f7abc2ec6623a46b9e9429f291604c6f10221ee31720e8", func := "hindsight/hindsightlaw.ColumnTells", spec := "columnTells", unfollowed := true, recurses := true, plainKeys := false, apart := false }
def ColumnTellsSaid : Prop := columnTellsRow.holds Try.pinned (OpenSpec.ofChange columnTellsSpec)

/-- ITS FALSE NEIGHBOUR: 'it returns false'. Refute it at one input. -/
def columnTellsWrong : ChangeSpec := { name := "columnTells", fn := fun _ => fun
  | [d1, d2] => { results := [.lit (.bool false)], args := [d1, d2] }
  | _ => none }
def ColumnTellsWrongFalsely : Prop := columnTellsRow.holds Try.pinned (OpenSpec.ofChange columnTellsWrong)

/-- 'hindsightlaw.ColumnBack': WHATEVER THE INPUT: true; the input reads as it did. -/
def columnBackSpec : ChangeSpec := { name := "columnBack", fn := fun _ => fun
  | [d1, d2] => { results := [.lit (.bool true)], args := [d1, d2] }
  | _ => none }
def columnBackRow : OpenClaim := { program := "ytdfbhlehfbckjaa", sum := "1e0faadceb680dd629f7abc2ec6623a46b9e9429f291604c6f10221ee31720e8", func := "hindsight/hindsightlaw.ColumnBack", spec := "columnBack", unfollowed := true, recurses := true, plainKeys := false, apart := false }
def ColumnBackSaid : Prop := columnBackRow.holds Try.pinned (OpenSpec.ofChange columnBackSpec)

/-- ITS FALSE NEIGHBOUR: 'it returns false'. Refute it at one input. -/
def columnBackWrong : ChangeSpec := { name := "columnBack", fn := fun _ => fun
  | [d1, d2] => { results := [.lit (.bool false)], args := [d1, d2] }
  | _ => none }
def ColumnBackWrongFalsely : Prop := columnBackRow.holds Try.pinned (OpenSpec.ofChange columnBackWrong)

/- THE SECOND FORM. 'bulk': how many values and letters a reading holds, each counted each time it is reached (what is shared counts as often as it is met; a slice's spare places count too). A statement '..UptoSaid' is the law's where the arguments, and the package variables that the reading takes, are together of bulk at most 1048576: NARROWER than '..Said'. Prove '..Said' where nothing that the law and all that it calls make is longer than what came in: it says more and counts as full. Else prove '..UptoSaid'. A law counts once. -/
mutual
def uptoBulk {H : Type} : DataW H → Nat
  | .lit (.string bytes) => bytes.length + 1
  | .lit _ => 1
  | .nil => 1
  | .ptr d => uptoBulk d + 1
  | .slice elems spare => uptoBulkAll elems + uptoBulkAll spare + 1
  | .agg parts => uptoBulkAll parts + 1
  | .iface _ d => uptoBulk d + 1
  | .map entries => uptoBulkEntries entries + 1
  | .held _ => 1
def uptoBulkAll {H : Type} : List (DataW H) → Nat
  | [] => 0
  | d :: r => uptoBulk d + uptoBulkAll r
def uptoBulkEntries {H : Type} : List (Lit × DataW H) → Nat
  | [] => 0
  | x :: r => uptoBulkEntry x + uptoBulkEntries r
def uptoBulkEntry {H : Type} : Lit × DataW H → Nat
  | (.string bytes, d) => bytes.length + uptoBulk d + 1
  | (_, d) => uptoBulk d + 1
 end
def uptoSmall : (H : Type) → List (DataW H) → Bool := fun _ ds => decide (uptoBulkAll ds ≤ 1048576)
def OpenSpec.upto (s : _root_.Go.ChangeSpec) : _root_.Go.OpenSpec := { _root_.Go.OpenSpec.ofChange s with cond := some uptoSmall }

/-- 'hindsightlaw.IndexTells', WHERE WHAT IT READS IS OF BULK AT MOST 1048576: true; the input reads as it did. -/
def indexTellsUptoRow : OpenClaim := { program := "ytdfbhlehfbckjaa", sum := "1e0faadceb680dd629f7abc2ec6623a46b9e9429f291604c6f10221ee31720e8", func := "hindsight/hindsightlaw.IndexTells", spec := "indexTells", plainKeys := false, apart := false, narrowed := true }
def IndexTellsUptoSaid : Prop := indexTellsUptoRow.holds Try.pinned (OpenSpec.upto indexTellsSpec)

/-- 'hindsightlaw.IndexHangs', WHERE WHAT IT READS IS OF BULK AT MOST 1048576: true; the input reads as it did. -/
def indexHangsUptoRow : OpenClaim := { program := "ytdfbhlehfbckjaa", sum := "1e0faadceb680dd629f7abc2ec6623a46b9e9429f291604c6f10221ee31720e8", func := "hindsight/hindsightlaw.IndexHangs", spec := "indexHangs", plainKeys := false, apart := false, narrowed := true }
def IndexHangsUptoSaid : Prop := indexHangsUptoRow.holds Try.pinned (OpenSpec.upto indexHangsSpec)

/-- 'hindsightlaw.ColumnTells', WHERE WHAT IT READS IS OF BULK AT MOST 1048576: true; the input reads as it did. -/
def columnTellsUptoRow : OpenClaim := { program := "ytdfbhlehfbckjaa", sum := "1e0faadceb680dd629f7abc2ec6623a46b9e9429f291604c6f10221ee31720e8", func := "hindsight/hindsightlaw.ColumnTells", spec := "columnTells", unfollowed := true, recurses := true, plainKeys := false, apart := false, narrowed := true }
def ColumnTellsUptoSaid : Prop := columnTellsUptoRow.holds Try.pinned (OpenSpec.upto columnTellsSpec)

/-- 'hindsightlaw.ColumnBack', WHERE WHAT IT READS IS OF BULK AT MOST 1048576: true; the input reads as it did. -/
def columnBackUptoRow : OpenClaim := { program := "ytdfbhlehfbckjaa", sum := "1e0faadceb680dd629f7abc2ec6623a46b9e9429f291604c6f10221ee31720e8", func := "hindsight/hindsightlaw.ColumnBack", spec := "columnBack", unfollowed := true, recurses := true, plainKeys := false, apart := false, narrowed := true }
def ColumnBackUptoSaid : Prop := columnBackUptoRow.holds Try.pinned (OpenSpec.upto columnBackSpec)

end Rows
end Go.Proofs.Ytdfbhlehfbckjaa
