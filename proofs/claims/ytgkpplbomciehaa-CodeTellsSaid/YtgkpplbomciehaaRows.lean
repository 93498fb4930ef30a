/-
  NARROWER THAN 'FOR EVERY INPUT', by the rows' own cells (each row's printed sentence says how): CodeTells: loops · TraceEvals: loops · TraceRuns: loops · TraceRight: loops · TraceMore: loops · StateTells: loops · StateAhead: loops · StateHistory: loops · StateCalls: loops · VmSame: loops.
  DERIVED. THE GIVEN ROWS OF THIS SEAT. 11 by the template 'for every input the law returns true; each argument reads behind the call as it read before'; 0 by the template 'total and deterministic' (their statements: YtgkpplbomciehaaTotals.lean).
  GIVEN WITH THE SEED: the statements are not yours to turn. If you find one false, say at which input.
  Laid BY PROGRAM, IN A SANDBOX (cutbox-rows.mjs): the forced cells as the released guide's own fill.sh prints them over the translation 8349562315b9dede… (all of the seat's roots in one cut). By AI agents, Wed Nov 11 2026. No macro, syntax, notation, axiom, sorry.
-/
import Derived.Test.YtgkpplbomciehaaChecked
import GoSem.Claim
import GoSem.ClaimJoined
import GoSem.ClaimMapViews
import Derived.JoinedTies
import Derived.KernelRfl
namespace Go.Proofs.Ytgkpplbomciehaa
/- THE CELL 'sum', in the pinned program and in every row, IS THE sha256 OF THE DUMP (.gsa) THAT YtgkpplbomciehaaProg.lean LOADS. Nothing in Lean hashes anything: it is a label: what it is worth is what the hold of that sum in a sandbox is worth. -/
noncomputable def Try.pinned : Pinned := { name := "ytgkpplbomciehaa", sum := "8349562315b9dede54b0d5440edc57381c93a160be6e3028a05d51f709048c99", checked := Try.checked }
namespace Rows
def none {H : Type} : Left H := { results := [], args := [] }

/-- 'hindsightlaw.VmRuns': WHATEVER THE INPUT: true; the input reads as it did. -/
def vmRunsSpec : ChangeSpec := { name := "vmRuns", fn := fun _ => fun
  | [d1, d2, d3] => { results := [.lit (.bool true)], args := [d1, d2, d3] }
  | _ => none }
def vmRunsRow : OpenClaim := { program := "ytgkpplbomciehaa", sum := "8349562315b9dede54b0d5440edc57381c93a160be6e3028a05d51f709048c99", func := "hindsight/hindsightlaw.VmRuns", spec := "vmRuns", unfollowed := true, recurses := true, apart := false }
def VmRunsSaid : Prop := vmRunsRow.holds Try.pinned (OpenSpec.ofChange vmRunsSpec)

/-- ITS FALSE NEIGHBOUR: 'it returns false'. Refute it at one input. -/
def vmRunsWrong : ChangeSpec := { name := "vmRuns", fn := fun _ => fun
  | [d1, d2, d3] => { results := [.lit (.bool false)], args := [d1, d2, d3] }
  | _ => none }
def VmRunsWrongFalsely : Prop := vmRunsRow.holds Try.pinned (OpenSpec.ofChange vmRunsWrong)

/-- 'hindsightlaw.CodeTells': WHATEVER THE INPUT: true; the input reads as it did. -/
def codeTellsSpec : ChangeSpec := { name := "codeTells", fn := fun _ => fun
  | [d1, d2] => { results := [.lit (.bool true)], args := [d1, d2] }
  | _ => none }
def codeTellsRow : OpenClaim := { program := "ytgkpplbomciehaa", sum := "8349562315b9dede54b0d5440edc57381c93a160be6e3028a05d51f709048c99", func := "hindsight/hindsightlaw.CodeTells", spec := "codeTells", unfollowed := true, recurses := true, loops := true, apart := false }
def CodeTellsSaid : Prop := codeTellsRow.holds Try.pinned (OpenSpec.ofChange codeTellsSpec)

/-- ITS FALSE NEIGHBOUR: 'it returns false'. Refute it at one input. -/
def codeTellsWrong : ChangeSpec := { name := "codeTells", fn := fun _ => fun
  | [d1, d2] => { results := [.lit (.bool false)], args := [d1, d2] }
  | _ => none }
def CodeTellsWrongFalsely : Prop := codeTellsRow.holds Try.pinned (OpenSpec.ofChange codeTellsWrong)

/-- 'hindsightlaw.TraceEvals': WHATEVER THE INPUT: true; the input reads as it did. -/
def traceEvalsSpec : ChangeSpec := { name := "traceEvals", fn := fun _ => fun
  | [d1, d2] => { results := [.lit (.bool true)], args := [d1, d2] }
  | _ => none }
def traceEvalsRow : OpenClaim := { program := "ytgkpplbomciehaa", sum := "8349562315b9dede54b0d5440edc57381c93a160be6e3028a05d51f709048c99", func := "hindsight/hindsightlaw.TraceEvals", spec := "traceEvals", unfollowed := true, recurses := true, loops := true, apart := false }
def TraceEvalsSaid : Prop := traceEvalsRow.holds Try.pinned (OpenSpec.ofChange traceEvalsSpec)

/-- ITS FALSE NEIGHBOUR: 'it returns false'. Refute it at one input. -/
def traceEvalsWrong : ChangeSpec := { name := "traceEvals", fn := fun _ => fun
  | [d1, d2] => { results := [.lit (.bool false)], args := [d1, d2] }
  | _ => none }
def TraceEvalsWrongFalsely : Prop := traceEvalsRow.holds Try.pinned (OpenSpec.ofChange traceEvalsWrong)

/-- 'hindsightlaw.TraceRuns': WHATEVER THE INPUT: true; the input reads as it did. -/
def traceRunsSpec : ChangeSpec := { name := "traceRuns", fn := fun _ => fun
  | [d1, d2, d3] => { results := [.lit (.bool true)], args := [d1, d2, d3] }
  | _ => none }
def traceRunsRow : OpenClaim := { program := "ytgkpplbomciehaa", sum := "8349562315b9dede54b0d5440edc57381c93a160be6e3028a05d51f709048c99", func := "hindsight/hindsightlaw.TraceRuns", spec := "traceRuns", unfollowed := true, recurses := true, loops := true, apart := false }
def TraceRunsSaid : Prop := traceRunsRow.holds Try.pinned (OpenSpec.ofChange traceRunsSpec)

/-- ITS FALSE NEIGHBOUR: 'it returns false'. Refute it at one input. -/
def traceRunsWrong : ChangeSpec := { name := "traceRuns", fn := fun _ => fun
  | [d1, d2, d3] => { results := [.lit (.bool false)], args := [d1, d2, d3] }
  | _ => none }
def TraceRunsWrongFalsely : Prop := traceRunsRow.holds Try.pinned (OpenSpec.ofChange traceRunsWrong)

/-- 'hindsightlaw.TraceRight': WHATEVER THE INPUT: true; the input reads as it did. -/
def traceRightSpec : ChangeSpec := { name := "traceRight", fn := fun _ => fun
  | [d1, d2] => { results := [.lit (.bool true)], args := [d1, d2] }
  | _ => none }
def traceRightRow : OpenClaim := { program := "ytgkpplbomciehaa", sum := "8349562315b9dede54b0d5440edc57381c93a160be6e3028a05d51f709048c99", func := "hindsight/hindsightlaw.TraceRight", spec := "traceRight", unfollowed := true, recurses := true, loops := true, apart := false }
def TraceRightSaid : Prop := traceRightRow.holds Try.pinned (OpenSpec.ofChange traceRightSpec)

/-- ITS FALSE NEIGHBOUR: 'it returns false'. Refute it at one input. -/
def traceRightWrong : ChangeSpec := { name := "traceRight", fn := fun _ => fun
  | [d1, d2] => { results := [.lit (.bool false)], args := [d1, d2] }
  | _ => none }
def TraceRightWrongFalsely : Prop := traceRightRow.holds Try.pinned (OpenSpec.ofChange traceRightWrong)

/-- 'hindsightlaw.TraceMore': WHATEVER THE INPUT: true; the input reads as it did. -/
def traceMoreSpec : ChangeSpec := { name := "traceMore", fn := fun _ => fun
  | [d1, d2, d3, d4, d5] => { results := [.lit (.bool true)], args := [d1, d2, d3, d4, d5] }
  | _ => none }
def traceMoreRow : OpenClaim := { program := "ytgkpplbomciehaa", sum := "8349562315b9dede54b0d5440edc57381c93a160be6e3028a05d51f709048c99", func := "hindsight/hindsightlaw.TraceMore", spec := "traceMore", unfollowed := true, recurses := true, loops := true, apart := false }
def TraceMoreSaid : Prop := traceMoreRow.holds Try.pinned (OpenSpec.ofChange traceMoreSpec)

/-- ITS FALSE NEIGHBOUR: 'it returns false'. Refute it at one input. -/
def traceMoreWrong : ChangeSpec := { name := "traceMore", fn := fun _ => fun
  | [d1, d2, d3, d4, d5] => { results := [.lit (.bool false)], args := [d1, d2, d3, d4, d5] }
  | _ => none }
def TraceMoreWrongFalsely : Prop := traceMoreRow.holds Try.pinned (OpenSpec.ofChange traceMoreWrong)

/-- 'hindsightlaw.StateTells': WHATEVER THE INPUT: true; the input reads as it did. -/
def stateTellsSpec : ChangeSpec := { name := "stateTells", fn := fun _ => fun
  | [d1, d2, d3, d4, d5] => { results := [.lit (.bool true)], args := [d1, d2, d3, d4, d5] }
  | _ => none }
def stateTellsRow : OpenClaim := { program := "ytgkpplbomciehaa", sum := "8349562315b9dede54b0d5440edc57381c93a160be6e3028a05d51f709048c99", func := "hindsight/hindsightlaw.StateTells", spec := "stateTells", unfollowed := true, recurses := true, loops := true, apart := false }
def StateTellsSaid : Prop := stateTellsRow.holds Try.pinned (OpenSpec.ofChange stateTellsSpec)

/-- ITS FALSE NEIGHBOUR: 'it returns false'. Refute it at one input. -/
def stateTellsWrong : ChangeSpec := { name := "stateTells", fn := fun _ => fun
  | [d1, d2, d3, d4, d5] => { results := [.lit (.bool false)], args := [d1, d2, d3, d4, d5] }
  | _ => none }
def StateTellsWrongFalsely : Prop := stateTellsRow.holds Try.pinned (OpenSpec.ofChange stateTellsWrong)

/-- 'hindsightlaw.StateAhead': WHATEVER THE INPUT: true; the input reads as it did. -/
def stateAheadSpec : ChangeSpec := { name := "stateAhead", fn := fun _ => fun
  | [d1, d2, d3] => { results := [.lit (.bool true)], args := [d1, d2, d3] }
  | _ => none }
def stateAheadRow : OpenClaim := { program := "ytgkpplbomciehaa", sum := "8349562315b9dede54b0d5440edc57381c93a160be6e3028a05d51f709048c99", func := "hindsight/hindsightlaw.StateAhead", spec := "stateAhead", unfollowed := true, recurses := true, loops := true, apart := false }
def StateAheadSaid : Prop := stateAheadRow.holds Try.pinned (OpenSpec.ofChange stateAheadSpec)

/-- ITS FALSE NEIGHBOUR: 'it returns false'. Refute it at one input. -/
def stateAheadWrong : ChangeSpec := { name := "stateAhead", fn := fun _ => fun
  | [d1, d2, d3] => { results := [.lit (.bool false)], args := [d1, d2, d3] }
  | _ => none }
def StateAheadWrongFalsely : Prop := stateAheadRow.holds Try.pinned (OpenSpec.ofChange stateAheadWrong)

/-- 'hindsightlaw.StateHistory': WHATEVER THE INPUT: true; the input reads as it did. -/
def stateHistorySpec : ChangeSpec := { name := "stateHistory", fn := fun _ => fun
  | [d1, d2, d3, d4, d5] => { results := [.lit (.bool true)], args := [d1, d2, d3, d4, d5] }
  | _ => none }
def stateHistoryRow : OpenClaim := { program := "ytgkpplbomciehaa", sum := "8349562315b9dede54b0d5440edc57381c93a160be6e3028a05d51f709048c99", func := "hindsight/hindsightlaw.StateHistory", spec := "stateHistory", unfollowed := true, recurses := true, loops := true, apart := false }
def StateHistorySaid : Prop := stateHistoryRow.holds Try.pinned (OpenSpec.ofChange stateHistorySpec)

/-- ITS FALSE NEIGHBOUR: 'it returns false'. Refute it at one input. -/
def stateHistoryWrong : ChangeSpec := { name := "stateHistory", fn := fun _ => fun
  | [d1, d2, d3, d4, d5] => { results := [.lit (.bool false)], args := [d1, d2, d3, d4, d5] }
  | _ => none }
def StateHistoryWrongFalsely : Prop := stateHistoryRow.holds Try.pinned (OpenSpec.ofChange stateHistoryWrong)

/-- 'hindsightlaw.StateCalls': WHATEVER THE INPUT: true; the input reads as it did. -/
def stateCallsSpec : ChangeSpec := { name := "stateCalls", fn := fun _ => fun
  | [d1, d2, d3] => { results := [.lit (.bool true)], args := [d1, d2, d3] }
  | _ => none }
def stateCallsRow : OpenClaim := { program := "ytgkpplbomciehaa", sum := "8349562315b9dede54b0d5440edc57381c93a160be6e3028a05d51f709048c99", func := "hindsight/hindsightlaw.StateCalls", spec := "stateCalls", unfollowed := true, recurses := true, loops := true, apart := false }
def StateCallsSaid : Prop := stateCallsRow.holds Try.pinned (OpenSpec.ofChange stateCallsSpec)

/-- ITS FALSE NEIGHBOUR: 'it returns false'. Refute it at one input. -/
def stateCallsWrong : ChangeSpec := { name := "stateCalls", fn := fun _ => fun
  | [d1, d2, d3] => { results := [.lit (.bool false)], args := [d1, d2, d3] }
  | _ => none }
def StateCallsWrongFalsely : Prop := stateCallsRow.holds Try.pinned (OpenSpec.ofChange stateCallsWrong)

/-- 'hindsightlaw.VmSame': WHATEVER THE INPUT: true; the input reads as it did. -/
def vmSameSpec : ChangeSpec := { name := "vmSame", fn := fun _ => fun
  | [d1, d2, d3] => { results := [.lit (.bool true)], args := [d1, d2, d3] }
  | _ => none }
def vmSameRow : OpenClaim := { program := "ytgkpplbomciehaa", sum := "8349562315b9dede54b0d5440edc57381c93a160be6e3028a05d51f709048c99", func := "hindsight/hindsightlaw.VmSame", spec := "vmSame", unfollowed := true, recurses := true, loops := true, apart := false }
def VmSameSaid : Prop := vmSameRow.holds Try.pinned (OpenSpec.ofChange vmSameSpec)

/-- ITS FALSE NEIGHBOUR: 'it returns false'. Refute it at one input. -/
def vmSameWrong : ChangeSpec := { name := "vmSame", fn := fun _ => fun
  | [d1, d2, d3] => { results := [.lit (.bool false)], args := [d1, d2, d3] }
  | _ => none }
def VmSameWrongFalsely : Prop := vmSameRow.holds Try.pinned (OpenSpec.ofChange vmSameWrong)

/- THE SECOND FORM. 'bulk': how many values and letters a reading holds, each counted each time it is reached (what is shared counts as often as it is met; a slice's spare places count too). A statement '..UptoSaid' is the law's where the arguments, and the package variables that the reading takes, are together of bulk at most 1048576: NARROWER than '..Said'. Prove '..Said' where nothing that the law and all that it calls make is longer than what came in: it says more and counts as full. Else prove '..UptoSaid'. A law counts once. -/
mutual
def uptoBulk {H : Type} : DataW H → Nat
  | .lit (.string bytes) => bytes.length + 1
  | .lit _ => 1
  | .nil => 1
  | .ptr d => uptoBulk d + 1
  | .slice elems spare => uptoBulkAll elems + uptoBulkAll spare + 1
  | .agg parts => uptoBulkAll parts + 1
  | .iface _ d => uptoBulk d + 1
  | .map entries => uptoBulkEntries entries + 1
  | .held _ => 1
def uptoBulkAll {H : Type} : List (DataW H) → Nat
  | [] => 0
  | d :: r => uptoBulk d + uptoBulkAll r
def uptoBulkEntries {H : Type} : List (Lit × DataW H) → Nat
  | [] => 0
  | x :: r => uptoBulkEntry x + uptoBulkEntries r
def uptoBulkEntry {H : Type} : Lit × DataW H → Nat
  | (.string bytes, d) => bytes.length + uptoBulk d + 1
  | (_, d) => uptoBulk d + 1
 end
def uptoSmall : (H : Type) → List (DataW H) → Bool := fun _ ds => decide (uptoBulkAll ds ≤ 1048576)
def OpenSpec.upto (s : _root_.Go.ChangeSpec) : _root_.Go.OpenSpec := { _root_.Go.OpenSpec.ofChange s with cond := some uptoSmall }

/-- 'hindsightlaw.VmRuns', WHERE WHAT IT READS IS OF BULK AT MOST 1048576: true; the input reads as it did. -/
def vmRunsUptoRow : OpenClaim := { program := "ytgkpplbomciehaa", sum := "8349562315b9dede54b0d5440edc57381c93a160be6e3028a05d51f709048c99", func := "hindsight/hindsightlaw.VmRuns", spec := "vmRuns", unfollowed := true, recurses := true, apart := false, narrowed := true }
def VmRunsUptoSaid : Prop := vmRunsUptoRow.holds Try.pinned (OpenSpec.upto vmRunsSpec)

/-- 'hindsightlaw.CodeTells', WHERE WHAT IT READS IS OF BULK AT MOST 1048576: true; the input reads as it did. -/
def codeTellsUptoRow : OpenClaim := { program := "ytgkpplbomciehaa", sum := "8349562315b9dede54b0d5440edc57381c93a160be6e3028a05d51f709048c99", func := "hindsight/hindsightlaw.CodeTells", spec := "codeTells", unfollowed := true, recurses := true, loops := true, apart := false, narrowed := true }
def CodeTellsUptoSaid : Prop := codeTellsUptoRow.holds Try.pinned (OpenSpec.upto codeTellsSpec)

/-- 'hindsightlaw.TraceEvals', WHERE WHAT IT READS IS OF BULK AT MOST 1048576: true; the input reads as it did. -/
def traceEvalsUptoRow : OpenClaim := { program := "ytgkpplbomciehaa", sum := "8349562315b9dede54b0d5440edc57381c93a160be6e3028a05d51f709048c99", func := "hindsight/hindsightlaw.TraceEvals", spec := "traceEvals", unfollowed := true, recurses := true, loops := true, apart := false, narrowed := true }
def TraceEvalsUptoSaid : Prop := traceEvalsUptoRow.holds Try.pinned (OpenSpec.upto traceEvalsSpec)

/-- 'hindsightlaw.TraceRuns', WHERE WHAT IT READS IS OF BULK AT MOST 1048576: true; the input reads as it did. -/
def traceRunsUptoRow : OpenClaim := { program := "ytgkpplbomciehaa", sum := "8349562315b9dede54b0d5440edc57381c93a160be6e3028a05d51f709048c99", func := "hindsight/hindsightlaw.TraceRuns", spec := "traceRuns", unfollowed := true, recurses := true, loops := true, apart := false, narrowed := true }
def TraceRunsUptoSaid : Prop := traceRunsUptoRow.holds Try.pinned (OpenSpec.upto traceRunsSpec)

/-- 'hindsightlaw.TraceRight', WHERE WHAT IT READS IS OF BULK AT MOST 1048576: true; the input reads as it did. -/
def traceRightUptoRow : OpenClaim := { program := "ytgkpplbomciehaa", sum := "8349562315b9dede54b0d5440edc57381c93a160be6e3028a05d51f709048c99", func := "hindsight/hindsightlaw.TraceRight", spec := "traceRight", unfollowed := true, recurses := true, loops := true, apart := false, narrowed := true }
def TraceRightUptoSaid : Prop := traceRightUptoRow.holds Try.pinned (OpenSpec.upto traceRightSpec)

/-- 'hindsightlaw.TraceMore', WHERE WHAT IT READS IS OF BULK AT MOST 1048576: true; the input reads as it did. -/
def traceMoreUptoRow : OpenClaim := { program := "ytgkpplbomciehaa", sum := "8349562315b9dede54b0d5440edc57381c93a160be6e3028a05d51f709048c99", func := "hindsight/hindsightlaw.TraceMore", spec := "traceMore", unfollowed := true, recurses := true, loops := true, apart := false, narrowed := true }
def TraceMoreUptoSaid : Prop := traceMoreUptoRow.holds Try.pinned (OpenSpec.upto traceMoreSpec)

/-- 'hindsightlaw.StateTells', WHERE WHAT IT READS IS OF BULK AT MOST 1048576: true; the input reads as it did. -/
def stateTellsUptoRow : OpenClaim := { program := "ytgkpplbomciehaa", sum := "8349562315b9dede54b0d5440edc57381c93a160be6e3028a05d51f709048c99", func := "hindsight/hindsightlaw.StateTells", spec := "stateTells", unfollowed := true, recurses := true, loops := true, apart := false, narrowed := true }
def StateTellsUptoSaid : Prop := stateTellsUptoRow.holds Try.pinned (OpenSpec.upto stateTellsSpec)

/-- 'hindsightlaw.StateAhead', WHERE WHAT IT READS IS OF BULK AT MOST 1048576: true; the input reads as it did. -/
def stateAheadUptoRow : OpenClaim := { program := "ytgkpplbomciehaa", sum := "8349562315b9dede54b0d5440edc57381c93a160be6e3028a05d51f709048c99", func := "hindsight/hindsightlaw.StateAhead", spec := "stateAhead", unfollowed := true, recurses := true, loops := true, apart := false, narrowed := true }
def StateAheadUptoSaid : Prop := stateAheadUptoRow.holds Try.pinned (OpenSpec.upto stateAheadSpec)

/-- 'hindsightlaw.StateHistory', WHERE WHAT IT READS IS OF BULK AT MOST 1048576: true; the input reads as it did. -/
def stateHistoryUptoRow : OpenClaim := { program := "ytgkpplbomciehaa", sum := "8349562315b9dede54b0d5440edc57381c93a160be6e3028a05d51f709048c99", func := "hindsight/hindsightlaw.StateHistory", spec := "stateHistory", unfollowed := true, recurses := true, loops := true, apart := false, narrowed := true }
def StateHistoryUptoSaid : Prop := stateHistoryUptoRow.holds Try.pinned (OpenSpec.upto stateHistorySpec)

/-- 'hindsightlaw.StateCalls', WHERE WHAT IT READS IS OF BULK AT MOST 1048576: true; the input reads as it did. -/
def stateCallsUptoRow : OpenClaim := { program := "ytgkpplbomciehaa", sum := "8349562315b9dede54b0d5440edc57381c93a160be6e3028a05d51f709048c99", func := "hindsight/hindsightlaw.StateCalls", spec := "stateCalls", unfollowed := true, recurses := true, loops := true, apart := false, narrowed := true }
def StateCallsUptoSaid : Prop := stateCallsUptoRow.holds Try.pinned (OpenSpec.upto stateCallsSpec)

/-- 'hindsightlaw.VmSame', WHERE WHAT IT READS IS OF BULK AT MOST 1048576: true; the input reads as it did. -/
def vmSameUptoRow : OpenClaim := { program := "ytgkpplbomciehaa", sum := "8349562315b9dede54b0d5440edc57381c93a160be6e3028a05d51f709048c99", func := "hindsight/hindsightlaw.VmSame", spec := "vmSame", unfollowed := true, recurses := true, loops := true, apart := false, narrowed := true }
def VmSameUptoSaid : Prop := vmSameUptoRow.holds Try.pinned (OpenSpec.upto vmSameSpec)

end Rows
end Go.Proofs.Ytgkpplbomciehaa
