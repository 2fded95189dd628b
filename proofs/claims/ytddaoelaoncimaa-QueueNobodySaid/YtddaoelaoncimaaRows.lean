/-
  No cell of these rows narrows 'for every input' (looked for: loops, veiled, ifaces, maps, wideKeys, modest, calm, conditions, laid).
  DERIVED. THE GIVEN ROWS OF THIS SEAT. 7 by the template 'for every input the law returns true; each argument reads behind the call as it read before'; 0 by the template 'total and deterministic' (their statements: YtddaoelaoncimaaTotals.lean).
  GIVEN WITH THE SEED: the statements are not yours to turn. If you find one false, say at which input.
  Laid BY PROGRAM, IN A SANDBOX (cutbox-rows.mjs): the forced cells as the released guide's own fill.sh prints them over the translation 767c31f4255e043d… (all of the seat's roots in one cut). By AI agents, Wed Nov 11 2026. No macro, syntax, notation, axiom, sorry.
-/
import Derived.Test.YtddaoelaoncimaaChecked
import GoSem.Claim
import GoSem.ClaimJoined
import GoSem.ClaimMapViews
import Derived.JoinedTies
import Derived.KernelRfl
namespace Go.Proofs.Ytddaoelaoncimaa
/- THE CELL 'sum', in the pinned program and in every row, IS THE sha256 OF THE DUMP (.gsa) THAT YtddaoelaoncimaaProg.lean LOADS. Nothing in Lean hashes anything: it is a label: what it is worth is what the hold of that sum in a sandbox is worth. -/
noncomputable def Try.pinned : Pinned := { name := "ytddaoelaoncimaa", sum := "767c31f4255e043da1fd3a18d706684ec0a4771ac9d89cb049d0d577ee672e93", checked := Try.checked }
namespace Rows
def none {H : Type} : Left H := { results := [], args := [] }

/-- 'bartizanlaw23.LogSectors': WHATEVER THE INPUT: true; the input reads as it did. -/
def logSectorsSpec : ChangeSpec := { name := "logSectors", fn := fun _ => fun
  | [d1, d2] => { results := [.lit (.bool true)], args := [d1, d2] }
  | _ => none }
def logSectorsRow : OpenClaim := { program := "ytddaoelaoncimaa", sum := "767c31f4255e043da1fd3a18d706684ec0a4771ac9d89cb049d0d577ee672e93", func := "bartizan/bartizanlaw23.LogSectors", spec := "logSectors", apart := false }
def LogSectorsSaid : Prop := logSectorsRow.holds Try.pinned (OpenSpec.ofChange logSectorsSpec)

/-- ITS FALSE NEIGHBOUR: 'it returns false'. Refute it at one input. -/
def logSectorsWrong : ChangeSpec := { name := "logSectors", fn := fun _ => fun
  | [d1, d2] => { results := [.lit (.bool false)], args := [d1, d2] }
  | _ => none }
def LogSectorsWrongFalsely : Prop := logSectorsRow.holds Try.pinned (OpenSpec.ofChange logSectorsWrong)

/-- 'bartizanlaw23.LogPlays': WHATEVER THE INPUT: true; the input reads as it did. -/
def logPlaysSpec : ChangeSpec := { name := "logPlays", fn := fun _ => fun
  | [d1, d2] => { results := [.lit (.bool true)], args := [d1, d2] }
  | _ => none }
def logPlaysRow : OpenClaim := { program := "ytddaoelaoncimaa", sum := "767c31f4255e043da1fd3a18d706684ec0a4771ac9d89cb049d0d577ee672e93", func := "bartizan/bartizanlaw23.LogPlays", spec := "logPlays", apart := false }
def LogPlaysSaid : Prop := logPlaysRow.holds Try.pinned (OpenSpec.ofChange logPlaysSpec)

/-- ITS FALSE NEIGHBOUR: 'it returns false'. Refute it at one input. -/
def logPlaysWrong : ChangeSpec := { name := "logPlays", fn := fun _ => fun
  | [d1, d2] => { results := [.lit (.bool false)], args := [d1, d2] }
  | _ => none }
def LogPlaysWrongFalsely : Prop := logPlaysRow.holds Try.pinned (OpenSpec.ofChange logPlaysWrong)

/-- 'bartizanlaw23.LogWhole': WHATEVER THE INPUT: true; the input reads as it did. -/
def logWholeSpec : ChangeSpec := { name := "logWhole", fn := fun _ => fun
  | [d1, d2] => { results := [.lit (.bool true)], args := [d1, d2] }
  | _ => none }
def logWholeRow : OpenClaim := { program := "ytddaoelaoncimaa", sum := "767c31f4255e043da1fd3a18d706684ec0a4771ac9d89cb049d0d577ee672e93", func := "bartizan/bartizanlaw23.LogWhole", spec := "logWhole", apart := false }
def LogWholeSaid : Prop := logWholeRow.holds Try.pinned (OpenSpec.ofChange logWholeSpec)

/-- ITS FALSE NEIGHBOUR: 'it returns false'. Refute it at one input. -/
def logWholeWrong : ChangeSpec := { name := "logWhole", fn := fun _ => fun
  | [d1, d2] => { results := [.lit (.bool false)], args := [d1, d2] }
  | _ => none }
def LogWholeWrongFalsely : Prop := logWholeRow.holds Try.pinned (OpenSpec.ofChange logWholeWrong)

/-- 'bartizanlaw23.LogOpens': WHATEVER THE INPUT: true; the input reads as it did. -/
def logOpensSpec : ChangeSpec := { name := "logOpens", fn := fun _ => fun
  | [d] => { results := [.lit (.bool true)], args := [d] }
  | _ => none }
def logOpensRow : OpenClaim := { program := "ytddaoelaoncimaa", sum := "767c31f4255e043da1fd3a18d706684ec0a4771ac9d89cb049d0d577ee672e93", func := "bartizan/bartizanlaw23.LogOpens", spec := "logOpens", apart := false }
def LogOpensSaid : Prop := logOpensRow.holds Try.pinned (OpenSpec.ofChange logOpensSpec)

/-- ITS FALSE NEIGHBOUR: 'it returns false'. Refute it at one input. -/
def logOpensWrong : ChangeSpec := { name := "logOpens", fn := fun _ => fun
  | [d] => { results := [.lit (.bool false)], args := [d] }
  | _ => none }
def LogOpensWrongFalsely : Prop := logOpensRow.holds Try.pinned (OpenSpec.ofChange logOpensWrong)

/-- 'bartizanlaw24.QueuePauses': WHATEVER THE INPUT: true; the input reads as it did. -/
def queuePausesSpec : ChangeSpec := { name := "queuePauses", fn := fun _ => fun
  | [d] => { results := [.lit (.bool true)], args := [d] }
  | _ => none }
def queuePausesRow : OpenClaim := { program := "ytddaoelaoncimaa", sum := "767c31f4255e043da1fd3a18d706684ec0a4771ac9d89cb049d0d577ee672e93", func := "bartizan/bartizanlaw24.QueuePauses", spec := "queuePauses", unfollowed := true, recurses := true, apart := false }
def QueuePausesSaid : Prop := queuePausesRow.holds Try.pinned (OpenSpec.ofChange queuePausesSpec)

/-- ITS FALSE NEIGHBOUR: 'it returns false'. Refute it at one input. -/
def queuePausesWrong : ChangeSpec := { name := "queuePauses", fn := fun _ => fun
  | [d] => { results := [.lit (.bool false)], args := [d] }
  | _ => none }
def QueuePausesWrongFalsely : Prop := queuePausesRow.holds Try.pinned (OpenSpec.ofChange queuePausesWrong)

/-- 'bartizanlaw24.QueuePlays': WHATEVER THE INPUT: true; the input reads as it did. -/
def queuePlaysSpec : ChangeSpec := { name := "queuePlays", fn := fun _ => fun
  | [d1, d2, d3] => { results := [.lit (.bool true)], args := [d1, d2, d3] }
  | _ => none }
def queuePlaysRow : OpenClaim := { program := "ytddaoelaoncimaa", sum := "767c31f4255e043da1fd3a18d706684ec0a4771ac9d89cb049d0d577ee672e93", func := "bartizan/bartizanlaw24.QueuePlays", spec := "queuePlays", unfollowed := true, recurses := true, apart := false }
def QueuePlaysSaid : Prop := queuePlaysRow.holds Try.pinned (OpenSpec.ofChange queuePlaysSpec)

/-- ITS FALSE NEIGHBOUR: 'it returns false'. Refute it at one input. -/
def queuePlaysWrong : ChangeSpec := { name := "queuePlays", fn := fun _ => fun
  | [d1, d2, d3] => { results := [.lit (.bool false)], args := [d1, d2, d3] }
  | _ => none }
def QueuePlaysWrongFalsely : Prop := queuePlaysRow.holds Try.pinned (OpenSpec.ofChange queuePlaysWrong)

/-- 'bartizanlaw24.QueueNobody': WHATEVER THE INPUT: true; the input reads as it did. -/
def queueNobodySpec : ChangeSpec := { name := "queueNobody", fn := fun _ => fun
  | [d1, d2] => { results := [.lit (.bool true)], args := [d1, d2] }
  | _ => none }
def queueNobodyRow : OpenClaim := { program := "ytddaoelaoncimaa", sum := "767c31f4255e043da1fd3a18d706684ec0a4771ac9d89cb049d0d577ee672e93", func := "bartizan/bartizanlaw24.QueueNobody", spec := "queueNobody", unfollowed := true, recurses := true, apart := false }
def QueueNobodySaid : Prop := queueNobodyRow.holds Try.pinned (OpenSpec.ofChange queueNobodySpec)

/-- ITS FALSE NEIGHBOUR: 'it returns false'. Refute it at one input. -/
def queueNobodyWrong : ChangeSpec := { name := "queueNobody", fn := fun _ => fun
  | [d1, d2] => { results := [.lit (.bool false)], args := [d1, d2] }
  | _ => none }
def QueueNobodyWrongFalsely : Prop := queueNobodyRow.holds Try.pinned (OpenSpec.ofChange queueNobodyWrong)

/- THE SECOND FORM. 'bulk': how many values and letters a reading holds, each counted each time it is reached (what is shared counts as often as it is met; a slice's spare places count too). A statement '..UptoSaid' is the law's where the arguments, and the package variables that the reading takes, are together of bulk at most 1048576: NARROWER than '..Said'. Prove '..Said' where nothing that the law and all that it calls make is longer than what came in: it says more and counts as full. Else prove '..UptoSaid'. A law counts once. -/
mutual
def uptoBulk {H : Type} : DataW H → Nat
  | .lit (.string bytes) => bytes.length + 1
  | .lit _ => 1
  | .nil => 1
  | .ptr d => uptoBulk d + 1
  | .slice elems spare => uptoBulkAll elems + uptoBulkAll spare + 1
  | .agg parts => uptoBulkAll parts + 1
  | .iface _ d => uptoBulk d + 1
  | .map entries => uptoBulkEntries entries + 1
  | .held _ => 1
def uptoBulkAll {H : Type} : List (DataW H) → Nat
  | [] => 0
  | d :: r => uptoBulk d + uptoBulkAll r
def uptoBulkEntries {H : Type} : List (Lit × DataW H) → Nat
  | [] => 0
  | x :: r => uptoBulkEntry x + uptoBulkEntries r
def uptoBulkEntry {H : Type} : Lit × DataW H → Nat
  | (.string bytes, d) => bytes.length + uptoBulk d + 1
  | (_, d) => uptoBulk d + 1
 end
def uptoSmall : (H : Type) → List (DataW H) → Bool := fun _ ds => decide (uptoBulkAll ds ≤ 1048576)
def OpenSpec.upto (s : _root_.Go.ChangeSpec) : _root_.Go.OpenSpec := { _root_.Go.OpenSpec.ofChange s with cond := some uptoSmall }

/-- 'bartizanlaw23.LogSectors', WHERE WHAT IT READS IS OF BULK AT MOST 1048576: true; the input reads as it did. -/
def logSectorsUptoRow : OpenClaim := { program := "ytddaoelaoncimaa", sum := "767c31f4255e043da1fd3a18d706684ec0a4771ac9d89cb049d0d577ee672e93", func := "bartizan/bartizanlaw23.LogSectors", spec := "logSectors", apart := false, narrowed := true }
def LogSectorsUptoSaid : Prop := logSectorsUptoRow.holds Try.pinned (OpenSpec.upto logSectorsSpec)

/-- 'bartizanlaw23.LogPlays', WHERE WHAT IT READS IS OF BULK AT MOST 1048576: true; the input reads as it did. -/
def logPlaysUptoRow : OpenClaim := { program := "ytddaoelaoncimaa", sum := "767c31f4255e043da1fd3a18d706684ec0a4771ac9d89cb049d0d577ee672e93", func := "bartizan/bartizanlaw23.LogPlays", spec := "logPlays", apart := false, narrowed := true }
def LogPlaysUptoSaid : Prop := logPlaysUptoRow.holds Try.pinned (OpenSpec.upto logPlaysSpec)

/-- 'bartizanlaw23.LogWhole', WHERE WHAT IT READS IS OF BULK AT MOST 1048576: true; the input reads as it did. -/
def logWholeUptoRow : OpenClaim := { program := "ytddaoelaoncimaa", sum := "767c31f4255e043da1fd3a18d706684ec0a4771ac9d89cb049d0d577ee672e93", func := "bartizan/bartizanlaw23.LogWhole", spec := "logWhole", apart := false, narrowed := true }
def LogWholeUptoSaid : Prop := logWholeUptoRow.holds Try.pinned (OpenSpec.upto logWholeSpec)

/-- 'bartizanlaw23.LogOpens', WHERE WHAT IT READS IS OF BULK AT MOST 1048576: true; the input reads as it did. -/
def logOpensUptoRow : OpenClaim := { program := "ytddaoelaoncimaa", sum := "767c31f4255e043da1fd3a18d706684ec0a4771ac9d89cb049d0d577ee672e93", func := "bartizan/bartizanlaw23.LogOpens", spec := "logOpens", apart := false, narrowed := true }
def LogOpensUptoSaid : Prop := logOpensUptoRow.holds Try.pinned (OpenSpec.upto logOpensSpec)

/-- 'bartizanlaw24.QueuePauses', WHERE WHAT IT READS IS OF BULK AT MOST 1048576: true; the input reads as it did. -/
def queuePausesUptoRow : OpenClaim := { program := "ytddaoelaoncimaa", sum := "767c31f4255e043da1fd3a18d706684ec0a4771ac9d89cb049d0d577ee672e93", func := "bartizan/bartizanlaw24.QueuePauses", spec := "queuePauses", unfollowed := true, recurses := true, apart := false, narrowed := true }
def QueuePausesUptoSaid : Prop := queuePausesUptoRow.holds Try.pinned (OpenSpec.upto queuePausesSpec)

/-- 'bartizanlaw24.QueuePlays', WHERE WHAT IT READS IS OF BULK AT MOST 1048576: true; the input reads as it did. -/
def queuePlaysUptoRow : OpenClaim := { program := "ytddaoelaoncimaa", sum := "767c31f4255e043da1fd3a18d706684ec0a4771ac9d89cb049d0d577ee672e93", func := "bartizan/bartizanlaw24.QueuePlays", spec := "queuePlays", unfollowed := true, recurses := true, apart := false, narrowed := true }
def QueuePlaysUptoSaid : Prop := queuePlaysUptoRow.holds Try.pinned (OpenSpec.upto queuePlaysSpec)

/-- 'bartizanlaw24.QueueNobody', WHERE WHAT IT READS IS OF BULK AT MOST 1048576: true; the input reads as it did. -/
def queueNobodyUptoRow : OpenClaim := { program := "ytddaoelaoncimaa", sum := "767c31f4255e043da1fd3a18d706684ec0a4771ac9d89cb049d0d577ee672e93", func := "bartizan/bartizanlaw24.QueueNobody", spec := "queueNobody", unfollowed := true, recurses := true, apart := false, narrowed := true }
def QueueNobodyUptoSaid : Prop := queueNobodyUptoRow.holds Try.pinned (OpenSpec.upto queueNobodySpec)

end Rows
end Go.Proofs.Ytddaoelaoncimaa
