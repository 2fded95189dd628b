/-
  No cell of these rows narrows 'for every input' (looked for: loops, veiled, ifaces, maps, wideKeys, modest, calm, conditions, laid).
  DERIVED. THE GIVEN ROWS OF THIS SEAT. 9 by the template 'for every input the law returns true; each argument reads behind the call as it read before'; 0 by the template 'total and deterministic' (their statements: YthhgfcfcgbjleaaTotals.lean).
  GIVEN WITH THE SEED: the statements are not yours to turn. If you find one false, say at which input.
  Laid BY PROGRAM, IN A SANDBOX (cutbox-rows.mjs): the forced cells as the released guide's own fill.sh prints them over the translation 23312165878b3e73… (all of the seat's roots in one cut). By AI agents, Wed Nov 11 2026. No macro, syntax, notation, axiom, sorry.
-/
import Derived.Test.YthhgfcfcgbjleaaChecked
import GoSem.Claim
import GoSem.ClaimJoined
import GoSem.ClaimMapViews
import Derived.JoinedTies
import Derived.KernelRfl
namespace Go.Proofs.Ythhgfcfcgbjleaa
/- THE CELL 'sum', in the pinned program and in every row, IS THE sha256 OF THE DUMP (.gsa) THAT YthhgfcfcgbjleaaProg.lean LOADS. Nothing in Lean hashes anything: it is a label: what it is worth is what the hold of that sum in a sandbox is worth. -/
noncomputable def Try.pinned : Pinned := { name := "ythhgfcfcgbjleaa", sum := "23312165878b3e734fa214b0cd3c40f553c251bc7ae8be8a97932e04456e8354", checked := Try.checked }
namespace Rows
def none {H : Type} : Left H := { results := [], args := [] }

/-- 'bartizanlaw14.CommitFunds': WHATEVER THE INPUT: true; the input reads as it did. -/
def commitFundsSpec : ChangeSpec := { name := "commitFunds", fn := fun _ => fun
  | [d] => { results := [.lit (.bool true)], args := [d] }
  | _ => none }
def commitFundsRow : OpenClaim := { program := "ythhgfcfcgbjleaa", sum := "23312165878b3e734fa214b0cd3c40f553c251bc7ae8be8a97932e04456e8354", func := "bartizan/bartizanlaw14.CommitFunds", spec := "commitFunds", unfollowed := true, recurses := true, apart := false }
def CommitFundsSaid : Prop := commitFundsRow.holds Try.pinned (OpenSpec.ofChange commitFundsSpec)

/-- ITS FALSE NEIGHBOUR: 'it returns false'. Refute it at one input. -/
def commitFundsWrong : ChangeSpec := { name := "commitFunds", fn := fun _ => fun
  | [d] => { results := [.lit (.bool false)], args := [d] }
  | _ => none }
def CommitFundsWrongFalsely : Prop := commitFundsRow.holds Try.pinned (OpenSpec.ofChange commitFundsWrong)

/-- 'bartizanlaw16.AppointJobs': WHATEVER THE INPUT: true; the input reads as it did. -/
def appointJobsSpec : ChangeSpec := { name := "appointJobs", fn := fun _ => fun
  | [d1, d2, d3, d4, d5] => { results := [.lit (.bool true)], args := [d1, d2, d3, d4, d5] }
  | _ => none }
def appointJobsRow : OpenClaim := { program := "ythhgfcfcgbjleaa", sum := "23312165878b3e734fa214b0cd3c40f553c251bc7ae8be8a97932e04456e8354", func := "bartizan/bartizanlaw16.AppointJobs", spec := "appointJobs", unfollowed := true, recurses := true, apart := false }
def AppointJobsSaid : Prop := appointJobsRow.holds Try.pinned (OpenSpec.ofChange appointJobsSpec)

/-- ITS FALSE NEIGHBOUR: 'it returns false'. Refute it at one input. -/
def appointJobsWrong : ChangeSpec := { name := "appointJobs", fn := fun _ => fun
  | [d1, d2, d3, d4, d5] => { results := [.lit (.bool false)], args := [d1, d2, d3, d4, d5] }
  | _ => none }
def AppointJobsWrongFalsely : Prop := appointJobsRow.holds Try.pinned (OpenSpec.ofChange appointJobsWrong)

/-- 'bartizanlaw07.LockReads': WHATEVER THE INPUT: true; the input reads as it did. -/
def lockReadsSpec : ChangeSpec := { name := "lockReads", fn := fun _ => fun
  | [d] => { results := [.lit (.bool true)], args := [d] }
  | _ => none }
def lockReadsRow : OpenClaim := { program := "ythhgfcfcgbjleaa", sum := "23312165878b3e734fa214b0cd3c40f553c251bc7ae8be8a97932e04456e8354", func := "bartizan/bartizanlaw07.LockReads", spec := "lockReads", unfollowed := true, recurses := true, apart := false }
def LockReadsSaid : Prop := lockReadsRow.holds Try.pinned (OpenSpec.ofChange lockReadsSpec)

/-- ITS FALSE NEIGHBOUR: 'it returns false'. Refute it at one input. -/
def lockReadsWrong : ChangeSpec := { name := "lockReads", fn := fun _ => fun
  | [d] => { results := [.lit (.bool false)], args := [d] }
  | _ => none }
def LockReadsWrongFalsely : Prop := lockReadsRow.holds Try.pinned (OpenSpec.ofChange lockReadsWrong)

/-- 'bartizanlaw07.LockOuts': WHATEVER THE INPUT: true; the input reads as it did. -/
def lockOutsSpec : ChangeSpec := { name := "lockOuts", fn := fun _ => fun
  | [d1, d2] => { results := [.lit (.bool true)], args := [d1, d2] }
  | _ => none }
def lockOutsRow : OpenClaim := { program := "ythhgfcfcgbjleaa", sum := "23312165878b3e734fa214b0cd3c40f553c251bc7ae8be8a97932e04456e8354", func := "bartizan/bartizanlaw07.LockOuts", spec := "lockOuts", unfollowed := true, recurses := true, apart := false }
def LockOutsSaid : Prop := lockOutsRow.holds Try.pinned (OpenSpec.ofChange lockOutsSpec)

/-- ITS FALSE NEIGHBOUR: 'it returns false'. Refute it at one input. -/
def lockOutsWrong : ChangeSpec := { name := "lockOuts", fn := fun _ => fun
  | [d1, d2] => { results := [.lit (.bool false)], args := [d1, d2] }
  | _ => none }
def LockOutsWrongFalsely : Prop := lockOutsRow.holds Try.pinned (OpenSpec.ofChange lockOutsWrong)

/-- 'bartizanlaw14.CommitBuilds': WHATEVER THE INPUT: true; the input reads as it did. -/
def commitBuildsSpec : ChangeSpec := { name := "commitBuilds", fn := fun _ => fun
  | [d1, d2, d3] => { results := [.lit (.bool true)], args := [d1, d2, d3] }
  | _ => none }
def commitBuildsRow : OpenClaim := { program := "ythhgfcfcgbjleaa", sum := "23312165878b3e734fa214b0cd3c40f553c251bc7ae8be8a97932e04456e8354", func := "bartizan/bartizanlaw14.CommitBuilds", spec := "commitBuilds", unfollowed := true, recurses := true, apart := false }
def CommitBuildsSaid : Prop := commitBuildsRow.holds Try.pinned (OpenSpec.ofChange commitBuildsSpec)

/-- ITS FALSE NEIGHBOUR: 'it returns false'. Refute it at one input. -/
def commitBuildsWrong : ChangeSpec := { name := "commitBuilds", fn := fun _ => fun
  | [d1, d2, d3] => { results := [.lit (.bool false)], args := [d1, d2, d3] }
  | _ => none }
def CommitBuildsWrongFalsely : Prop := commitBuildsRow.holds Try.pinned (OpenSpec.ofChange commitBuildsWrong)

/-- 'bartizanlaw15.JusticeChecks': WHATEVER THE INPUT: true; the input reads as it did. -/
def justiceChecksSpec : ChangeSpec := { name := "justiceChecks", fn := fun _ => fun
  | [d1, d2, d3] => { results := [.lit (.bool true)], args := [d1, d2, d3] }
  | _ => none }
def justiceChecksRow : OpenClaim := { program := "ythhgfcfcgbjleaa", sum := "23312165878b3e734fa214b0cd3c40f553c251bc7ae8be8a97932e04456e8354", func := "bartizan/bartizanlaw15.JusticeChecks", spec := "justiceChecks", unfollowed := true, recurses := true, apart := false }
def JusticeChecksSaid : Prop := justiceChecksRow.holds Try.pinned (OpenSpec.ofChange justiceChecksSpec)

/-- ITS FALSE NEIGHBOUR: 'it returns false'. Refute it at one input. -/
def justiceChecksWrong : ChangeSpec := { name := "justiceChecks", fn := fun _ => fun
  | [d1, d2, d3] => { results := [.lit (.bool false)], args := [d1, d2, d3] }
  | _ => none }
def JusticeChecksWrongFalsely : Prop := justiceChecksRow.holds Try.pinned (OpenSpec.ofChange justiceChecksWrong)

/-- 'bartizanlaw16.AppointBytes': WHATEVER THE INPUT: true; the input reads as it did. -/
def appointBytesSpec : ChangeSpec := { name := "appointBytes", fn := fun _ => fun
  | [d1, d2] => { results := [.lit (.bool true)], args := [d1, d2] }
  | _ => none }
def appointBytesRow : OpenClaim := { program := "ythhgfcfcgbjleaa", sum := "23312165878b3e734fa214b0cd3c40f553c251bc7ae8be8a97932e04456e8354", func := "bartizan/bartizanlaw16.AppointBytes", spec := "appointBytes", unfollowed := true, recurses := true, apart := false }
def AppointBytesSaid : Prop := appointBytesRow.holds Try.pinned (OpenSpec.ofChange appointBytesSpec)

/-- ITS FALSE NEIGHBOUR: 'it returns false'. Refute it at one input. -/
def appointBytesWrong : ChangeSpec := { name := "appointBytes", fn := fun _ => fun
  | [d1, d2] => { results := [.lit (.bool false)], args := [d1, d2] }
  | _ => none }
def AppointBytesWrongFalsely : Prop := appointBytesRow.holds Try.pinned (OpenSpec.ofChange appointBytesWrong)

/-- 'bartizanlaw16.AppointCovers': WHATEVER THE INPUT: true; the input reads as it did. -/
def appointCoversSpec : ChangeSpec := { name := "appointCovers", fn := fun _ => fun
  | [d1, d2] => { results := [.lit (.bool true)], args := [d1, d2] }
  | _ => none }
def appointCoversRow : OpenClaim := { program := "ythhgfcfcgbjleaa", sum := "23312165878b3e734fa214b0cd3c40f553c251bc7ae8be8a97932e04456e8354", func := "bartizan/bartizanlaw16.AppointCovers", spec := "appointCovers", unfollowed := true, recurses := true, apart := false }
def AppointCoversSaid : Prop := appointCoversRow.holds Try.pinned (OpenSpec.ofChange appointCoversSpec)

/-- ITS FALSE NEIGHBOUR: 'it returns false'. Refute it at one input. -/
def appointCoversWrong : ChangeSpec := { name := "appointCovers", fn := fun _ => fun
  | [d1, d2] => { results := [.lit (.bool false)], args := [d1, d2] }
  | _ => none }
def AppointCoversWrongFalsely : Prop := appointCoversRow.holds Try.pinned (OpenSpec.ofChange appointCoversWrong)

/-- 'bartizanlaw16.AppointUncovers': WHATEVER THE INPUT: true; the input reads as it did. -/
def appointUncoversSpec : ChangeSpec := { name := "appointUncovers", fn := fun _ => fun
  | [d1, d2] => { results := [.lit (.bool true)], args := [d1, d2] }
  | _ => none }
def appointUncoversRow : OpenClaim := { program := "ythhgfcfcgbjleaa", sum := "23312165878b3e734fa214b0cd3c40f553c251bc7ae8be8a97932e04456e8354", func := "bartizan/bartizanlaw16.AppointUncovers", spec := "appointUncovers", unfollowed := true, recurses := true, apart := false }
def AppointUncoversSaid : Prop := appointUncoversRow.holds Try.pinned (OpenSpec.ofChange appointUncoversSpec)

/-- ITS FALSE NEIGHBOUR: 'it returns false'. Refute it at one input. -/
def appointUncoversWrong : ChangeSpec := { name := "appointUncovers", fn := fun _ => fun
  | [d1, d2] => { results := [.lit (.bool false)], args := [d1, d2] }
  | _ => none }
def AppointUncoversWrongFalsely : Prop := appointUncoversRow.holds Try.pinned (OpenSpec.ofChange appointUncoversWrong)

/- THE SECOND FORM. 'bulk': how many values and letters a reading holds, each counted each time it is reached (what is shared counts as often as it is met; a slice's spare places count too). A statement '..UptoSaid' is the law's where the arguments, and the package variables that the reading takes, are together of bulk at most 1048576: NARROWER than '..Said'. Prove '..Said' where nothing that the law and all that it calls make is longer than what came in: it says more and counts as full. Else prove '..UptoSaid'. A law counts once. -/
mutual
def uptoBulk {H : Type} : DataW H → Nat
  | .lit (.string bytes) => bytes.length + 1
  | .lit _ => 1
  | .nil => 1
  | .ptr d => uptoBulk d + 1
  | .slice elems spare => uptoBulkAll elems + uptoBulkAll spare + 1
  | .agg parts => uptoBulkAll parts + 1
  | .iface _ d => uptoBulk d + 1
  | .map entries => uptoBulkEntries entries + 1
  | .held _ => 1
def uptoBulkAll {H : Type} : List (DataW H) → Nat
  | [] => 0
  | d :: r => uptoBulk d + uptoBulkAll r
def uptoBulkEntries {H : Type} : List (Lit × DataW H) → Nat
  | [] => 0
  | x :: r => uptoBulkEntry x + uptoBulkEntries r
def uptoBulkEntry {H : Type} : Lit × DataW H → Nat
  | (.string bytes, d) => bytes.length + uptoBulk d + 1
  | (_, d) => uptoBulk d + 1
 end
def uptoSmall : (H : Type) → List (DataW H) → Bool := fun _ ds => decide (uptoBulkAll ds ≤ 1048576)
def OpenSpec.upto (s : _root_.Go.ChangeSpec) : _root_.Go.OpenSpec := { _root_.Go.OpenSpec.ofChange s with cond := some uptoSmall }

/-- 'bartizanlaw14.CommitFunds', WHERE WHAT IT READS IS OF BULK AT MOST 1048576: true; the input reads as it did. -/
def commitFundsUptoRow : OpenClaim := { program := "ythhgfcfcgbjleaa", sum := "23312165878b3e734fa214b0cd3c40f553c251bc7ae8be8a97932e04456e8354", func := "bartizan/bartizanlaw14.CommitFunds", spec := "commitFunds", unfollowed := true, recurses := true, apart := false, narrowed := true }
def CommitFundsUptoSaid : Prop := commitFundsUptoRow.holds Try.pinned (OpenSpec.upto commitFundsSpec)

/-- 'bartizanlaw16.AppointJobs', WHERE WHAT IT READS IS OF BULK AT MOST 1048576: true; the input reads as it did. -/
def appointJobsUptoRow : OpenClaim := { program := "ythhgfcfcgbjleaa", sum := "23312165878b3e734fa214b0cd3c40f553c251bc7ae8be8a97932e04456e8354", func := "bartizan/bartizanlaw16.AppointJobs", spec := "appointJobs", unfollowed := true, recurses := true, apart := false, narrowed := true }
def AppointJobsUptoSaid : Prop := appointJobsUptoRow.holds Try.pinned (OpenSpec.upto appointJobsSpec)

/-- 'bartizanlaw07.LockReads', WHERE WHAT IT READS IS OF BULK AT MOST 1048576: true; the input reads as it did. -/
def lockReadsUptoRow : OpenClaim := { program := "ythhgfcfcgbjleaa", sum := "23312165878b3e734fa214b0cd3c40f553c251bc7ae8be8a97932e04456e8354", func := "bartizan/bartizanlaw07.LockReads", spec := "lockReads", unfollowed := true, recurses := true, apart := false, narrowed := true }
def LockReadsUptoSaid : Prop := lockReadsUptoRow.holds Try.pinned (OpenSpec.upto lockReadsSpec)

/-- 'bartizanlaw07.LockOuts', WHERE WHAT IT READS IS OF BULK AT MOST 1048576: true; the input reads as it did. -/
def lockOutsUptoRow : OpenClaim := { program := "ythhgfcfcgbjleaa", sum := "23312165878b3e734fa214b0cd3c40f553c251bc7ae8be8a97932e04456e8354", func := "bartizan/bartizanlaw07.LockOuts", spec := "lockOuts", unfollowed := true, recurses := true, apart := false, narrowed := true }
def LockOutsUptoSaid : Prop := lockOutsUptoRow.holds Try.pinned (OpenSpec.upto lockOutsSpec)

/-- 'bartizanlaw14.CommitBuilds', WHERE WHAT IT READS IS OF BULK AT MOST 1048576: true; the input reads as it did. -/
def commitBuildsUptoRow : OpenClaim := { program := "ythhgfcfcgbjleaa", sum := "23312165878b3e734fa214b0cd3c40f553c251bc7ae8be8a97932e04456e8354", func := "bartizan/bartizanlaw14.CommitBuilds", spec := "commitBuilds", unfollowed := true, recurses := true, apart := false, narrowed := true }
def CommitBuildsUptoSaid : Prop := commitBuildsUptoRow.holds Try.pinned (OpenSpec.upto commitBuildsSpec)

/-- 'bartizanlaw15.JusticeChecks', WHERE WHAT IT READS IS OF BULK AT MOST 1048576: true; the input reads as it did. -/
def justiceChecksUptoRow : OpenClaim := { program := "ythhgfcfcgbjleaa", sum := "23312165878b3e734fa214b0cd3c40f553c251bc7ae8be8a97932e04456e8354", func := "bartizan/bartizanlaw15.JusticeChecks", spec := "justiceChecks", unfollowed := true, recurses := true, apart := false, narrowed := true }
def JusticeChecksUptoSaid : Prop := justiceChecksUptoRow.holds Try.pinned (OpenSpec.upto justiceChecksSpec)

/-- 'bartizanlaw16.AppointBytes', WHERE WHAT IT READS IS OF BULK AT MOST 1048576: true; the input reads as it did. -/
def appointBytesUptoRow : OpenClaim := { program := "ythhgfcfcgbjleaa", sum := "23312165878b3e734fa214b0cd3c40f553c251bc7ae8be8a97932e04456e8354", func := "bartizan/bartizanlaw16.AppointBytes", spec := "appointBytes", unfollowed := true, recurses := true, apart := false, narrowed := true }
def AppointBytesUptoSaid : Prop := appointBytesUptoRow.holds Try.pinned (OpenSpec.upto appointBytesSpec)

/-- 'bartizanlaw16.AppointCovers', WHERE WHAT IT READS IS OF BULK AT MOST 1048576: true; the input reads as it did. -/
def appointCoversUptoRow : OpenClaim := { program := "ythhgfcfcgbjleaa", sum := "23312165878b3e734fa214b0cd3c40f553c251bc7ae8be8a97932e04456e8354", func := "bartizan/bartizanlaw16.AppointCovers", spec := "appointCovers", unfollowed := true, recurses := true, apart := false, narrowed := true }
def AppointCoversUptoSaid : Prop := appointCoversUptoRow.holds Try.pinned (OpenSpec.upto appointCoversSpec)

/-- 'bartizanlaw16.AppointUncovers', WHERE WHAT IT READS IS OF BULK AT MOST 1048576: true; the input reads as it did. -/
def appointUncoversUptoRow : OpenClaim := { program := "ythhgfcfcgbjleaa", sum := "23312165878b3e734fa214b0cd3c40f553c251bc7ae8be8a97932e04456e8354", func := "bartizan/bartizanlaw16.AppointUncovers", spec := "appointUncovers", unfollowed := true, recurses := true, apart := false, narrowed := true }
def AppointUncoversUptoSaid : Prop := appointUncoversUptoRow.holds Try.pinned (OpenSpec.upto appointUncoversSpec)

end Rows
end Go.Proofs.Ythhgfcfcgbjleaa
