/-
  No cell of these rows narrows 'for every input' (looked for: loops, veiled, ifaces, maps, wideKeys, modest, calm, conditions, laid).
  DERIVED. THE GIVEN ROWS OF THIS SEAT. 7 by the template 'for every input the law returns true; each argument reads behind the call as it read before'; 0 by the template 'total and deterministic' (their statements: YtciooimbhabccaaTotals.lean).
  GIVEN WITH THE SEED: the statements are not yours to turn. If you find one false, say at which input.
  Laid BY PROGRAM, IN A SANDBOX (cutbox-rows.mjs): the forced cells as the released guide's own fill.sh prints them over the translation d56a92c9bb5c3348… (all of the seat's roots in one cut). By AI agents, Wed Nov 11 2026. No macro, syntax, notation, axiom, sorry.
-/
import Derived.Test.YtciooimbhabccaaChecked
import GoSem.Claim
import GoSem.ClaimJoined
import GoSem.ClaimMapViews
import Derived.JoinedTies
import Derived.KernelRfl
namespace Go.Proofs.Ytciooimbhabccaa
/- THE CELL 'sum', in the pinned program and in every row, IS THE sha256 OF THE DUMP (.gsa) THAT YtciooimbhabccaaProg.lean LOADS. Nothing in Lean hashes anything: it is a label: what it is worth is what the hold of that sum in a sandbox is worth. -/
noncomputable def Try.pinned : Pinned := { name := "ytciooimbhabccaa", sum := "d56a92c9bb5c33489051c6c64872a4b72a93854862e3a40ce729fa043781d57b", checked := Try.checked }
namespace Rows
def none {H : Type} : Left H := { results := [], args := [] }

/-- 'picketlaw22.VoteMids': WHATEVER THE INPUT: true; the input reads as it did. -/
def voteMidsSpec : ChangeSpec := { name := "voteMids", fn := fun _ => fun
  | [d1, d2] => { results := [.lit (.bool true)], args := [d1, d2] }
  | _ => none }
def voteMidsRow : OpenClaim := { program := "ytciooimbhabccaa", sum := "d56a92c9bb5c33489051c6c64872a4b72a93854862e3a40ce729fa043781d57b", func := "picket/picketlaw22.VoteMids", spec := "voteMids", unfollowed := true, recurses := true, apart := false }
def VoteMidsSaid : Prop := voteMidsRow.holds Try.pinned (OpenSpec.ofChange voteMidsSpec)

/-- ITS FALSE NEIGHBOUR: 'it returns false'. Refute it at one input. -/
def voteMidsWrong : ChangeSpec := { name := "voteMids", fn := fun _ => fun
  | [d1, d2] => { results := [.lit (.bool false)], args := [d1, d2] }
  | _ => none }
def VoteMidsWrongFalsely : Prop := voteMidsRow.holds Try.pinned (OpenSpec.ofChange voteMidsWrong)

/-- 'picketlaw22.VoteStale': WHATEVER THE INPUT: true; the input reads as it did. -/
def voteStaleSpec : ChangeSpec := { name := "voteStale", fn := fun _ => fun
  | [d1, d2, d3] => { results := [.lit (.bool true)], args := [d1, d2, d3] }
  | _ => none }
def voteStaleRow : OpenClaim := { program := "ytciooimbhabccaa", sum := "d56a92c9bb5c33489051c6c64872a4b72a93854862e3a40ce729fa043781d57b", func := "picket/picketlaw22.VoteStale", spec := "voteStale", unfollowed := true, recurses := true, apart := false }
def VoteStaleSaid : Prop := voteStaleRow.holds Try.pinned (OpenSpec.ofChange voteStaleSpec)

/-- ITS FALSE NEIGHBOUR: 'it returns false'. Refute it at one input. -/
def voteStaleWrong : ChangeSpec := { name := "voteStale", fn := fun _ => fun
  | [d1, d2, d3] => { results := [.lit (.bool false)], args := [d1, d2, d3] }
  | _ => none }
def VoteStaleWrongFalsely : Prop := voteStaleRow.holds Try.pinned (OpenSpec.ofChange voteStaleWrong)

/-- 'picketlaw22.VoteTurned': WHATEVER THE INPUT: true; the input reads as it did. -/
def voteTurnedSpec : ChangeSpec := { name := "voteTurned", fn := fun _ => fun
  | [d1, d2, d3, d4] => { results := [.lit (.bool true)], args := [d1, d2, d3, d4] }
  | _ => none }
def voteTurnedRow : OpenClaim := { program := "ytciooimbhabccaa", sum := "d56a92c9bb5c33489051c6c64872a4b72a93854862e3a40ce729fa043781d57b", func := "picket/picketlaw22.VoteTurned", spec := "voteTurned", unfollowed := true, recurses := true, apart := false }
def VoteTurnedSaid : Prop := voteTurnedRow.holds Try.pinned (OpenSpec.ofChange voteTurnedSpec)

/-- ITS FALSE NEIGHBOUR: 'it returns false'. Refute it at one input. -/
def voteTurnedWrong : ChangeSpec := { name := "voteTurned", fn := fun _ => fun
  | [d1, d2, d3, d4] => { results := [.lit (.bool false)], args := [d1, d2, d3, d4] }
  | _ => none }
def VoteTurnedWrongFalsely : Prop := voteTurnedRow.holds Try.pinned (OpenSpec.ofChange voteTurnedWrong)

/-- 'picketlaw22.VoteHealthy': WHATEVER THE INPUT: true; the input reads as it did. -/
def voteHealthySpec : ChangeSpec := { name := "voteHealthy", fn := fun _ => fun
  | [d1, d2, d3, d4, d5] => { results := [.lit (.bool true)], args := [d1, d2, d3, d4, d5] }
  | _ => none }
def voteHealthyRow : OpenClaim := { program := "ytciooimbhabccaa", sum := "d56a92c9bb5c33489051c6c64872a4b72a93854862e3a40ce729fa043781d57b", func := "picket/picketlaw22.VoteHealthy", spec := "voteHealthy", unfollowed := true, recurses := true, apart := false }
def VoteHealthySaid : Prop := voteHealthyRow.holds Try.pinned (OpenSpec.ofChange voteHealthySpec)

/-- ITS FALSE NEIGHBOUR: 'it returns false'. Refute it at one input. -/
def voteHealthyWrong : ChangeSpec := { name := "voteHealthy", fn := fun _ => fun
  | [d1, d2, d3, d4, d5] => { results := [.lit (.bool false)], args := [d1, d2, d3, d4, d5] }
  | _ => none }
def VoteHealthyWrongFalsely : Prop := voteHealthyRow.holds Try.pinned (OpenSpec.ofChange voteHealthyWrong)

/-- 'picketlaw22.VotePlays': WHATEVER THE INPUT: true; the input reads as it did. -/
def votePlaysSpec : ChangeSpec := { name := "votePlays", fn := fun _ => fun
  | [d1, d2, d3, d4] => { results := [.lit (.bool true)], args := [d1, d2, d3, d4] }
  | _ => none }
def votePlaysRow : OpenClaim := { program := "ytciooimbhabccaa", sum := "d56a92c9bb5c33489051c6c64872a4b72a93854862e3a40ce729fa043781d57b", func := "picket/picketlaw22.VotePlays", spec := "votePlays", unfollowed := true, recurses := true, apart := false }
def VotePlaysSaid : Prop := votePlaysRow.holds Try.pinned (OpenSpec.ofChange votePlaysSpec)

/-- ITS FALSE NEIGHBOUR: 'it returns false'. Refute it at one input. -/
def votePlaysWrong : ChangeSpec := { name := "votePlays", fn := fun _ => fun
  | [d1, d2, d3, d4] => { results := [.lit (.bool false)], args := [d1, d2, d3, d4] }
  | _ => none }
def VotePlaysWrongFalsely : Prop := votePlaysRow.holds Try.pinned (OpenSpec.ofChange votePlaysWrong)

/-- 'picketlaw22.VoteNone': WHATEVER THE INPUT: true; the input reads as it did. -/
def voteNoneSpec : ChangeSpec := { name := "voteNone", fn := fun _ => fun
  | [d1, d2, d3] => { results := [.lit (.bool true)], args := [d1, d2, d3] }
  | _ => none }
def voteNoneRow : OpenClaim := { program := "ytciooimbhabccaa", sum := "d56a92c9bb5c33489051c6c64872a4b72a93854862e3a40ce729fa043781d57b", func := "picket/picketlaw22.VoteNone", spec := "voteNone", unfollowed := true, recurses := true, apart := false }
def VoteNoneSaid : Prop := voteNoneRow.holds Try.pinned (OpenSpec.ofChange voteNoneSpec)

/-- ITS FALSE NEIGHBOUR: 'it returns false'. Refute it at one input. -/
def voteNoneWrong : ChangeSpec := { name := "voteNone", fn := fun _ => fun
  | [d1, d2, d3] => { results := [.lit (.bool false)], args := [d1, d2, d3] }
  | _ => none }
def VoteNoneWrongFalsely : Prop := voteNoneRow.holds Try.pinned (OpenSpec.ofChange voteNoneWrong)

/-- 'picketlaw22.VoteResets': WHATEVER THE INPUT: true; the input reads as it did. -/
def voteResetsSpec : ChangeSpec := { name := "voteResets", fn := fun _ => fun
  | [d1, d2, d3, d4] => { results := [.lit (.bool true)], args := [d1, d2, d3, d4] }
  | _ => none }
def voteResetsRow : OpenClaim := { program := "ytciooimbhabccaa", sum := "d56a92c9bb5c33489051c6c64872a4b72a93854862e3a40ce729fa043781d57b", func := "picket/picketlaw22.VoteResets", spec := "voteResets", unfollowed := true, recurses := true, apart := false }
def VoteResetsSaid : Prop := voteResetsRow.holds Try.pinned (OpenSpec.ofChange voteResetsSpec)

/-- ITS FALSE NEIGHBOUR: 'it returns false'. Refute it at one input. -/
def voteResetsWrong : ChangeSpec := { name := "voteResets", fn := fun _ => fun
  | [d1, d2, d3, d4] => { results := [.lit (.bool false)], args := [d1, d2, d3, d4] }
  | _ => none }
def VoteResetsWrongFalsely : Prop := voteResetsRow.holds Try.pinned (OpenSpec.ofChange voteResetsWrong)

/- THE SECOND FORM. 'bulk': how many values and letters a reading holds, each counted each time it is reached (what is shared counts as often as it is met; a slice's spare places count too). A statement '..UptoSaid' is the law's where the arguments, and the package variables that the reading takes, are together of bulk at most 1048576: NARROWER than '..Said'. Prove '..Said' where nothing that the law and all that it calls make is longer than what came in: it says more and counts as full. Else prove '..UptoSaid'. A law counts once. -/
mutual
def uptoBulk {H : Type} : DataW H → Nat
  | .lit (.string bytes) => bytes.length + 1
  | .lit _ => 1
  | .nil => 1
  | .ptr d => uptoBulk d + 1
  | .slice elems spare => uptoBulkAll elems + uptoBulkAll spare + 1
  | .agg parts => uptoBulkAll parts + 1
  | .iface _ d => uptoBulk d + 1
  | .map entries => uptoBulkEntries entries + 1
  | .held _ => 1
def uptoBulkAll {H : Type} : List (DataW H) → Nat
  | [] => 0
  | d :: r => uptoBulk d + uptoBulkAll r
def uptoBulkEntries {H : Type} : List (Lit × DataW H) → Nat
  | [] => 0
  | x :: r => uptoBulkEntry x + uptoBulkEntries r
def uptoBulkEntry {H : Type} : Lit × DataW H → Nat
  | (.string bytes, d) => bytes.length + uptoBulk d + 1
  | (_, d) => uptoBulk d + 1
 end
def uptoSmall : (H : Type) → List (DataW H) → Bool := fun _ ds => decide (uptoBulkAll ds ≤ 1048576)
def OpenSpec.upto (s : _root_.Go.ChangeSpec) : _root_.Go.OpenSpec := { _root_.Go.OpenSpec.ofChange s with cond := some uptoSmall }

/-- 'picketlaw22.VoteMids', WHERE WHAT IT READS IS OF BULK AT MOST 1048576: true; the input reads as it did. -/
def voteMidsUptoRow : OpenClaim := { program := "ytciooimbhabccaa", sum := "d56a92c9bb5c33489051c6c64872a4b72a93854862e3a40ce729fa043781d57b", func := "picket/picketlaw22.VoteMids", spec := "voteMids", unfollowed := true, recurses := true, apart := false, narrowed := true }
def VoteMidsUptoSaid : Prop := voteMidsUptoRow.holds Try.pinned (OpenSpec.upto voteMidsSpec)

/-- 'picketlaw22.VoteStale', WHERE WHAT IT READS IS OF BULK AT MOST 1048576: true; the input reads as it did. -/
def voteStaleUptoRow : OpenClaim := { program := "ytciooimbhabccaa", sum := "d56a92c9bb5c33489051c6c64872a4b72a93854862e3a40ce729fa043781d57b", func := "picket/picketlaw22.VoteStale", spec := "voteStale", unfollowed := true, recurses := true, apart := false, narrowed := true }
def VoteStaleUptoSaid : Prop := voteStaleUptoRow.holds Try.pinned (OpenSpec.upto voteStaleSpec)

/-- 'picketlaw22.VoteTurned', WHERE WHAT IT READS IS OF BULK AT MOST 1048576: true; the input reads as it did. -/
def voteTurnedUptoRow : OpenClaim := { program := "ytciooimbhabccaa", sum := "d56a92c9bb5c33489051c6c64872a4b72a93854862e3a40ce729fa043781d57b", func := "picket/picketlaw22.VoteTurned", spec := "voteTurned", unfollowed := true, recurses := true, apart := false, narrowed := true }
def VoteTurnedUptoSaid : Prop := voteTurnedUptoRow.holds Try.pinned (OpenSpec.upto voteTurnedSpec)

/-- 'picketlaw22.VoteHealthy', WHERE WHAT IT READS IS OF BULK AT MOST 1048576: true; the input reads as it did. -/
def voteHealthyUptoRow : OpenClaim := { program := "ytciooimbhabccaa", sum := "d56a92c9bb5c33489051c6c64872a4b72a93854862e3a40ce729fa043781d57b", func := "picket/picketlaw22.VoteHealthy", spec := "voteHealthy", unfollowed := true, recurses := true, apart := false, narrowed := true }
def VoteHealthyUptoSaid : Prop := voteHealthyUptoRow.holds Try.pinned (OpenSpec.upto voteHealthySpec)

/-- 'picketlaw22.VotePlays', WHERE WHAT IT READS IS OF BULK AT MOST 1048576: true; the input reads as it did. -/
def votePlaysUptoRow : OpenClaim := { program := "ytciooimbhabccaa", sum := "d56a92c9bb5c33489051c6c64872a4b72a93854862e3a40ce729fa043781d57b", func := "picket/picketlaw22.VotePlays", spec := "votePlays", unfollowed := true, recurses := true, apart := false, narrowed := true }
def VotePlaysUptoSaid : Prop := votePlaysUptoRow.holds Try.pinned (OpenSpec.upto votePlaysSpec)

/-- 'picketlaw22.VoteNone', WHERE WHAT IT READS IS OF BULK AT MOST 1048576: true; the input reads as it did. -/
def voteNoneUptoRow : OpenClaim := { program := "ytciooimbhabccaa", sum := "d56a92c9bb5c33489051c6c64872a4b72a93854862e3a40ce729fa043781d57b", func := "picket/picketlaw22.VoteNone", spec := "voteNone", unfollowed := true, recurses := true, apart := false, narrowed := true }
def VoteNoneUptoSaid : Prop := voteNoneUptoRow.holds Try.pinned (OpenSpec.upto voteNoneSpec)

/-- 'picketlaw22.VoteResets', WHERE WHAT IT READS IS OF BULK AT MOST 1048576: true; the input reads as it did. -/
def voteResetsUptoRow : OpenClaim := { program := "ytciooimbhabccaa", sum := "d56a92c9bb5c33489051c6c64872a4b72a93854862e3a40ce729fa043781d57b", func := "picket/picketlaw22.VoteResets", spec := "voteResets", unfollowed := true, recurses := true, apart := false, narrowed := true }
def VoteResetsUptoSaid : Prop := voteResetsUptoRow.holds Try.pinned (OpenSpec.upto voteResetsSpec)

end Rows
end Go.Proofs.Ytciooimbhabccaa
