/-
  No cell of these rows narrows 'for every input' (looked for: loops, veiled, ifaces, maps, wideKeys, modest, calm, conditions, laid).
  DERIVED. THE GIVEN ROWS OF THIS SEAT. 20 by the template 'for every input the law returns true; each argument reads behind the call as it read before'; 0 by the template 'total and deterministic' (their statements: YtggjipfdfpdecaaTotals.lean).
  GIVEN WITH THE SEED: the statements are not yours to turn. If you find one false, say at which input.
  Laid BY PROGRAM, IN A SANDBOX (cutbox-rows.mjs): the forced cells as the released guide's own fill.sh prints them over the translation 083322be5ee701e1… (all of the seat's roots in one cut). By AI agents, Wed Nov 11 2026. No macro, syntax, notation, axiom, sorry.
-/
import Derived.Test.YtggjipfdfpdecaaChecked
import GoSem.Claim
import GoSem.ClaimJoined
import GoSem.ClaimMapViews
import Derived.JoinedTies
import Derived.KernelRfl
namespace Go.Proofs.Ytggjipfdfpdecaa
/- THE CELL 'sum', in the pinned program and in every row, IS THE sha256 OF THE DUMP (.gsa) THAT YtggjipfdfpdecaaProg.lean LOADS. Nothing in Lean hashes anything: it is a label: what it is worth is what the hold of that sum in a sandbox is worth. -/
noncomputable def Try.pinned : Pinned := { name := "ytggjipfdfpdecaa", sum := "083322be5ee701e11f95989a9519ed7d647efb192bc5d4f7a0ecd2df06dc0d01", checked := Try.checked }
namespace Rows
def none {H : Type} : Left H := { results := [], args := [] }

/-- 'varvelaw01.NumSums': WHATEVER THE INPUT: true; the input reads as it did. -/
def numSumsSpec : ChangeSpec := { name := "numSums", fn := fun _ => fun
  | [d] => { results := [.lit (.bool true)], args := [d] }
  | _ => none }
def numSumsRow : OpenClaim := { program := "ytggjipfdfpdecaa", sum := "083322be5ee701e11f95989a9519ed7d647efb192bc5d4f7a0ecd2df06dc0d01", func := "varve/varvelaw01.NumSums", spec := "numSums", apart := false }
def NumSumsSaid : Prop := numSumsRow.holds Try.pinned (OpenSpec.ofChange numSumsSpec)

/-- ITS FALSE NEIGHBOUR: 'it returns false'. Refute it at one input. -/
def numSumsWrong : ChangeSpec := { name := "numSums", fn := fun _ => fun
  | [d] => { results := [.lit (.bool false)], args := [d] }
  | _ => none }
def NumSumsWrongFalsely : Prop := numSumsRow.holds Try.pinned (OpenSpec.ofChange numSumsWrong)

/-- 'varvelaw01.NumApart': WHATEVER THE INPUT: true; the input reads as it did. -/
def numApartSpec : ChangeSpec := { name := "numApart", fn := fun _ => fun
  | [d1, d2] => { results := [.lit (.bool true)], args := [d1, d2] }
  | _ => none }
def numApartRow : OpenClaim := { program := "ytggjipfdfpdecaa", sum := "083322be5ee701e11f95989a9519ed7d647efb192bc5d4f7a0ecd2df06dc0d01", func := "varve/varvelaw01.NumApart", spec := "numApart", apart := false }
def NumApartSaid : Prop := numApartRow.holds Try.pinned (OpenSpec.ofChange numApartSpec)

/-- ITS FALSE NEIGHBOUR: 'it returns false'. Refute it at one input. -/
def numApartWrong : ChangeSpec := { name := "numApart", fn := fun _ => fun
  | [d1, d2] => { results := [.lit (.bool false)], args := [d1, d2] }
  | _ => none }
def NumApartWrongFalsely : Prop := numApartRow.holds Try.pinned (OpenSpec.ofChange numApartWrong)

/-- 'varvelaw01.NumPuts': WHATEVER THE INPUT: true; the input reads as it did. -/
def numPutsSpec : ChangeSpec := { name := "numPuts", fn := fun _ => fun
  | [d1, d2, d3] => { results := [.lit (.bool true)], args := [d1, d2, d3] }
  | _ => none }
def numPutsRow : OpenClaim := { program := "ytggjipfdfpdecaa", sum := "083322be5ee701e11f95989a9519ed7d647efb192bc5d4f7a0ecd2df06dc0d01", func := "varve/varvelaw01.NumPuts", spec := "numPuts", apart := false }
def NumPutsSaid : Prop := numPutsRow.holds Try.pinned (OpenSpec.ofChange numPutsSpec)

/-- ITS FALSE NEIGHBOUR: 'it returns false'. Refute it at one input. -/
def numPutsWrong : ChangeSpec := { name := "numPuts", fn := fun _ => fun
  | [d1, d2, d3] => { results := [.lit (.bool false)], args := [d1, d2, d3] }
  | _ => none }
def NumPutsWrongFalsely : Prop := numPutsRow.holds Try.pinned (OpenSpec.ofChange numPutsWrong)

/-- 'varvelaw01.NumTurns': WHATEVER THE INPUT: true; the input reads as it did. -/
def numTurnsSpec : ChangeSpec := { name := "numTurns", fn := fun _ => fun
  | [d1, d2, d3] => { results := [.lit (.bool true)], args := [d1, d2, d3] }
  | _ => none }
def numTurnsRow : OpenClaim := { program := "ytggjipfdfpdecaa", sum := "083322be5ee701e11f95989a9519ed7d647efb192bc5d4f7a0ecd2df06dc0d01", func := "varve/varvelaw01.NumTurns", spec := "numTurns", apart := false }
def NumTurnsSaid : Prop := numTurnsRow.holds Try.pinned (OpenSpec.ofChange numTurnsSpec)

/-- ITS FALSE NEIGHBOUR: 'it returns false'. Refute it at one input. -/
def numTurnsWrong : ChangeSpec := { name := "numTurns", fn := fun _ => fun
  | [d1, d2, d3] => { results := [.lit (.bool false)], args := [d1, d2, d3] }
  | _ => none }
def NumTurnsWrongFalsely : Prop := numTurnsRow.holds Try.pinned (OpenSpec.ofChange numTurnsWrong)

/-- 'varvelaw01.NumOneForm': WHATEVER THE INPUT: true; the input reads as it did. -/
def numOneFormSpec : ChangeSpec := { name := "numOneForm", fn := fun _ => fun
  | [d1, d2] => { results := [.lit (.bool true)], args := [d1, d2] }
  | _ => none }
def numOneFormRow : OpenClaim := { program := "ytggjipfdfpdecaa", sum := "083322be5ee701e11f95989a9519ed7d647efb192bc5d4f7a0ecd2df06dc0d01", func := "varve/varvelaw01.NumOneForm", spec := "numOneForm", apart := false }
def NumOneFormSaid : Prop := numOneFormRow.holds Try.pinned (OpenSpec.ofChange numOneFormSpec)

/-- ITS FALSE NEIGHBOUR: 'it returns false'. Refute it at one input. -/
def numOneFormWrong : ChangeSpec := { name := "numOneForm", fn := fun _ => fun
  | [d1, d2] => { results := [.lit (.bool false)], args := [d1, d2] }
  | _ => none }
def NumOneFormWrongFalsely : Prop := numOneFormRow.holds Try.pinned (OpenSpec.ofChange numOneFormWrong)

/-- 'varvelaw01.NumReads': WHATEVER THE INPUT: true; the input reads as it did. -/
def numReadsSpec : ChangeSpec := { name := "numReads", fn := fun _ => fun
  | [d1, d2, d3] => { results := [.lit (.bool true)], args := [d1, d2, d3] }
  | _ => none }
def numReadsRow : OpenClaim := { program := "ytggjipfdfpdecaa", sum := "083322be5ee701e11f95989a9519ed7d647efb192bc5d4f7a0ecd2df06dc0d01", func := "varve/varvelaw01.NumReads", spec := "numReads", apart := false }
def NumReadsSaid : Prop := numReadsRow.holds Try.pinned (OpenSpec.ofChange numReadsSpec)

/-- ITS FALSE NEIGHBOUR: 'it returns false'. Refute it at one input. -/
def numReadsWrong : ChangeSpec := { name := "numReads", fn := fun _ => fun
  | [d1, d2, d3] => { results := [.lit (.bool false)], args := [d1, d2, d3] }
  | _ => none }
def NumReadsWrongFalsely : Prop := numReadsRow.holds Try.pinned (OpenSpec.ofChange numReadsWrong)

/-- 'varvelaw01.NumBack': WHATEVER THE INPUT: true; the input reads as it did. -/
def numBackSpec : ChangeSpec := { name := "numBack", fn := fun _ => fun
  | [d1, d2, d3, d4] => { results := [.lit (.bool true)], args := [d1, d2, d3, d4] }
  | _ => none }
def numBackRow : OpenClaim := { program := "ytggjipfdfpdecaa", sum := "083322be5ee701e11f95989a9519ed7d647efb192bc5d4f7a0ecd2df06dc0d01", func := "varve/varvelaw01.NumBack", spec := "numBack", apart := false }
def NumBackSaid : Prop := numBackRow.holds Try.pinned (OpenSpec.ofChange numBackSpec)

/-- ITS FALSE NEIGHBOUR: 'it returns false'. Refute it at one input. -/
def numBackWrong : ChangeSpec := { name := "numBack", fn := fun _ => fun
  | [d1, d2, d3, d4] => { results := [.lit (.bool false)], args := [d1, d2, d3, d4] }
  | _ => none }
def NumBackWrongFalsely : Prop := numBackRow.holds Try.pinned (OpenSpec.ofChange numBackWrong)

/-- 'varvelaw04.FramePuts': WHATEVER THE INPUT: true; the input reads as it did. -/
def framePutsSpec : ChangeSpec := { name := "framePuts", fn := fun _ => fun
  | [d1, d2, d3] => { results := [.lit (.bool true)], args := [d1, d2, d3] }
  | _ => none }
def framePutsRow : OpenClaim := { program := "ytggjipfdfpdecaa", sum := "083322be5ee701e11f95989a9519ed7d647efb192bc5d4f7a0ecd2df06dc0d01", func := "varve/varvelaw04.FramePuts", spec := "framePuts", unfollowed := true, recurses := true, apart := false }
def FramePutsSaid : Prop := framePutsRow.holds Try.pinned (OpenSpec.ofChange framePutsSpec)

/-- ITS FALSE NEIGHBOUR: 'it returns false'. Refute it at one input. -/
def framePutsWrong : ChangeSpec := { name := "framePuts", fn := fun _ => fun
  | [d1, d2, d3] => { results := [.lit (.bool false)], args := [d1, d2, d3] }
  | _ => none }
def FramePutsWrongFalsely : Prop := framePutsRow.holds Try.pinned (OpenSpec.ofChange framePutsWrong)

/-- 'varvelaw04.FrameTakes': WHATEVER THE INPUT: true; the input reads as it did. -/
def frameTakesSpec : ChangeSpec := { name := "frameTakes", fn := fun _ => fun
  | [d1, d2] => { results := [.lit (.bool true)], args := [d1, d2] }
  | _ => none }
def frameTakesRow : OpenClaim := { program := "ytggjipfdfpdecaa", sum := "083322be5ee701e11f95989a9519ed7d647efb192bc5d4f7a0ecd2df06dc0d01", func := "varve/varvelaw04.FrameTakes", spec := "frameTakes", unfollowed := true, recurses := true, apart := false }
def FrameTakesSaid : Prop := frameTakesRow.holds Try.pinned (OpenSpec.ofChange frameTakesSpec)

/-- ITS FALSE NEIGHBOUR: 'it returns false'. Refute it at one input. -/
def frameTakesWrong : ChangeSpec := { name := "frameTakes", fn := fun _ => fun
  | [d1, d2] => { results := [.lit (.bool false)], args := [d1, d2] }
  | _ => none }
def FrameTakesWrongFalsely : Prop := frameTakesRow.holds Try.pinned (OpenSpec.ofChange frameTakesWrong)

/-- 'varvelaw04.FrameAlls': WHATEVER THE INPUT: true; the input reads as it did. -/
def frameAllsSpec : ChangeSpec := { name := "frameAlls", fn := fun _ => fun
  | [d1, d2] => { results := [.lit (.bool true)], args := [d1, d2] }
  | _ => none }
def frameAllsRow : OpenClaim := { program := "ytggjipfdfpdecaa", sum := "083322be5ee701e11f95989a9519ed7d647efb192bc5d4f7a0ecd2df06dc0d01", func := "varve/varvelaw04.FrameAlls", spec := "frameAlls", unfollowed := true, recurses := true, apart := false }
def FrameAllsSaid : Prop := frameAllsRow.holds Try.pinned (OpenSpec.ofChange frameAllsSpec)

/-- ITS FALSE NEIGHBOUR: 'it returns false'. Refute it at one input. -/
def frameAllsWrong : ChangeSpec := { name := "frameAlls", fn := fun _ => fun
  | [d1, d2] => { results := [.lit (.bool false)], args := [d1, d2] }
  | _ => none }
def FrameAllsWrongFalsely : Prop := frameAllsRow.holds Try.pinned (OpenSpec.ofChange frameAllsWrong)

/-- 'varvelaw04.FrameCrashes': WHATEVER THE INPUT: true; the input reads as it did. -/
def frameCrashesSpec : ChangeSpec := { name := "frameCrashes", fn := fun _ => fun
  | [d1, d2, d3, d4] => { results := [.lit (.bool true)], args := [d1, d2, d3, d4] }
  | _ => none }
def frameCrashesRow : OpenClaim := { program := "ytggjipfdfpdecaa", sum := "083322be5ee701e11f95989a9519ed7d647efb192bc5d4f7a0ecd2df06dc0d01", func := "varve/varvelaw04.FrameCrashes", spec := "frameCrashes", unfollowed := true, recurses := true, apart := false }
def FrameCrashesSaid : Prop := frameCrashesRow.holds Try.pinned (OpenSpec.ofChange frameCrashesSpec)

/-- ITS FALSE NEIGHBOUR: 'it returns false'. Refute it at one input. -/
def frameCrashesWrong : ChangeSpec := { name := "frameCrashes", fn := fun _ => fun
  | [d1, d2, d3, d4] => { results := [.lit (.bool false)], args := [d1, d2, d3, d4] }
  | _ => none }
def FrameCrashesWrongFalsely : Prop := frameCrashesRow.holds Try.pinned (OpenSpec.ofChange frameCrashesWrong)

/-- 'varvelaw04.FramePokes': WHATEVER THE INPUT: true; the input reads as it did. -/
def framePokesSpec : ChangeSpec := { name := "framePokes", fn := fun _ => fun
  | [d1, d2, d3, d4] => { results := [.lit (.bool true)], args := [d1, d2, d3, d4] }
  | _ => none }
def framePokesRow : OpenClaim := { program := "ytggjipfdfpdecaa", sum := "083322be5ee701e11f95989a9519ed7d647efb192bc5d4f7a0ecd2df06dc0d01", func := "varve/varvelaw04.FramePokes", spec := "framePokes", unfollowed := true, recurses := true, apart := false }
def FramePokesSaid : Prop := framePokesRow.holds Try.pinned (OpenSpec.ofChange framePokesSpec)

/-- ITS FALSE NEIGHBOUR: 'it returns false'. Refute it at one input. -/
def framePokesWrong : ChangeSpec := { name := "framePokes", fn := fun _ => fun
  | [d1, d2, d3, d4] => { results := [.lit (.bool false)], args := [d1, d2, d3, d4] }
  | _ => none }
def FramePokesWrongFalsely : Prop := framePokesRow.holds Try.pinned (OpenSpec.ofChange framePokesWrong)

/-- 'varvelaw04.FrameBack': WHATEVER THE INPUT: true; the input reads as it did. -/
def frameBackSpec : ChangeSpec := { name := "frameBack", fn := fun _ => fun
  | [d1, d2, d3] => { results := [.lit (.bool true)], args := [d1, d2, d3] }
  | _ => none }
def frameBackRow : OpenClaim := { program := "ytggjipfdfpdecaa", sum := "083322be5ee701e11f95989a9519ed7d647efb192bc5d4f7a0ecd2df06dc0d01", func := "varve/varvelaw04.FrameBack", spec := "frameBack", unfollowed := true, recurses := true, apart := false }
def FrameBackSaid : Prop := frameBackRow.holds Try.pinned (OpenSpec.ofChange frameBackSpec)

/-- ITS FALSE NEIGHBOUR: 'it returns false'. Refute it at one input. -/
def frameBackWrong : ChangeSpec := { name := "frameBack", fn := fun _ => fun
  | [d1, d2, d3] => { results := [.lit (.bool false)], args := [d1, d2, d3] }
  | _ => none }
def FrameBackWrongFalsely : Prop := frameBackRow.holds Try.pinned (OpenSpec.ofChange frameBackWrong)

/-- 'varvelaw06.RecordTexts': WHATEVER THE INPUT: true; the input reads as it did. -/
def recordTextsSpec : ChangeSpec := { name := "recordTexts", fn := fun _ => fun
  | [d] => { results := [.lit (.bool true)], args := [d] }
  | _ => none }
def recordTextsRow : OpenClaim := { program := "ytggjipfdfpdecaa", sum := "083322be5ee701e11f95989a9519ed7d647efb192bc5d4f7a0ecd2df06dc0d01", func := "varve/varvelaw06.RecordTexts", spec := "recordTexts", unfollowed := true, recurses := true, apart := false }
def RecordTextsSaid : Prop := recordTextsRow.holds Try.pinned (OpenSpec.ofChange recordTextsSpec)

/-- ITS FALSE NEIGHBOUR: 'it returns false'. Refute it at one input. -/
def recordTextsWrong : ChangeSpec := { name := "recordTexts", fn := fun _ => fun
  | [d] => { results := [.lit (.bool false)], args := [d] }
  | _ => none }
def RecordTextsWrongFalsely : Prop := recordTextsRow.holds Try.pinned (OpenSpec.ofChange recordTextsWrong)

/-- 'varvelaw06.RecordCommits': WHATEVER THE INPUT: true; the input reads as it did. -/
def recordCommitsSpec : ChangeSpec := { name := "recordCommits", fn := fun _ => fun
  | [d] => { results := [.lit (.bool true)], args := [d] }
  | _ => none }
def recordCommitsRow : OpenClaim := { program := "ytggjipfdfpdecaa", sum := "083322be5ee701e11f95989a9519ed7d647efb192bc5d4f7a0ecd2df06dc0d01", func := "varve/varvelaw06.RecordCommits", spec := "recordCommits", unfollowed := true, recurses := true, apart := false }
def RecordCommitsSaid : Prop := recordCommitsRow.holds Try.pinned (OpenSpec.ofChange recordCommitsSpec)

/-- ITS FALSE NEIGHBOUR: 'it returns false'. Refute it at one input. -/
def recordCommitsWrong : ChangeSpec := { name := "recordCommits", fn := fun _ => fun
  | [d] => { results := [.lit (.bool false)], args := [d] }
  | _ => none }
def RecordCommitsWrongFalsely : Prop := recordCommitsRow.holds Try.pinned (OpenSpec.ofChange recordCommitsWrong)

/-- 'varvelaw06.RecordReads': WHATEVER THE INPUT: true; the input reads as it did. -/
def recordReadsSpec : ChangeSpec := { name := "recordReads", fn := fun _ => fun
  | [d] => { results := [.lit (.bool true)], args := [d] }
  | _ => none }
def recordReadsRow : OpenClaim := { program := "ytggjipfdfpdecaa", sum := "083322be5ee701e11f95989a9519ed7d647efb192bc5d4f7a0ecd2df06dc0d01", func := "varve/varvelaw06.RecordReads", spec := "recordReads", unfollowed := true, recurses := true, apart := false }
def RecordReadsSaid : Prop := recordReadsRow.holds Try.pinned (OpenSpec.ofChange recordReadsSpec)

/-- ITS FALSE NEIGHBOUR: 'it returns false'. Refute it at one input. -/
def recordReadsWrong : ChangeSpec := { name := "recordReads", fn := fun _ => fun
  | [d] => { results := [.lit (.bool false)], args := [d] }
  | _ => none }
def RecordReadsWrongFalsely : Prop := recordReadsRow.holds Try.pinned (OpenSpec.ofChange recordReadsWrong)

/-- 'varvelaw06.RecordManifests': WHATEVER THE INPUT: true; the input reads as it did. -/
def recordManifestsSpec : ChangeSpec := { name := "recordManifests", fn := fun _ => fun
  | [d] => { results := [.lit (.bool true)], args := [d] }
  | _ => none }
def recordManifestsRow : OpenClaim := { program := "ytggjipfdfpdecaa", sum := "083322be5ee701e11f95989a9519ed7d647efb192bc5d4f7a0ecd2df06dc0d01", func := "varve/varvelaw06.RecordManifests", spec := "recordManifests", unfollowed := true, recurses := true, apart := false }
def RecordManifestsSaid : Prop := recordManifestsRow.holds Try.pinned (OpenSpec.ofChange recordManifestsSpec)

/-- ITS FALSE NEIGHBOUR: 'it returns false'. Refute it at one input. -/
def recordManifestsWrong : ChangeSpec := { name := "recordManifests", fn := fun _ => fun
  | [d] => { results := [.lit (.bool false)], args := [d] }
  | _ => none }
def RecordManifestsWrongFalsely : Prop := recordManifestsRow.holds Try.pinned (OpenSpec.ofChange recordManifestsWrong)

/-- 'varvelaw06.RecordRows': WHATEVER THE INPUT: true; the input reads as it did. -/
def recordRowsSpec : ChangeSpec := { name := "recordRows", fn := fun _ => fun
  | [d] => { results := [.lit (.bool true)], args := [d] }
  | _ => none }
def recordRowsRow : OpenClaim := { program := "ytggjipfdfpdecaa", sum := "083322be5ee701e11f95989a9519ed7d647efb192bc5d4f7a0ecd2df06dc0d01", func := "varve/varvelaw06.RecordRows", spec := "recordRows", unfollowed := true, recurses := true, apart := false }
def RecordRowsSaid : Prop := recordRowsRow.holds Try.pinned (OpenSpec.ofChange recordRowsSpec)

/-- ITS FALSE NEIGHBOUR: 'it returns false'. Refute it at one input. -/
def recordRowsWrong : ChangeSpec := { name := "recordRows", fn := fun _ => fun
  | [d] => { results := [.lit (.bool false)], args := [d] }
  | _ => none }
def RecordRowsWrongFalsely : Prop := recordRowsRow.holds Try.pinned (OpenSpec.ofChange recordRowsWrong)

/-- 'varvelaw06.RecordBack': WHATEVER THE INPUT: true; the input reads as it did. -/
def recordBackSpec : ChangeSpec := { name := "recordBack", fn := fun _ => fun
  | [d1, d2, d3, d4] => { results := [.lit (.bool true)], args := [d1, d2, d3, d4] }
  | _ => none }
def recordBackRow : OpenClaim := { program := "ytggjipfdfpdecaa", sum := "083322be5ee701e11f95989a9519ed7d647efb192bc5d4f7a0ecd2df06dc0d01", func := "varve/varvelaw06.RecordBack", spec := "recordBack", unfollowed := true, recurses := true, apart := false }
def RecordBackSaid : Prop := recordBackRow.holds Try.pinned (OpenSpec.ofChange recordBackSpec)

/-- ITS FALSE NEIGHBOUR: 'it returns false'. Refute it at one input. -/
def recordBackWrong : ChangeSpec := { name := "recordBack", fn := fun _ => fun
  | [d1, d2, d3, d4] => { results := [.lit (.bool false)], args := [d1, d2, d3, d4] }
  | _ => none }
def RecordBackWrongFalsely : Prop := recordBackRow.holds Try.pinned (OpenSpec.ofChange recordBackWrong)

/-- 'varvelaw06.RecordOne': WHATEVER THE INPUT: true; the input reads as it did. -/
def recordOneSpec : ChangeSpec := { name := "recordOne", fn := fun _ => fun
  | [d] => { results := [.lit (.bool true)], args := [d] }
  | _ => none }
def recordOneRow : OpenClaim := { program := "ytggjipfdfpdecaa", sum := "083322be5ee701e11f95989a9519ed7d647efb192bc5d4f7a0ecd2df06dc0d01", func := "varve/varvelaw06.RecordOne", spec := "recordOne", unfollowed := true, recurses := true, apart := false }
def RecordOneSaid : Prop := recordOneRow.holds Try.pinned (OpenSpec.ofChange recordOneSpec)

/-- ITS FALSE NEIGHBOUR: 'it returns false'. Refute it at one input. -/
def recordOneWrong : ChangeSpec := { name := "recordOne", fn := fun _ => fun
  | [d] => { results := [.lit (.bool false)], args := [d] }
  | _ => none }
def RecordOneWrongFalsely : Prop := recordOneRow.holds Try.pinned (OpenSpec.ofChange recordOneWrong)

/- THE SECOND FORM. 'bulk': how many values and letters a reading holds, each counted each time it is reached (what is shared counts as often as it is met; a slice's spare places count too). A statement '..UptoSaid' is the law's where the arguments, and the package variables that the reading takes, are together of bulk at most 1048576: NARROWER than '..Said'. Prove '..Said' where nothing that the law and all that it calls make is longer than what came in: it says more and counts as full. Else prove '..UptoSaid'. A law counts once. -/
mutual
def uptoBulk {H : Type} : DataW H → Nat
  | .lit (.string bytes) => bytes.length + 1
  | .lit _ => 1
  | .nil => 1
  | .ptr d => uptoBulk d + 1
  | .slice elems spare => uptoBulkAll elems + uptoBulkAll spare + 1
  | .agg parts => uptoBulkAll parts + 1
  | .iface _ d => uptoBulk d + 1
  | .map entries => uptoBulkEntries entries + 1
  | .held _ => 1
def uptoBulkAll {H : Type} : List (DataW H) → Nat
  | [] => 0
  | d :: r => uptoBulk d + uptoBulkAll r
def uptoBulkEntries {H : Type} : List (Lit × DataW H) → Nat
  | [] => 0
  | x :: r => uptoBulkEntry x + uptoBulkEntries r
def uptoBulkEntry {H : Type} : Lit × DataW H → Nat
  | (.string bytes, d) => bytes.length + uptoBulk d + 1
  | (_, d) => uptoBulk d + 1
 end
def uptoSmall : (H : Type) → List (DataW H) → Bool := fun _ ds => decide (uptoBulkAll ds ≤ 1048576)
def OpenSpec.upto (s : _root_.Go.ChangeSpec) : _root_.Go.OpenSpec := { _root_.Go.OpenSpec.ofChange s with cond := some uptoSmall }

/-- 'varvelaw01.NumSums', WHERE WHAT IT READS IS OF BULK AT MOST 1048576: true; the input reads as it did. -/
def numSumsUptoRow : OpenClaim := { program := "ytggjipfdfpdecaa", sum := "083322be5ee701e11f95989a9519ed7d647efb192bc5d4f7a0ecd2df06dc0d01", func := "varve/varvelaw01.NumSums", spec := "numSums", apart := false, narrowed := true }
def NumSumsUptoSaid : Prop := numSumsUptoRow.holds Try.pinned (OpenSpec.upto numSumsSpec)

/-- 'varvelaw01.NumApart', WHERE WHAT IT READS IS OF BULK AT MOST 1048576: true; the input reads as it did. -/
def numApartUptoRow : OpenClaim := { program := "ytggjipfdfpdecaa", sum := "083322be5ee701e11f95989a9519ed7d647efb192bc5d4f7a0ecd2df06dc0d01", func := "varve/varvelaw01.NumApart", spec := "numApart", apart := false, narrowed := true }
def NumApartUptoSaid : Prop := numApartUptoRow.holds Try.pinned (OpenSpec.upto numApartSpec)

/-- 'varvelaw01.NumPuts', WHERE WHAT IT READS IS OF BULK AT MOST 1048576: true; the input reads as it did. -/
def numPutsUptoRow : OpenClaim := { program := "ytggjipfdfpdecaa", sum := "083322be5ee701e11f95989a9519ed7d647efb192bc5d4f7a0ecd2df06dc0d01", func := "varve/varvelaw01.NumPuts", spec := "numPuts", apart := false, narrowed := true }
def NumPutsUptoSaid : Prop := numPutsUptoRow.holds Try.pinned (OpenSpec.upto numPutsSpec)

/-- 'varvelaw01.NumTurns', WHERE WHAT IT READS IS OF BULK AT MOST 1048576: true; the input reads as it did. -/
def numTurnsUptoRow : OpenClaim := { program := "ytggjipfdfpdecaa", sum := "083322be5ee701e11f95989a9519ed7d647efb192bc5d4f7a0ecd2df06dc0d01", func := "varve/varvelaw01.NumTurns", spec := "numTurns", apart := false, narrowed := true }
def NumTurnsUptoSaid : Prop := numTurnsUptoRow.holds Try.pinned (OpenSpec.upto numTurnsSpec)

/-- 'varvelaw01.NumOneForm', WHERE WHAT IT READS IS OF BULK AT MOST 1048576: true; the input reads as it did. -/
def numOneFormUptoRow : OpenClaim := { program := "ytggjipfdfpdecaa", sum := "083322be5ee701e11f95989a9519ed7d647efb192bc5d4f7a0ecd2df06dc0d01", func := "varve/varvelaw01.NumOneForm", spec := "numOneForm", apart := false, narrowed := true }
def NumOneFormUptoSaid : Prop := numOneFormUptoRow.holds Try.pinned (OpenSpec.upto numOneFormSpec)

/-- 'varvelaw01.NumReads', WHERE WHAT IT READS IS OF BULK AT MOST 1048576: true; the input reads as it did. -/
def numReadsUptoRow : OpenClaim := { program := "ytggjipfdfpdecaa", sum := "083322be5ee701e11f95989a9519ed7d647efb192bc5d4f7a0ecd2df06dc0d01", func := "varve/varvelaw01.NumReads", spec := "numReads", apart := false, narrowed := true }
def NumReadsUptoSaid : Prop := numReadsUptoRow.holds Try.pinned (OpenSpec.upto numReadsSpec)

/-- 'varvelaw01.NumBack', WHERE WHAT IT READS IS OF BULK AT MOST 1048576: true; the input reads as it did. -/
def numBackUptoRow : OpenClaim := { program := "ytggjipfdfpdecaa", sum := "083322be5ee701e11f95989a9519ed7d647efb192bc5d4f7a0ecd2df06dc0d01", func := "varve/varvelaw01.NumBack", spec := "numBack", apart := false, narrowed := true }
def NumBackUptoSaid : Prop := numBackUptoRow.holds Try.pinned (OpenSpec.upto numBackSpec)

/-- 'varvelaw04.FramePuts', WHERE WHAT IT READS IS OF BULK AT MOST 1048576: true; the input reads as it did. -/
def framePutsUptoRow : OpenClaim := { program := "ytggjipfdfpdecaa", sum := "083322be5ee701e11f95989a9519ed7d647efb192bc5d4f7a0ecd2df06dc0d01", func := "varve/varvelaw04.FramePuts", spec := "framePuts", unfollowed := true, recurses := true, apart := false, narrowed := true }
def FramePutsUptoSaid : Prop := framePutsUptoRow.holds Try.pinned (OpenSpec.upto framePutsSpec)

/-- 'varvelaw04.FrameTakes', WHERE WHAT IT READS IS OF BULK AT MOST 1048576: true; the input reads as it did. -/
def frameTakesUptoRow : OpenClaim := { program := "ytggjipfdfpdecaa", sum := "083322be5ee701e11f95989a9519ed7d647efb192bc5d4f7a0ecd2df06dc0d01", func := "varve/varvelaw04.FrameTakes", spec := "frameTakes", unfollowed := true, recurses := true, apart := false, narrowed := true }
def FrameTakesUptoSaid : Prop := frameTakesUptoRow.holds Try.pinned (OpenSpec.upto frameTakesSpec)

/-- 'varvelaw04.FrameAlls', WHERE WHAT IT READS IS OF BULK AT MOST 1048576: true; the input reads as it did. -/
def frameAllsUptoRow : OpenClaim := { program := "ytggjipfdfpdecaa", sum := "083322be5ee701e11f95989a9519ed7d647efb192bc5d4f7a0ecd2df06dc0d01", func := "varve/varvelaw04.FrameAlls", spec := "frameAlls", unfollowed := true, recurses := true, apart := false, narrowed := true }
def FrameAllsUptoSaid : Prop := frameAllsUptoRow.holds Try.pinned (OpenSpec.upto frameAllsSpec)

/-- 'varvelaw04.FrameCrashes', WHERE WHAT IT READS IS OF BULK AT MOST 1048576: true; the input reads as it did. -/
def frameCrashesUptoRow : OpenClaim := { program := "ytggjipfdfpdecaa", sum := "083322be5ee701e11f95989a9519ed7d647efb192bc5d4f7a0ecd2df06dc0d01", func := "varve/varvelaw04.FrameCrashes", spec := "frameCrashes", unfollowed := true, recurses := true, apart := false, narrowed := true }
def FrameCrashesUptoSaid : Prop := frameCrashesUptoRow.holds Try.pinned (OpenSpec.upto frameCrashesSpec)

/-- 'varvelaw04.FramePokes', WHERE WHAT IT READS IS OF BULK AT MOST 1048576: true; the input reads as it did. -/
def framePokesUptoRow : OpenClaim := { program := "ytggjipfdfpdecaa", sum := "083322be5ee701e11f95989a9519ed7d647efb192bc5d4f7a0ecd2df06dc0d01", func := "varve/varvelaw04.FramePokes", spec := "framePokes", unfollowed := true, recurses := true, apart := false, narrowed := true }
def FramePokesUptoSaid : Prop := framePokesUptoRow.holds Try.pinned (OpenSpec.upto framePokesSpec)

/-- 'varvelaw04.FrameBack', WHERE WHAT IT READS IS OF BULK AT MOST 1048576: true; the input reads as it did. -/
def frameBackUptoRow : OpenClaim := { program := "ytggjipfdfpdecaa", sum := "083322be5ee701e11f95989a9519ed7d647efb192bc5d4f7a0ecd2df06dc0d01", func := "varve/varvelaw04.FrameBack", spec := "frameBack", unfollowed := true, recurses := true, apart := false, narrowed := true }
def FrameBackUptoSaid : Prop := frameBackUptoRow.holds Try.pinned (OpenSpec.upto frameBackSpec)

/-- 'varvelaw06.RecordTexts', WHERE WHAT IT READS IS OF BULK AT MOST 1048576: true; the input reads as it did. -/
def recordTextsUptoRow : OpenClaim := { program := "ytggjipfdfpdecaa", sum := "083322be5ee701e11f95989a9519ed7d647efb192bc5d4f7a0ecd2df06dc0d01", func := "varve/varvelaw06.RecordTexts", spec := "recordTexts", unfollowed := true, recurses := true, apart := false, narrowed := true }
def RecordTextsUptoSaid : Prop := recordTextsUptoRow.holds Try.pinned (OpenSpec.upto recordTextsSpec)

/-- 'varvelaw06.RecordCommits', WHERE WHAT IT READS IS OF BULK AT MOST 1048576: true; the input reads as it did. -/
def recordCommitsUptoRow : OpenClaim := { program := "ytggjipfdfpdecaa", sum := "083322be5ee701e11f95989a9519ed7d647efb192bc5d4f7a0ecd2df06dc0d01", func := "varve/varvelaw06.RecordCommits", spec := "recordCommits", unfollowed := true, recurses := true, apart := false, narrowed := true }
def RecordCommitsUptoSaid : Prop := recordCommitsUptoRow.holds Try.pinned (OpenSpec.upto recordCommitsSpec)

/-- 'varvelaw06.RecordReads', WHERE WHAT IT READS IS OF BULK AT MOST 1048576: true; the input reads as it did. -/
def recordReadsUptoRow : OpenClaim := { program := "ytggjipfdfpdecaa", sum := "083322be5ee701e11f95989a9519ed7d647efb192bc5d4f7a0ecd2df06dc0d01", func := "varve/varvelaw06.RecordReads", spec := "recordReads", unfollowed := true, recurses := true, apart := false, narrowed := true }
def RecordReadsUptoSaid : Prop := recordReadsUptoRow.holds Try.pinned (OpenSpec.upto recordReadsSpec)

/-- 'varvelaw06.RecordManifests', WHERE WHAT IT READS IS OF BULK AT MOST 1048576: true; the input reads as it did. -/
def recordManifestsUptoRow : OpenClaim := { program := "ytggjipfdfpdecaa", sum := "083322be5ee701e11f95989a9519ed7d647efb192bc5d4f7a0ecd2df06dc0d01", func := "varve/varvelaw06.RecordManifests", spec := "recordManifests", unfollowed := true, recurses := true, apart := false, narrowed := true }
def RecordManifestsUptoSaid : Prop := recordManifestsUptoRow.holds Try.pinned (OpenSpec.upto recordManifestsSpec)

/-- 'varvelaw06.RecordRows', WHERE WHAT IT READS IS OF BULK AT MOST 1048576: true; the input reads as it did. -/
def recordRowsUptoRow : OpenClaim := { program := "ytggjipfdfpdecaa", sum := "083322be5ee701e11f95989a9519ed7d647efb192bc5d4f7a0ecd2df06dc0d01", func := "varve/varvelaw06.RecordRows", spec := "recordRows", unfollowed := true, recurses := true, apart := false, narrowed := true }
def RecordRowsUptoSaid : Prop := recordRowsUptoRow.holds Try.pinned (OpenSpec.upto recordRowsSpec)

/-- 'varvelaw06.RecordBack', WHERE WHAT IT READS IS OF BULK AT MOST 1048576: true; the input reads as it did. -/
def recordBackUptoRow : OpenClaim := { program := "ytggjipfdfpdecaa", sum := "083322be5ee701e11f95989a9519ed7d647efb192bc5d4f7a0ecd2df06dc0d01", func := "varve/varvelaw06.RecordBack", spec := "recordBack", unfollowed := true, recurses := true, apart := false, narrowed := true }
def RecordBackUptoSaid : Prop := recordBackUptoRow.holds Try.pinned (OpenSpec.upto recordBackSpec)

/-- 'varvelaw06.RecordOne', WHERE WHAT IT READS IS OF BULK AT MOST 1048576: true; the input reads as it did. -/
def recordOneUptoRow : OpenClaim := { program := "ytggjipfdfpdecaa", sum := "083322be5ee701e11f95989a9519ed7d647efb192bc5d4f7a0ecd2df06dc0d01", func := "varve/varvelaw06.RecordOne", spec := "recordOne", unfollowed := true, recurses := true, apart := false, narrowed := true }
def RecordOneUptoSaid : Prop := recordOneUptoRow.holds Try.pinned (OpenSpec.upto recordOneSpec)

end Rows
end Go.Proofs.Ytggjipfdfpdecaa
