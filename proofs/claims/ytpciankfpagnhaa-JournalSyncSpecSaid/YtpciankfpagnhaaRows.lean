/-
  No cell of these rows narrows 'for every input' (looked for: loops, veiled, ifaces, maps, wideKeys, modest, calm, conditions, laid).
  DERIVED. THE GIVEN ROWS OF THIS SEAT. 14 by the template 'for every input the law returns true; each argument reads behind the call as it read before'; 0 by the template 'total and deterministic' (their statements: YtpciankfpagnhaaTotals.lean).
  GIVEN WITH THE SEED: the statements are not yours to turn. If you find one false, say at which input.
  Laid BY PROGRAM, IN A SANDBOX (cutbox-rows.mjs): the forced cells as the released guide's own fill.sh prints them over the translation 30703f4067eb5de7… (all of the seat's roots in one cut). By AI agents, Wed Nov 11 2026. No macro, syntax, notation, axiom, sorry.
-/
import Derived.Test.YtpciankfpagnhaaChecked
import GoSem.Claim
import GoSem.ClaimJoined
import GoSem.ClaimMapViews
import Derived.JoinedTies
import Derived.KernelRfl
namespace Go.Proofs.Ytpciankfpagnhaa
/- THE CELL 'sum', in the pinned program and in every row, IS THE sha256 OF THE DUMP (.gsa) THAT YtpciankfpagnhaaProg.lean LOADS. Nothing in Lean hashes anything: it is a label: what it is worth is what the hold of that sum in a sandbox is worth. -/
noncomputable def Try.pinned : Pinned := { name := "ytpciankfpagnhaa", sum := "30703f4067eb5de780549890c39f261b1b461c1cd006d59586c0438ff0541b5c", checked := Try.checked }
namespace Rows
def none {H : Type} : Left H := { results := [], args := [] }

/-- 'chartroomlaw41.DiskNewSpec': WHATEVER THE INPUT: true; the input reads as it did. -/
def diskNewSpecSpec : ChangeSpec := { name := "diskNewSpec", fn := fun _ => fun
  | [d1, d2] => { results := [.lit (.bool true)], args := [d1, d2] }
  | _ => none }
def diskNewSpecRow : OpenClaim := { program := "ytpciankfpagnhaa", sum := "30703f4067eb5de780549890c39f261b1b461c1cd006d59586c0438ff0541b5c", func := "chartroom/chartroomlaw41.DiskNewSpec", spec := "diskNewSpec", unfollowed := true, recurses := true, apart := false }
def DiskNewSpecSaid : Prop := diskNewSpecRow.holds Try.pinned (OpenSpec.ofChange diskNewSpecSpec)

/-- ITS FALSE NEIGHBOUR: 'it returns false'. Refute it at one input. -/
def diskNewSpecWrong : ChangeSpec := { name := "diskNewSpec", fn := fun _ => fun
  | [d1, d2] => { results := [.lit (.bool false)], args := [d1, d2] }
  | _ => none }
def DiskNewSpecWrongFalsely : Prop := diskNewSpecRow.holds Try.pinned (OpenSpec.ofChange diskNewSpecWrong)

/-- 'chartroomlaw41.DiskWriteSpec': WHATEVER THE INPUT: true; the input reads as it did. -/
def diskWriteSpecSpec : ChangeSpec := { name := "diskWriteSpec", fn := fun _ => fun
  | [d1, d2, d3] => { results := [.lit (.bool true)], args := [d1, d2, d3] }
  | _ => none }
def diskWriteSpecRow : OpenClaim := { program := "ytpciankfpagnhaa", sum := "30703f4067eb5de780549890c39f261b1b461c1cd006d59586c0438ff0541b5c", func := "chartroom/chartroomlaw41.DiskWriteSpec", spec := "diskWriteSpec", unfollowed := true, recurses := true, apart := false }
def DiskWriteSpecSaid : Prop := diskWriteSpecRow.holds Try.pinned (OpenSpec.ofChange diskWriteSpecSpec)

/-- ITS FALSE NEIGHBOUR: 'it returns false'. Refute it at one input. -/
def diskWriteSpecWrong : ChangeSpec := { name := "diskWriteSpec", fn := fun _ => fun
  | [d1, d2, d3] => { results := [.lit (.bool false)], args := [d1, d2, d3] }
  | _ => none }
def DiskWriteSpecWrongFalsely : Prop := diskWriteSpecRow.holds Try.pinned (OpenSpec.ofChange diskWriteSpecWrong)

/-- 'chartroomlaw41.DiskSyncSpec': WHATEVER THE INPUT: true; the input reads as it did. -/
def diskSyncSpecSpec : ChangeSpec := { name := "diskSyncSpec", fn := fun _ => fun
  | [d1, d2] => { results := [.lit (.bool true)], args := [d1, d2] }
  | _ => none }
def diskSyncSpecRow : OpenClaim := { program := "ytpciankfpagnhaa", sum := "30703f4067eb5de780549890c39f261b1b461c1cd006d59586c0438ff0541b5c", func := "chartroom/chartroomlaw41.DiskSyncSpec", spec := "diskSyncSpec", unfollowed := true, recurses := true, apart := false }
def DiskSyncSpecSaid : Prop := diskSyncSpecRow.holds Try.pinned (OpenSpec.ofChange diskSyncSpecSpec)

/-- ITS FALSE NEIGHBOUR: 'it returns false'. Refute it at one input. -/
def diskSyncSpecWrong : ChangeSpec := { name := "diskSyncSpec", fn := fun _ => fun
  | [d1, d2] => { results := [.lit (.bool false)], args := [d1, d2] }
  | _ => none }
def DiskSyncSpecWrongFalsely : Prop := diskSyncSpecRow.holds Try.pinned (OpenSpec.ofChange diskSyncSpecWrong)

/-- 'chartroomlaw41.DiskHistory': WHATEVER THE INPUT: true; the input reads as it did. -/
def diskHistorySpec : ChangeSpec := { name := "diskHistory", fn := fun _ => fun
  | [d1, d2] => { results := [.lit (.bool true)], args := [d1, d2] }
  | _ => none }
def diskHistoryRow : OpenClaim := { program := "ytpciankfpagnhaa", sum := "30703f4067eb5de780549890c39f261b1b461c1cd006d59586c0438ff0541b5c", func := "chartroom/chartroomlaw41.DiskHistory", spec := "diskHistory", unfollowed := true, recurses := true, apart := false }
def DiskHistorySaid : Prop := diskHistoryRow.holds Try.pinned (OpenSpec.ofChange diskHistorySpec)

/-- ITS FALSE NEIGHBOUR: 'it returns false'. Refute it at one input. -/
def diskHistoryWrong : ChangeSpec := { name := "diskHistory", fn := fun _ => fun
  | [d1, d2] => { results := [.lit (.bool false)], args := [d1, d2] }
  | _ => none }
def DiskHistoryWrongFalsely : Prop := diskHistoryRow.holds Try.pinned (OpenSpec.ofChange diskHistoryWrong)

/-- 'chartroomlaw41.DiskReads': WHATEVER THE INPUT: true; the input reads as it did. -/
def diskReadsSpec : ChangeSpec := { name := "diskReads", fn := fun _ => fun
  | [d1, d2, d3, d4, d5] => { results := [.lit (.bool true)], args := [d1, d2, d3, d4, d5] }
  | _ => none }
def diskReadsRow : OpenClaim := { program := "ytpciankfpagnhaa", sum := "30703f4067eb5de780549890c39f261b1b461c1cd006d59586c0438ff0541b5c", func := "chartroom/chartroomlaw41.DiskReads", spec := "diskReads", unfollowed := true, recurses := true, apart := false }
def DiskReadsSaid : Prop := diskReadsRow.holds Try.pinned (OpenSpec.ofChange diskReadsSpec)

/-- ITS FALSE NEIGHBOUR: 'it returns false'. Refute it at one input. -/
def diskReadsWrong : ChangeSpec := { name := "diskReads", fn := fun _ => fun
  | [d1, d2, d3, d4, d5] => { results := [.lit (.bool false)], args := [d1, d2, d3, d4, d5] }
  | _ => none }
def DiskReadsWrongFalsely : Prop := diskReadsRow.holds Try.pinned (OpenSpec.ofChange diskReadsWrong)

/-- 'chartroomlaw41.DiskTogether': WHATEVER THE INPUT: true; the input reads as it did. -/
def diskTogetherSpec : ChangeSpec := { name := "diskTogether", fn := fun _ => fun
  | [d1, d2] => { results := [.lit (.bool true)], args := [d1, d2] }
  | _ => none }
def diskTogetherRow : OpenClaim := { program := "ytpciankfpagnhaa", sum := "30703f4067eb5de780549890c39f261b1b461c1cd006d59586c0438ff0541b5c", func := "chartroom/chartroomlaw41.DiskTogether", spec := "diskTogether", unfollowed := true, recurses := true, apart := false }
def DiskTogetherSaid : Prop := diskTogetherRow.holds Try.pinned (OpenSpec.ofChange diskTogetherSpec)

/-- ITS FALSE NEIGHBOUR: 'it returns false'. Refute it at one input. -/
def diskTogetherWrong : ChangeSpec := { name := "diskTogether", fn := fun _ => fun
  | [d1, d2] => { results := [.lit (.bool false)], args := [d1, d2] }
  | _ => none }
def DiskTogetherWrongFalsely : Prop := diskTogetherRow.holds Try.pinned (OpenSpec.ofChange diskTogetherWrong)

/-- 'chartroomlaw41.DiskStopped': WHATEVER THE INPUT: true; the input reads as it did. -/
def diskStoppedSpec : ChangeSpec := { name := "diskStopped", fn := fun _ => fun
  | [d1, d2, d3, d4] => { results := [.lit (.bool true)], args := [d1, d2, d3, d4] }
  | _ => none }
def diskStoppedRow : OpenClaim := { program := "ytpciankfpagnhaa", sum := "30703f4067eb5de780549890c39f261b1b461c1cd006d59586c0438ff0541b5c", func := "chartroom/chartroomlaw41.DiskStopped", spec := "diskStopped", unfollowed := true, recurses := true, apart := false }
def DiskStoppedSaid : Prop := diskStoppedRow.holds Try.pinned (OpenSpec.ofChange diskStoppedSpec)

/-- ITS FALSE NEIGHBOUR: 'it returns false'. Refute it at one input. -/
def diskStoppedWrong : ChangeSpec := { name := "diskStopped", fn := fun _ => fun
  | [d1, d2, d3, d4] => { results := [.lit (.bool false)], args := [d1, d2, d3, d4] }
  | _ => none }
def DiskStoppedWrongFalsely : Prop := diskStoppedRow.holds Try.pinned (OpenSpec.ofChange diskStoppedWrong)

/-- 'chartroomlaw42.JournalOpenSpec': WHATEVER THE INPUT: true; the input reads as it did. -/
def journalOpenSpecSpec : ChangeSpec := { name := "journalOpenSpec", fn := fun _ => fun
  | [d] => { results := [.lit (.bool true)], args := [d] }
  | _ => none }
def journalOpenSpecRow : OpenClaim := { program := "ytpciankfpagnhaa", sum := "30703f4067eb5de780549890c39f261b1b461c1cd006d59586c0438ff0541b5c", func := "chartroom/chartroomlaw42.JournalOpenSpec", spec := "journalOpenSpec", unfollowed := true, recurses := true, apart := false }
def JournalOpenSpecSaid : Prop := journalOpenSpecRow.holds Try.pinned (OpenSpec.ofChange journalOpenSpecSpec)

/-- ITS FALSE NEIGHBOUR: 'it returns false'. Refute it at one input. -/
def journalOpenSpecWrong : ChangeSpec := { name := "journalOpenSpec", fn := fun _ => fun
  | [d] => { results := [.lit (.bool false)], args := [d] }
  | _ => none }
def JournalOpenSpecWrongFalsely : Prop := journalOpenSpecRow.holds Try.pinned (OpenSpec.ofChange journalOpenSpecWrong)

/-- 'chartroomlaw42.JournalAppendSpec': WHATEVER THE INPUT: true; the input reads as it did. -/
def journalAppendSpecSpec : ChangeSpec := { name := "journalAppendSpec", fn := fun _ => fun
  | [d1, d2] => { results := [.lit (.bool true)], args := [d1, d2] }
  | _ => none }
def journalAppendSpecRow : OpenClaim := { program := "ytpciankfpagnhaa", sum := "30703f4067eb5de780549890c39f261b1b461c1cd006d59586c0438ff0541b5c", func := "chartroom/chartroomlaw42.JournalAppendSpec", spec := "journalAppendSpec", unfollowed := true, recurses := true, apart := false }
def JournalAppendSpecSaid : Prop := journalAppendSpecRow.holds Try.pinned (OpenSpec.ofChange journalAppendSpecSpec)

/-- ITS FALSE NEIGHBOUR: 'it returns false'. Refute it at one input. -/
def journalAppendSpecWrong : ChangeSpec := { name := "journalAppendSpec", fn := fun _ => fun
  | [d1, d2] => { results := [.lit (.bool false)], args := [d1, d2] }
  | _ => none }
def JournalAppendSpecWrongFalsely : Prop := journalAppendSpecRow.holds Try.pinned (OpenSpec.ofChange journalAppendSpecWrong)

/-- 'chartroomlaw42.JournalSyncSpec': WHATEVER THE INPUT: true; the input reads as it did. -/
def journalSyncSpecSpec : ChangeSpec := { name := "journalSyncSpec", fn := fun _ => fun
  | [d1, d2] => { results := [.lit (.bool true)], args := [d1, d2] }
  | _ => none }
def journalSyncSpecRow : OpenClaim := { program := "ytpciankfpagnhaa", sum := "30703f4067eb5de780549890c39f261b1b461c1cd006d59586c0438ff0541b5c", func := "chartroom/chartroomlaw42.JournalSyncSpec", spec := "journalSyncSpec", unfollowed := true, recurses := true, apart := false }
def JournalSyncSpecSaid : Prop := journalSyncSpecRow.holds Try.pinned (OpenSpec.ofChange journalSyncSpecSpec)

/-- ITS FALSE NEIGHBOUR: 'it returns false'. Refute it at one input. -/
def journalSyncSpecWrong : ChangeSpec := { name := "journalSyncSpec", fn := fun _ => fun
  | [d1, d2] => { results := [.lit (.bool false)], args := [d1, d2] }
  | _ => none }
def JournalSyncSpecWrongFalsely : Prop := journalSyncSpecRow.holds Try.pinned (OpenSpec.ofChange journalSyncSpecWrong)

/-- 'chartroomlaw42.JournalRoom': WHATEVER THE INPUT: true; the input reads as it did. -/
def journalRoomSpec : ChangeSpec := { name := "journalRoom", fn := fun _ => fun
  | [d1, d2] => { results := [.lit (.bool true)], args := [d1, d2] }
  | _ => none }
def journalRoomRow : OpenClaim := { program := "ytpciankfpagnhaa", sum := "30703f4067eb5de780549890c39f261b1b461c1cd006d59586c0438ff0541b5c", func := "chartroom/chartroomlaw42.JournalRoom", spec := "journalRoom", unfollowed := true, recurses := true, apart := false }
def JournalRoomSaid : Prop := journalRoomRow.holds Try.pinned (OpenSpec.ofChange journalRoomSpec)

/-- ITS FALSE NEIGHBOUR: 'it returns false'. Refute it at one input. -/
def journalRoomWrong : ChangeSpec := { name := "journalRoom", fn := fun _ => fun
  | [d1, d2] => { results := [.lit (.bool false)], args := [d1, d2] }
  | _ => none }
def JournalRoomWrongFalsely : Prop := journalRoomRow.holds Try.pinned (OpenSpec.ofChange journalRoomWrong)

/-- 'chartroomlaw42.JournalDamage': WHATEVER THE INPUT: true; the input reads as it did. -/
def journalDamageSpec : ChangeSpec := { name := "journalDamage", fn := fun _ => fun
  | [d1, d2, d3, d4] => { results := [.lit (.bool true)], args := [d1, d2, d3, d4] }
  | _ => none }
def journalDamageRow : OpenClaim := { program := "ytpciankfpagnhaa", sum := "30703f4067eb5de780549890c39f261b1b461c1cd006d59586c0438ff0541b5c", func := "chartroom/chartroomlaw42.JournalDamage", spec := "journalDamage", unfollowed := true, recurses := true, apart := false }
def JournalDamageSaid : Prop := journalDamageRow.holds Try.pinned (OpenSpec.ofChange journalDamageSpec)

/-- ITS FALSE NEIGHBOUR: 'it returns false'. Refute it at one input. -/
def journalDamageWrong : ChangeSpec := { name := "journalDamage", fn := fun _ => fun
  | [d1, d2, d3, d4] => { results := [.lit (.bool false)], args := [d1, d2, d3, d4] }
  | _ => none }
def JournalDamageWrongFalsely : Prop := journalDamageRow.holds Try.pinned (OpenSpec.ofChange journalDamageWrong)

/-- 'chartroomlaw42.JournalSteps': WHATEVER THE INPUT: true; the input reads as it did. -/
def journalStepsSpec : ChangeSpec := { name := "journalSteps", fn := fun _ => fun
  | [d1, d2] => { results := [.lit (.bool true)], args := [d1, d2] }
  | _ => none }
def journalStepsRow : OpenClaim := { program := "ytpciankfpagnhaa", sum := "30703f4067eb5de780549890c39f261b1b461c1cd006d59586c0438ff0541b5c", func := "chartroom/chartroomlaw42.JournalSteps", spec := "journalSteps", unfollowed := true, recurses := true, apart := false }
def JournalStepsSaid : Prop := journalStepsRow.holds Try.pinned (OpenSpec.ofChange journalStepsSpec)

/-- ITS FALSE NEIGHBOUR: 'it returns false'. Refute it at one input. -/
def journalStepsWrong : ChangeSpec := { name := "journalSteps", fn := fun _ => fun
  | [d1, d2] => { results := [.lit (.bool false)], args := [d1, d2] }
  | _ => none }
def JournalStepsWrongFalsely : Prop := journalStepsRow.holds Try.pinned (OpenSpec.ofChange journalStepsWrong)

/-- 'chartroomlaw42.JournalSurvives': WHATEVER THE INPUT: true; the input reads as it did. -/
def journalSurvivesSpec : ChangeSpec := { name := "journalSurvives", fn := fun _ => fun
  | [d1, d2] => { results := [.lit (.bool true)], args := [d1, d2] }
  | _ => none }
def journalSurvivesRow : OpenClaim := { program := "ytpciankfpagnhaa", sum := "30703f4067eb5de780549890c39f261b1b461c1cd006d59586c0438ff0541b5c", func := "chartroom/chartroomlaw42.JournalSurvives", spec := "journalSurvives", unfollowed := true, recurses := true, apart := false }
def JournalSurvivesSaid : Prop := journalSurvivesRow.holds Try.pinned (OpenSpec.ofChange journalSurvivesSpec)

/-- ITS FALSE NEIGHBOUR: 'it returns false'. Refute it at one input. -/
def journalSurvivesWrong : ChangeSpec := { name := "journalSurvives", fn := fun _ => fun
  | [d1, d2] => { results := [.lit (.bool false)], args := [d1, d2] }
  | _ => none }
def JournalSurvivesWrongFalsely : Prop := journalSurvivesRow.holds Try.pinned (OpenSpec.ofChange journalSurvivesWrong)

/- THE SECOND FORM. 'bulk': how many values and letters a reading holds, each counted each time it is reached (what is shared counts as often as it is met; a slice's spare places count too). A statement '..UptoSaid' is the law's where the arguments, and the package variables that the reading takes, are together of bulk at most 1048576: NARROWER than '..Said'. Prove '..Said' where nothing that the law and all that it calls make is longer than what came in: it says more and counts as full. Else prove '..UptoSaid'. A law counts once. -/
mutual
def uptoBulk {H : Type} : DataW H → Nat
  | .lit (.string bytes) => bytes.length + 1
  | .lit _ => 1
  | .nil => 1
  | .ptr d => uptoBulk d + 1
  | .slice elems spare => uptoBulkAll elems + uptoBulkAll spare + 1
  | .agg parts => uptoBulkAll parts + 1
  | .iface _ d => uptoBulk d + 1
  | .map entries => uptoBulkEntries entries + 1
  | .held _ => 1
def uptoBulkAll {H : Type} : List (DataW H) → Nat
  | [] => 0
  | d :: r => uptoBulk d + uptoBulkAll r
def uptoBulkEntries {H : Type} : List (Lit × DataW H) → Nat
  | [] => 0
  | x :: r => uptoBulkEntry x + uptoBulkEntries r
def uptoBulkEntry {H : Type} : Lit × DataW H → Nat
  | (.string bytes, d) => bytes.length + uptoBulk d + 1
  | (_, d) => uptoBulk d + 1
 end
def uptoSmall : (H : Type) → List (DataW H) → Bool := fun _ ds => decide (uptoBulkAll ds ≤ 1048576)
def OpenSpec.upto (s : _root_.Go.ChangeSpec) : _root_.Go.OpenSpec := { _root_.Go.OpenSpec.ofChange s with cond := some uptoSmall }

/-- 'chartroomlaw41.DiskNewSpec', WHERE WHAT IT READS IS OF BULK AT MOST 1048576: true; the input reads as it did. -/
def diskNewSpecUptoRow : OpenClaim := { program := "ytpciankfpagnhaa", sum := "30703f4067eb5de780549890c39f261b1b461c1cd006d59586c0438ff0541b5c", func := "chartroom/chartroomlaw41.DiskNewSpec", spec := "diskNewSpec", unfollowed := true, recurses := true, apart := false, narrowed := true }
def DiskNewSpecUptoSaid : Prop := diskNewSpecUptoRow.holds Try.pinned (OpenSpec.upto diskNewSpecSpec)

/-- 'chartroomlaw41.DiskWriteSpec', WHERE WHAT IT READS IS OF BULK AT MOST 1048576: true; the input reads as it did. -/
def diskWriteSpecUptoRow : OpenClaim := { program := "ytpciankfpagnhaa", sum := "30703f4067eb5de780549890c39f261b1b461c1cd006d59586c0438ff0541b5c", func := "chartroom/chartroomlaw41.DiskWriteSpec", spec := "diskWriteSpec", unfollowed := true, recurses := true, apart := false, narrowed := true }
def DiskWriteSpecUptoSaid : Prop := diskWriteSpecUptoRow.holds Try.pinned (OpenSpec.upto diskWriteSpecSpec)

/-- 'chartroomlaw41.DiskSyncSpec', WHERE WHAT IT READS IS OF BULK AT MOST 1048576: true; the input reads as it did. -/
def diskSyncSpecUptoRow : OpenClaim := { program := "ytpciankfpagnhaa", sum := "30703f4067eb5de780549890c39f261b1b461c1cd006d59586c0438ff0541b5c", func := "chartroom/chartroomlaw41.DiskSyncSpec", spec := "diskSyncSpec", unfollowed := true, recurses := true, apart := false, narrowed := true }
def DiskSyncSpecUptoSaid : Prop := diskSyncSpecUptoRow.holds Try.pinned (OpenSpec.upto diskSyncSpecSpec)

/-- 'chartroomlaw41.DiskHistory', WHERE WHAT IT READS IS OF BULK AT MOST 1048576: true; the input reads as it did. -/
def diskHistoryUptoRow : OpenClaim := { program := "ytpciankfpagnhaa", sum := "30703f4067eb5de780549890c39f261b1b461c1cd006d59586c0438ff0541b5c", func := "chartroom/chartroomlaw41.DiskHistory", spec := "diskHistory", unfollowed := true, recurses := true, apart := false, narrowed := true }
def DiskHistoryUptoSaid : Prop := diskHistoryUptoRow.holds Try.pinned (OpenSpec.upto diskHistorySpec)

/-- 'chartroomlaw41.DiskReads', WHERE WHAT IT READS IS OF BULK AT MOST 1048576: true; the input reads as it did. -/
def diskReadsUptoRow : OpenClaim := { program := "ytpciankfpagnhaa", sum := "30703f4067eb5de780549890c39f261b1b461c1cd006d59586c0438ff0541b5c", func := "chartroom/chartroomlaw41.DiskReads", spec := "diskReads", unfollowed := true, recurses := true, apart := false, narrowed := true }
def DiskReadsUptoSaid : Prop := diskReadsUptoRow.holds Try.pinned (OpenSpec.upto diskReadsSpec)

/-- 'chartroomlaw41.DiskTogether', WHERE WHAT IT READS IS OF BULK AT MOST 1048576: true; the input reads as it did. -/
def diskTogetherUptoRow : OpenClaim := { program := "ytpciankfpagnhaa", sum := "30703f4067eb5de780549890c39f261b1b461c1cd006d59586c0438ff0541b5c", func := "chartroom/chartroomlaw41.DiskTogether", spec := "diskTogether", unfollowed := true, recurses := true, apart := false, narrowed := true }
def DiskTogetherUptoSaid : Prop := diskTogetherUptoRow.holds Try.pinned (OpenSpec.upto diskTogetherSpec)

/-- 'chartroomlaw41.DiskStopped', WHERE WHAT IT READS IS OF BULK AT MOST 1048576: true; the input reads as it did. -/
def diskStoppedUptoRow : OpenClaim := { program := "ytpciankfpagnhaa", sum := "30703f4067eb5de780549890c39f261b1b461c1cd006d59586c0438ff0541b5c", func := "chartroom/chartroomlaw41.DiskStopped", spec := "diskStopped", unfollowed := true, recurses := true, apart := false, narrowed := true }
def DiskStoppedUptoSaid : Prop := diskStoppedUptoRow.holds Try.pinned (OpenSpec.upto diskStoppedSpec)

/-- 'chartroomlaw42.JournalOpenSpec', WHERE WHAT IT READS IS OF BULK AT MOST 1048576: true; the input reads as it did. -/
def journalOpenSpecUptoRow : OpenClaim := { program := "ytpciankfpagnhaa", sum := "30703f4067eb5de780549890c39f261b1b461c1cd006d59586c0438ff0541b5c", func := "chartroom/chartroomlaw42.JournalOpenSpec", spec := "journalOpenSpec", unfollowed := true, recurses := true, apart := false, narrowed := true }
def JournalOpenSpecUptoSaid : Prop := journalOpenSpecUptoRow.holds Try.pinned (OpenSpec.upto journalOpenSpecSpec)

/-- 'chartroomlaw42.JournalAppendSpec', WHERE WHAT IT READS IS OF BULK AT MOST 1048576: true; the input reads as it did. -/
def journalAppendSpecUptoRow : OpenClaim := { program := "ytpciankfpagnhaa", sum := "30703f4067eb5de780549890c39f261b1b461c1cd006d59586c0438ff0541b5c", func := "chartroom/chartroomlaw42.JournalAppendSpec", spec := "journalAppendSpec", unfollowed := true, recurses := true, apart := false, narrowed := true }
def JournalAppendSpecUptoSaid : Prop := journalAppendSpecUptoRow.holds Try.pinned (OpenSpec.upto journalAppendSpecSpec)

/-- 'chartroomlaw42.JournalSyncSpec', WHERE WHAT IT READS IS OF BULK AT MOST 1048576: true; the input reads as it did. -/
def journalSyncSpecUptoRow : OpenClaim := { program := "ytpciankfpagnhaa", sum := "30703f4067eb5de780549890c39f261b1b461c1cd006d59586c0438ff0541b5c", func := "chartroom/chartroomlaw42.JournalSyncSpec", spec := "journalSyncSpec", unfollowed := true, recurses := true, apart := false, narrowed := true }
def JournalSyncSpecUptoSaid : Prop := journalSyncSpecUptoRow.holds Try.pinned (OpenSpec.upto journalSyncSpecSpec)

/-- 'chartroomlaw42.JournalRoom', WHERE WHAT IT READS IS OF BULK AT MOST 1048576: true; the input reads as it did. -/
def journalRoomUptoRow : OpenClaim := { program := "ytpciankfpagnhaa", sum := "30703f4067eb5de780549890c39f261b1b461c1cd006d59586c0438ff0541b5c", func := "chartroom/chartroomlaw42.JournalRoom", spec := "journalRoom", unfollowed := true, recurses := true, apart := false, narrowed := true }
def JournalRoomUptoSaid : Prop := journalRoomUptoRow.holds Try.pinned (OpenSpec.upto journalRoomSpec)

/-- 'chartroomlaw42.JournalDamage', WHERE WHAT IT READS IS OF BULK AT MOST 1048576: true; the input reads as it did. -/
def journalDamageUptoRow : OpenClaim := { program := "ytpciankfpagnhaa", sum := "30703f4067eb5de780549890c39f261b1b461c1cd006d59586c0438ff0541b5c", func := "chartroom/chartroomlaw42.JournalDamage", spec := "journalDamage", unfollowed := true, recurses := true, apart := false, narrowed := true }
def JournalDamageUptoSaid : Prop := journalDamageUptoRow.holds Try.pinned (OpenSpec.upto journalDamageSpec)

/-- 'chartroomlaw42.JournalSteps', WHERE WHAT IT READS IS OF BULK AT MOST 1048576: true; the input reads as it did. -/
def journalStepsUptoRow : OpenClaim := { program := "ytpciankfpagnhaa", sum := "30703f4067eb5de780549890c39f261b1b461c1cd006d59586c0438ff0541b5c", func := "chartroom/chartroomlaw42.JournalSteps", spec := "journalSteps", unfollowed := true, recurses := true, apart := false, narrowed := true }
def JournalStepsUptoSaid : Prop := journalStepsUptoRow.holds Try.pinned (OpenSpec.upto journalStepsSpec)

/-- 'chartroomlaw42.JournalSurvives', WHERE WHAT IT READS IS OF BULK AT MOST 1048576: true; the input reads as it did. -/
def journalSurvivesUptoRow : OpenClaim := { program := "ytpciankfpagnhaa", sum := "30703f4067eb5de780549890c39f261b1b461c1cd006d59586c0438ff0541b5c", func := "chartroom/chartroomlaw42.JournalSurvives", spec := "journalSurvives", unfollowed := true, recurses := true, apart := false, narrowed := true }
def JournalSurvivesUptoSaid : Prop := journalSurvivesUptoRow.holds Try.pinned (OpenSpec.upto journalSurvivesSpec)

end Rows
end Go.Proofs.Ytpciankfpagnhaa
