/-
  No cell of these rows narrows 'for every input' (looked for: loops, veiled, ifaces, maps, wideKeys, modest, calm, conditions, laid).
  DERIVED. THE GIVEN ROWS OF THIS SEAT. 26 by the template 'for every input the law returns true; each argument reads behind the call as it read before'; 0 by the template 'total and deterministic' (their statements: YtoeabgeglgiobaaTotals.lean).
  GIVEN WITH THE SEED: the statements are not yours to turn. If you find one false, say at which input.
  Laid BY PROGRAM, IN A SANDBOX (cutbox-rows.mjs): the forced cells as the released guide's own fill.sh prints them over the translation 47457a9eff5d2f69… (all of the seat's roots in one cut). By AI agents, Wed Nov 11 2026. No macro, syntax, notation, axiom, sorry.
-/
import Derived.Test.YtoeabgeglgiobaaChecked
import GoSem.Claim
import GoSem.ClaimJoined
import GoSem.ClaimMapViews
import Derived.JoinedTies
import Derived.KernelRfl
namespace Go.Proofs.Ytoeabgeglgiobaa
/- THE CELL 'sum', in the pinned program and in every row, IS THE sha256 OF THE DUMP (.gsa) THAT YtoeabgeglgiobaaProg.lean LOADS. Nothing in Lean hashes anything: it is a label: what it is worth is what the hold of that sum in a sandbox is worth. -/
noncomputable def Try.pinned : Pinned := { name := "ytoeabgeglgiobaa", sum := "47457a9eff5d2f697ac807c882c0f9b97a6a514d1b81ed65af31a39616348f9b", checked := Try.checked }
namespace Rows
def none {H : Type} : Left H := { results := [], args := [] }

/-- 'chartroomlaw01.VarintPuts': WHATEVER THE INPUT: true; the input reads as it did. -/
def varintPutsSpec : ChangeSpec := { name := "varintPuts", fn := fun _ => fun
  | [d1, d2] => { results := [.lit (.bool true)], args := [d1, d2] }
  | _ => none }
def varintPutsRow : OpenClaim := { program := "ytoeabgeglgiobaa", sum := "47457a9eff5d2f697ac807c882c0f9b97a6a514d1b81ed65af31a39616348f9b", func := "chartroom/chartroomlaw01.VarintPuts", spec := "varintPuts", apart := false }
def VarintPutsSaid : Prop := varintPutsRow.holds Try.pinned (OpenSpec.ofChange varintPutsSpec)

/-- ITS FALSE NEIGHBOUR: 'it returns false'. Refute it at one input. -/
def varintPutsWrong : ChangeSpec := { name := "varintPuts", fn := fun _ => fun
  | [d1, d2] => { results := [.lit (.bool false)], args := [d1, d2] }
  | _ => none }
def VarintPutsWrongFalsely : Prop := varintPutsRow.holds Try.pinned (OpenSpec.ofChange varintPutsWrong)

/-- 'chartroomlaw01.VarintTakes': WHATEVER THE INPUT: true; the input reads as it did. -/
def varintTakesSpec : ChangeSpec := { name := "varintTakes", fn := fun _ => fun
  | [d1, d2, d3] => { results := [.lit (.bool true)], args := [d1, d2, d3] }
  | _ => none }
def varintTakesRow : OpenClaim := { program := "ytoeabgeglgiobaa", sum := "47457a9eff5d2f697ac807c882c0f9b97a6a514d1b81ed65af31a39616348f9b", func := "chartroom/chartroomlaw01.VarintTakes", spec := "varintTakes", apart := false }
def VarintTakesSaid : Prop := varintTakesRow.holds Try.pinned (OpenSpec.ofChange varintTakesSpec)

/-- ITS FALSE NEIGHBOUR: 'it returns false'. Refute it at one input. -/
def varintTakesWrong : ChangeSpec := { name := "varintTakes", fn := fun _ => fun
  | [d1, d2, d3] => { results := [.lit (.bool false)], args := [d1, d2, d3] }
  | _ => none }
def VarintTakesWrongFalsely : Prop := varintTakesRow.holds Try.pinned (OpenSpec.ofChange varintTakesWrong)

/-- 'chartroomlaw01.VarintBack': WHATEVER THE INPUT: true; the input reads as it did. -/
def varintBackSpec : ChangeSpec := { name := "varintBack", fn := fun _ => fun
  | [d1, d2, d3, d4] => { results := [.lit (.bool true)], args := [d1, d2, d3, d4] }
  | _ => none }
def varintBackRow : OpenClaim := { program := "ytoeabgeglgiobaa", sum := "47457a9eff5d2f697ac807c882c0f9b97a6a514d1b81ed65af31a39616348f9b", func := "chartroom/chartroomlaw01.VarintBack", spec := "varintBack", apart := false }
def VarintBackSaid : Prop := varintBackRow.holds Try.pinned (OpenSpec.ofChange varintBackSpec)

/-- ITS FALSE NEIGHBOUR: 'it returns false'. Refute it at one input. -/
def varintBackWrong : ChangeSpec := { name := "varintBack", fn := fun _ => fun
  | [d1, d2, d3, d4] => { results := [.lit (.bool false)], args := [d1, d2, d3, d4] }
  | _ => none }
def VarintBackWrongFalsely : Prop := varintBackRow.holds Try.pinned (OpenSpec.ofChange varintBackWrong)

/-- 'chartroomlaw01.VarintKnown': WHATEVER THE INPUT: true; the input reads as it did. -/
def varintKnownSpec : ChangeSpec := { name := "varintKnown", fn := fun _ => fun
  | [] => { results := [.lit (.bool true)], args := [] }
  | _ => none }
def varintKnownRow : OpenClaim := { program := "ytoeabgeglgiobaa", sum := "47457a9eff5d2f697ac807c882c0f9b97a6a514d1b81ed65af31a39616348f9b", func := "chartroom/chartroomlaw01.VarintKnown", spec := "varintKnown", apart := false }
def VarintKnownSaid : Prop := varintKnownRow.holds Try.pinned (OpenSpec.ofChange varintKnownSpec)

/-- ITS FALSE NEIGHBOUR: 'it returns false'. Refute it at one input. -/
def varintKnownWrong : ChangeSpec := { name := "varintKnown", fn := fun _ => fun
  | [] => { results := [.lit (.bool false)], args := [] }
  | _ => none }
def VarintKnownWrongFalsely : Prop := varintKnownRow.holds Try.pinned (OpenSpec.ofChange varintKnownWrong)

/-- 'chartroomlaw03.FrameTakes': WHATEVER THE INPUT: true; the input reads as it did. -/
def frameTakesSpec : ChangeSpec := { name := "frameTakes", fn := fun _ => fun
  | [d1, d2] => { results := [.lit (.bool true)], args := [d1, d2] }
  | _ => none }
def frameTakesRow : OpenClaim := { program := "ytoeabgeglgiobaa", sum := "47457a9eff5d2f697ac807c882c0f9b97a6a514d1b81ed65af31a39616348f9b", func := "chartroom/chartroomlaw03.FrameTakes", spec := "frameTakes", apart := false }
def FrameTakesSaid : Prop := frameTakesRow.holds Try.pinned (OpenSpec.ofChange frameTakesSpec)

/-- ITS FALSE NEIGHBOUR: 'it returns false'. Refute it at one input. -/
def frameTakesWrong : ChangeSpec := { name := "frameTakes", fn := fun _ => fun
  | [d1, d2] => { results := [.lit (.bool false)], args := [d1, d2] }
  | _ => none }
def FrameTakesWrongFalsely : Prop := frameTakesRow.holds Try.pinned (OpenSpec.ofChange frameTakesWrong)

/-- 'chartroomlaw03.FrameBits': WHATEVER THE INPUT: true; the input reads as it did. -/
def frameBitsSpec : ChangeSpec := { name := "frameBits", fn := fun _ => fun
  | [d1, d2] => { results := [.lit (.bool true)], args := [d1, d2] }
  | _ => none }
def frameBitsRow : OpenClaim := { program := "ytoeabgeglgiobaa", sum := "47457a9eff5d2f697ac807c882c0f9b97a6a514d1b81ed65af31a39616348f9b", func := "chartroom/chartroomlaw03.FrameBits", spec := "frameBits", apart := false }
def FrameBitsSaid : Prop := frameBitsRow.holds Try.pinned (OpenSpec.ofChange frameBitsSpec)

/-- ITS FALSE NEIGHBOUR: 'it returns false'. Refute it at one input. -/
def frameBitsWrong : ChangeSpec := { name := "frameBits", fn := fun _ => fun
  | [d1, d2] => { results := [.lit (.bool false)], args := [d1, d2] }
  | _ => none }
def FrameBitsWrongFalsely : Prop := frameBitsRow.holds Try.pinned (OpenSpec.ofChange frameBitsWrong)

/-- 'chartroomlaw03.FramePuts': WHATEVER THE INPUT: true; the input reads as it did. -/
def framePutsSpec : ChangeSpec := { name := "framePuts", fn := fun _ => fun
  | [d] => { results := [.lit (.bool true)], args := [d] }
  | _ => none }
def framePutsRow : OpenClaim := { program := "ytoeabgeglgiobaa", sum := "47457a9eff5d2f697ac807c882c0f9b97a6a514d1b81ed65af31a39616348f9b", func := "chartroom/chartroomlaw03.FramePuts", spec := "framePuts", apart := false }
def FramePutsSaid : Prop := framePutsRow.holds Try.pinned (OpenSpec.ofChange framePutsSpec)

/-- ITS FALSE NEIGHBOUR: 'it returns false'. Refute it at one input. -/
def framePutsWrong : ChangeSpec := { name := "framePuts", fn := fun _ => fun
  | [d] => { results := [.lit (.bool false)], args := [d] }
  | _ => none }
def FramePutsWrongFalsely : Prop := framePutsRow.holds Try.pinned (OpenSpec.ofChange framePutsWrong)

/-- 'chartroomlaw15.VersionBytes': WHATEVER THE INPUT: true; the input reads as it did. -/
def versionBytesSpec : ChangeSpec := { name := "versionBytes", fn := fun _ => fun
  | [d1, d2] => { results := [.lit (.bool true)], args := [d1, d2] }
  | _ => none }
def versionBytesRow : OpenClaim := { program := "ytoeabgeglgiobaa", sum := "47457a9eff5d2f697ac807c882c0f9b97a6a514d1b81ed65af31a39616348f9b", func := "chartroom/chartroomlaw15.VersionBytes", spec := "versionBytes", inPlace := ["internal/abi.NoEscape"], unfollowed := true, recurses := true, apart := false }
def VersionBytesSaid : Prop := versionBytesRow.holds Try.pinned (OpenSpec.ofChange versionBytesSpec)

/-- ITS FALSE NEIGHBOUR: 'it returns false'. Refute it at one input. -/
def versionBytesWrong : ChangeSpec := { name := "versionBytes", fn := fun _ => fun
  | [d1, d2] => { results := [.lit (.bool false)], args := [d1, d2] }
  | _ => none }
def VersionBytesWrongFalsely : Prop := versionBytesRow.holds Try.pinned (OpenSpec.ofChange versionBytesWrong)

/-- 'chartroomlaw03.FrameBack': WHATEVER THE INPUT: true; the input reads as it did. -/
def frameBackSpec : ChangeSpec := { name := "frameBack", fn := fun _ => fun
  | [d1, d2, d3] => { results := [.lit (.bool true)], args := [d1, d2, d3] }
  | _ => none }
def frameBackRow : OpenClaim := { program := "ytoeabgeglgiobaa", sum := "47457a9eff5d2f697ac807c882c0f9b97a6a514d1b81ed65af31a39616348f9b", func := "chartroom/chartroomlaw03.FrameBack", spec := "frameBack", apart := false }
def FrameBackSaid : Prop := frameBackRow.holds Try.pinned (OpenSpec.ofChange frameBackSpec)

/-- ITS FALSE NEIGHBOUR: 'it returns false'. Refute it at one input. -/
def frameBackWrong : ChangeSpec := { name := "frameBack", fn := fun _ => fun
  | [d1, d2, d3] => { results := [.lit (.bool false)], args := [d1, d2, d3] }
  | _ => none }
def FrameBackWrongFalsely : Prop := frameBackRow.holds Try.pinned (OpenSpec.ofChange frameBackWrong)

/-- 'chartroomlaw03.FrameKnown': WHATEVER THE INPUT: true; the input reads as it did. -/
def frameKnownSpec : ChangeSpec := { name := "frameKnown", fn := fun _ => fun
  | [] => { results := [.lit (.bool true)], args := [] }
  | _ => none }
def frameKnownRow : OpenClaim := { program := "ytoeabgeglgiobaa", sum := "47457a9eff5d2f697ac807c882c0f9b97a6a514d1b81ed65af31a39616348f9b", func := "chartroom/chartroomlaw03.FrameKnown", spec := "frameKnown", apart := false }
def FrameKnownSaid : Prop := frameKnownRow.holds Try.pinned (OpenSpec.ofChange frameKnownSpec)

/-- ITS FALSE NEIGHBOUR: 'it returns false'. Refute it at one input. -/
def frameKnownWrong : ChangeSpec := { name := "frameKnown", fn := fun _ => fun
  | [] => { results := [.lit (.bool false)], args := [] }
  | _ => none }
def FrameKnownWrongFalsely : Prop := frameKnownRow.holds Try.pinned (OpenSpec.ofChange frameKnownWrong)

/-- 'chartroomlaw15.VersionKnown': WHATEVER THE INPUT: true; the input reads as it did. -/
def versionKnownSpec : ChangeSpec := { name := "versionKnown", fn := fun _ => fun
  | [] => { results := [.lit (.bool true)], args := [] }
  | _ => none }
def versionKnownRow : OpenClaim := { program := "ytoeabgeglgiobaa", sum := "47457a9eff5d2f697ac807c882c0f9b97a6a514d1b81ed65af31a39616348f9b", func := "chartroom/chartroomlaw15.VersionKnown", spec := "versionKnown", inPlace := ["internal/abi.NoEscape"], unfollowed := true, recurses := true, apart := false }
def VersionKnownSaid : Prop := versionKnownRow.holds Try.pinned (OpenSpec.ofChange versionKnownSpec)

/-- ITS FALSE NEIGHBOUR: 'it returns false'. Refute it at one input. -/
def versionKnownWrong : ChangeSpec := { name := "versionKnown", fn := fun _ => fun
  | [] => { results := [.lit (.bool false)], args := [] }
  | _ => none }
def VersionKnownWrongFalsely : Prop := versionKnownRow.holds Try.pinned (OpenSpec.ofChange versionKnownWrong)

/-- 'chartroomlaw06.RecordPuts': WHATEVER THE INPUT: true; the input reads as it did. -/
def recordPutsSpec : ChangeSpec := { name := "recordPuts", fn := fun _ => fun
  | [d] => { results := [.lit (.bool true)], args := [d] }
  | _ => none }
def recordPutsRow : OpenClaim := { program := "ytoeabgeglgiobaa", sum := "47457a9eff5d2f697ac807c882c0f9b97a6a514d1b81ed65af31a39616348f9b", func := "chartroom/chartroomlaw06.RecordPuts", spec := "recordPuts", unfollowed := true, recurses := true, apart := false }
def RecordPutsSaid : Prop := recordPutsRow.holds Try.pinned (OpenSpec.ofChange recordPutsSpec)

/-- ITS FALSE NEIGHBOUR: 'it returns false'. Refute it at one input. -/
def recordPutsWrong : ChangeSpec := { name := "recordPuts", fn := fun _ => fun
  | [d] => { results := [.lit (.bool false)], args := [d] }
  | _ => none }
def RecordPutsWrongFalsely : Prop := recordPutsRow.holds Try.pinned (OpenSpec.ofChange recordPutsWrong)

/-- 'chartroomlaw11.JournalAppends': WHATEVER THE INPUT: true; the input reads as it did. -/
def journalAppendsSpec : ChangeSpec := { name := "journalAppends", fn := fun _ => fun
  | [d1, d2, d3] => { results := [.lit (.bool true)], args := [d1, d2, d3] }
  | _ => none }
def journalAppendsRow : OpenClaim := { program := "ytoeabgeglgiobaa", sum := "47457a9eff5d2f697ac807c882c0f9b97a6a514d1b81ed65af31a39616348f9b", func := "chartroom/chartroomlaw11.JournalAppends", spec := "journalAppends", unfollowed := true, recurses := true, apart := false }
def JournalAppendsSaid : Prop := journalAppendsRow.holds Try.pinned (OpenSpec.ofChange journalAppendsSpec)

/-- ITS FALSE NEIGHBOUR: 'it returns false'. Refute it at one input. -/
def journalAppendsWrong : ChangeSpec := { name := "journalAppends", fn := fun _ => fun
  | [d1, d2, d3] => { results := [.lit (.bool false)], args := [d1, d2, d3] }
  | _ => none }
def JournalAppendsWrongFalsely : Prop := journalAppendsRow.holds Try.pinned (OpenSpec.ofChange journalAppendsWrong)

/-- 'chartroomlaw11.JournalKeeps': WHATEVER THE INPUT: true; the input reads as it did. -/
def journalKeepsSpec : ChangeSpec := { name := "journalKeeps", fn := fun _ => fun
  | [d1, d2, d3] => { results := [.lit (.bool true)], args := [d1, d2, d3] }
  | _ => none }
def journalKeepsRow : OpenClaim := { program := "ytoeabgeglgiobaa", sum := "47457a9eff5d2f697ac807c882c0f9b97a6a514d1b81ed65af31a39616348f9b", func := "chartroom/chartroomlaw11.JournalKeeps", spec := "journalKeeps", unfollowed := true, recurses := true, apart := false }
def JournalKeepsSaid : Prop := journalKeepsRow.holds Try.pinned (OpenSpec.ofChange journalKeepsSpec)

/-- ITS FALSE NEIGHBOUR: 'it returns false'. Refute it at one input. -/
def journalKeepsWrong : ChangeSpec := { name := "journalKeeps", fn := fun _ => fun
  | [d1, d2, d3] => { results := [.lit (.bool false)], args := [d1, d2, d3] }
  | _ => none }
def JournalKeepsWrongFalsely : Prop := journalKeepsRow.holds Try.pinned (OpenSpec.ofChange journalKeepsWrong)

/-- 'chartroomlaw05.DeltaApplies': WHATEVER THE INPUT: true; the input reads as it did. -/
def deltaAppliesSpec : ChangeSpec := { name := "deltaApplies", fn := fun _ => fun
  | [d1, d2] => { results := [.lit (.bool true)], args := [d1, d2] }
  | _ => none }
def deltaAppliesRow : OpenClaim := { program := "ytoeabgeglgiobaa", sum := "47457a9eff5d2f697ac807c882c0f9b97a6a514d1b81ed65af31a39616348f9b", func := "chartroom/chartroomlaw05.DeltaApplies", spec := "deltaApplies", inPlace := ["internal/abi.NoEscape"], unfollowed := true, recurses := true, apart := false }
def DeltaAppliesSaid : Prop := deltaAppliesRow.holds Try.pinned (OpenSpec.ofChange deltaAppliesSpec)

/-- ITS FALSE NEIGHBOUR: 'it returns false'. Refute it at one input. -/
def deltaAppliesWrong : ChangeSpec := { name := "deltaApplies", fn := fun _ => fun
  | [d1, d2] => { results := [.lit (.bool false)], args := [d1, d2] }
  | _ => none }
def DeltaAppliesWrongFalsely : Prop := deltaAppliesRow.holds Try.pinned (OpenSpec.ofChange deltaAppliesWrong)

/-- 'chartroomlaw05.DeltaDiffs': WHATEVER THE INPUT: true; the input reads as it did. -/
def deltaDiffsSpec : ChangeSpec := { name := "deltaDiffs", fn := fun _ => fun
  | [d1, d2] => { results := [.lit (.bool true)], args := [d1, d2] }
  | _ => none }
def deltaDiffsRow : OpenClaim := { program := "ytoeabgeglgiobaa", sum := "47457a9eff5d2f697ac807c882c0f9b97a6a514d1b81ed65af31a39616348f9b", func := "chartroom/chartroomlaw05.DeltaDiffs", spec := "deltaDiffs", inPlace := ["internal/abi.NoEscape"], unfollowed := true, recurses := true, apart := false }
def DeltaDiffsSaid : Prop := deltaDiffsRow.holds Try.pinned (OpenSpec.ofChange deltaDiffsSpec)

/-- ITS FALSE NEIGHBOUR: 'it returns false'. Refute it at one input. -/
def deltaDiffsWrong : ChangeSpec := { name := "deltaDiffs", fn := fun _ => fun
  | [d1, d2] => { results := [.lit (.bool false)], args := [d1, d2] }
  | _ => none }
def DeltaDiffsWrongFalsely : Prop := deltaDiffsRow.holds Try.pinned (OpenSpec.ofChange deltaDiffsWrong)

/-- 'chartroomlaw06.RecordReads': WHATEVER THE INPUT: true; the input reads as it did. -/
def recordReadsSpec : ChangeSpec := { name := "recordReads", fn := fun _ => fun
  | [d] => { results := [.lit (.bool true)], args := [d] }
  | _ => none }
def recordReadsRow : OpenClaim := { program := "ytoeabgeglgiobaa", sum := "47457a9eff5d2f697ac807c882c0f9b97a6a514d1b81ed65af31a39616348f9b", func := "chartroom/chartroomlaw06.RecordReads", spec := "recordReads", unfollowed := true, recurses := true, apart := false }
def RecordReadsSaid : Prop := recordReadsRow.holds Try.pinned (OpenSpec.ofChange recordReadsSpec)

/-- ITS FALSE NEIGHBOUR: 'it returns false'. Refute it at one input. -/
def recordReadsWrong : ChangeSpec := { name := "recordReads", fn := fun _ => fun
  | [d] => { results := [.lit (.bool false)], args := [d] }
  | _ => none }
def RecordReadsWrongFalsely : Prop := recordReadsRow.holds Try.pinned (OpenSpec.ofChange recordReadsWrong)

/-- 'chartroomlaw06.RecordBodies': WHATEVER THE INPUT: true; the input reads as it did. -/
def recordBodiesSpec : ChangeSpec := { name := "recordBodies", fn := fun _ => fun
  | [d1, d2] => { results := [.lit (.bool true)], args := [d1, d2] }
  | _ => none }
def recordBodiesRow : OpenClaim := { program := "ytoeabgeglgiobaa", sum := "47457a9eff5d2f697ac807c882c0f9b97a6a514d1b81ed65af31a39616348f9b", func := "chartroom/chartroomlaw06.RecordBodies", spec := "recordBodies", unfollowed := true, recurses := true, apart := false }
def RecordBodiesSaid : Prop := recordBodiesRow.holds Try.pinned (OpenSpec.ofChange recordBodiesSpec)

/-- ITS FALSE NEIGHBOUR: 'it returns false'. Refute it at one input. -/
def recordBodiesWrong : ChangeSpec := { name := "recordBodies", fn := fun _ => fun
  | [d1, d2] => { results := [.lit (.bool false)], args := [d1, d2] }
  | _ => none }
def RecordBodiesWrongFalsely : Prop := recordBodiesRow.holds Try.pinned (OpenSpec.ofChange recordBodiesWrong)

/-- 'chartroomlaw06.RecordBack': WHATEVER THE INPUT: true; the input reads as it did. -/
def recordBackSpec : ChangeSpec := { name := "recordBack", fn := fun _ => fun
  | [d1, d2, d3] => { results := [.lit (.bool true)], args := [d1, d2, d3] }
  | _ => none }
def recordBackRow : OpenClaim := { program := "ytoeabgeglgiobaa", sum := "47457a9eff5d2f697ac807c882c0f9b97a6a514d1b81ed65af31a39616348f9b", func := "chartroom/chartroomlaw06.RecordBack", spec := "recordBack", unfollowed := true, recurses := true, apart := false }
def RecordBackSaid : Prop := recordBackRow.holds Try.pinned (OpenSpec.ofChange recordBackSpec)

/-- ITS FALSE NEIGHBOUR: 'it returns false'. Refute it at one input. -/
def recordBackWrong : ChangeSpec := { name := "recordBack", fn := fun _ => fun
  | [d1, d2, d3] => { results := [.lit (.bool false)], args := [d1, d2, d3] }
  | _ => none }
def RecordBackWrongFalsely : Prop := recordBackRow.holds Try.pinned (OpenSpec.ofChange recordBackWrong)

/-- 'chartroomlaw06.RecordKnown': WHATEVER THE INPUT: true; the input reads as it did. -/
def recordKnownSpec : ChangeSpec := { name := "recordKnown", fn := fun _ => fun
  | [] => { results := [.lit (.bool true)], args := [] }
  | _ => none }
def recordKnownRow : OpenClaim := { program := "ytoeabgeglgiobaa", sum := "47457a9eff5d2f697ac807c882c0f9b97a6a514d1b81ed65af31a39616348f9b", func := "chartroom/chartroomlaw06.RecordKnown", spec := "recordKnown", unfollowed := true, recurses := true, apart := false }
def RecordKnownSaid : Prop := recordKnownRow.holds Try.pinned (OpenSpec.ofChange recordKnownSpec)

/-- ITS FALSE NEIGHBOUR: 'it returns false'. Refute it at one input. -/
def recordKnownWrong : ChangeSpec := { name := "recordKnown", fn := fun _ => fun
  | [] => { results := [.lit (.bool false)], args := [] }
  | _ => none }
def RecordKnownWrongFalsely : Prop := recordKnownRow.holds Try.pinned (OpenSpec.ofChange recordKnownWrong)

/-- 'chartroomlaw05.DeltaParses': WHATEVER THE INPUT: true; the input reads as it did. -/
def deltaParsesSpec : ChangeSpec := { name := "deltaParses", fn := fun _ => fun
  | [d] => { results := [.lit (.bool true)], args := [d] }
  | _ => none }
def deltaParsesRow : OpenClaim := { program := "ytoeabgeglgiobaa", sum := "47457a9eff5d2f697ac807c882c0f9b97a6a514d1b81ed65af31a39616348f9b", func := "chartroom/chartroomlaw05.DeltaParses", spec := "deltaParses", inPlace := ["internal/abi.NoEscape"], unfollowed := true, recurses := true, apart := false }
def DeltaParsesSaid : Prop := deltaParsesRow.holds Try.pinned (OpenSpec.ofChange deltaParsesSpec)

/-- ITS FALSE NEIGHBOUR: 'it returns false'. Refute it at one input. -/
def deltaParsesWrong : ChangeSpec := { name := "deltaParses", fn := fun _ => fun
  | [d] => { results := [.lit (.bool false)], args := [d] }
  | _ => none }
def DeltaParsesWrongFalsely : Prop := deltaParsesRow.holds Try.pinned (OpenSpec.ofChange deltaParsesWrong)

/-- 'chartroomlaw05.DeltaBack': WHATEVER THE INPUT: true; the input reads as it did. -/
def deltaBackSpec : ChangeSpec := { name := "deltaBack", fn := fun _ => fun
  | [d1, d2, d3] => { results := [.lit (.bool true)], args := [d1, d2, d3] }
  | _ => none }
def deltaBackRow : OpenClaim := { program := "ytoeabgeglgiobaa", sum := "47457a9eff5d2f697ac807c882c0f9b97a6a514d1b81ed65af31a39616348f9b", func := "chartroom/chartroomlaw05.DeltaBack", spec := "deltaBack", inPlace := ["internal/abi.NoEscape"], unfollowed := true, recurses := true, apart := false }
def DeltaBackSaid : Prop := deltaBackRow.holds Try.pinned (OpenSpec.ofChange deltaBackSpec)

/-- ITS FALSE NEIGHBOUR: 'it returns false'. Refute it at one input. -/
def deltaBackWrong : ChangeSpec := { name := "deltaBack", fn := fun _ => fun
  | [d1, d2, d3] => { results := [.lit (.bool false)], args := [d1, d2, d3] }
  | _ => none }
def DeltaBackWrongFalsely : Prop := deltaBackRow.holds Try.pinned (OpenSpec.ofChange deltaBackWrong)

/-- 'chartroomlaw05.DeltaKnown': WHATEVER THE INPUT: true; the input reads as it did. -/
def deltaKnownSpec : ChangeSpec := { name := "deltaKnown", fn := fun _ => fun
  | [] => { results := [.lit (.bool true)], args := [] }
  | _ => none }
def deltaKnownRow : OpenClaim := { program := "ytoeabgeglgiobaa", sum := "47457a9eff5d2f697ac807c882c0f9b97a6a514d1b81ed65af31a39616348f9b", func := "chartroom/chartroomlaw05.DeltaKnown", spec := "deltaKnown", inPlace := ["internal/abi.NoEscape"], unfollowed := true, recurses := true, apart := false }
def DeltaKnownSaid : Prop := deltaKnownRow.holds Try.pinned (OpenSpec.ofChange deltaKnownSpec)

/-- ITS FALSE NEIGHBOUR: 'it returns false'. Refute it at one input. -/
def deltaKnownWrong : ChangeSpec := { name := "deltaKnown", fn := fun _ => fun
  | [] => { results := [.lit (.bool false)], args := [] }
  | _ => none }
def DeltaKnownWrongFalsely : Prop := deltaKnownRow.holds Try.pinned (OpenSpec.ofChange deltaKnownWrong)

/-- 'chartroomlaw15.VersionTells': WHATEVER THE INPUT: true; the input reads as it did. -/
def versionTellsSpec : ChangeSpec := { name := "versionTells", fn := fun _ => fun
  | [d1, d2] => { results := [.lit (.bool true)], args := [d1, d2] }
  | _ => none }
def versionTellsRow : OpenClaim := { program := "ytoeabgeglgiobaa", sum := "47457a9eff5d2f697ac807c882c0f9b97a6a514d1b81ed65af31a39616348f9b", func := "chartroom/chartroomlaw15.VersionTells", spec := "versionTells", inPlace := ["internal/abi.NoEscape"], unfollowed := true, recurses := true, apart := false }
def VersionTellsSaid : Prop := versionTellsRow.holds Try.pinned (OpenSpec.ofChange versionTellsSpec)

/-- ITS FALSE NEIGHBOUR: 'it returns false'. Refute it at one input. -/
def versionTellsWrong : ChangeSpec := { name := "versionTells", fn := fun _ => fun
  | [d1, d2] => { results := [.lit (.bool false)], args := [d1, d2] }
  | _ => none }
def VersionTellsWrongFalsely : Prop := versionTellsRow.holds Try.pinned (OpenSpec.ofChange versionTellsWrong)

/-- 'chartroomlaw15.VersionKeeps': WHATEVER THE INPUT: true; the input reads as it did. -/
def versionKeepsSpec : ChangeSpec := { name := "versionKeeps", fn := fun _ => fun
  | [d1, d2, d3] => { results := [.lit (.bool true)], args := [d1, d2, d3] }
  | _ => none }
def versionKeepsRow : OpenClaim := { program := "ytoeabgeglgiobaa", sum := "47457a9eff5d2f697ac807c882c0f9b97a6a514d1b81ed65af31a39616348f9b", func := "chartroom/chartroomlaw15.VersionKeeps", spec := "versionKeeps", inPlace := ["internal/abi.NoEscape"], unfollowed := true, recurses := true, apart := false }
def VersionKeepsSaid : Prop := versionKeepsRow.holds Try.pinned (OpenSpec.ofChange versionKeepsSpec)

/-- ITS FALSE NEIGHBOUR: 'it returns false'. Refute it at one input. -/
def versionKeepsWrong : ChangeSpec := { name := "versionKeeps", fn := fun _ => fun
  | [d1, d2, d3] => { results := [.lit (.bool false)], args := [d1, d2, d3] }
  | _ => none }
def VersionKeepsWrongFalsely : Prop := versionKeepsRow.holds Try.pinned (OpenSpec.ofChange versionKeepsWrong)

/-- 'chartroomlaw15.VersionChanges': WHATEVER THE INPUT: true; the input reads as it did. -/
def versionChangesSpec : ChangeSpec := { name := "versionChanges", fn := fun _ => fun
  | [d1, d2, d3, d4] => { results := [.lit (.bool true)], args := [d1, d2, d3, d4] }
  | _ => none }
def versionChangesRow : OpenClaim := { program := "ytoeabgeglgiobaa", sum := "47457a9eff5d2f697ac807c882c0f9b97a6a514d1b81ed65af31a39616348f9b", func := "chartroom/chartroomlaw15.VersionChanges", spec := "versionChanges", inPlace := ["internal/abi.NoEscape"], unfollowed := true, recurses := true, apart := false }
def VersionChangesSaid : Prop := versionChangesRow.holds Try.pinned (OpenSpec.ofChange versionChangesSpec)

/-- ITS FALSE NEIGHBOUR: 'it returns false'. Refute it at one input. -/
def versionChangesWrong : ChangeSpec := { name := "versionChanges", fn := fun _ => fun
  | [d1, d2, d3, d4] => { results := [.lit (.bool false)], args := [d1, d2, d3, d4] }
  | _ => none }
def VersionChangesWrongFalsely : Prop := versionChangesRow.holds Try.pinned (OpenSpec.ofChange versionChangesWrong)

/- THE SECOND FORM. 'bulk': how many values and letters a reading holds, each counted each time it is reached (what is shared counts as often as it is met; a slice's spare places count too). A statement '..UptoSaid' is the law's where the arguments, and the package variables that the reading takes, are together of bulk at most 1048576: NARROWER than '..Said'. Prove '..Said' where nothing that the law and all that it calls make is longer than what came in: it says more and counts as full. Else prove '..UptoSaid'. A law counts once. -/
mutual
def uptoBulk {H : Type} : DataW H → Nat
  | .lit (.string bytes) => bytes.length + 1
  | .lit _ => 1
  | .nil => 1
  | .ptr d => uptoBulk d + 1
  | .slice elems spare => uptoBulkAll elems + uptoBulkAll spare + 1
  | .agg parts => uptoBulkAll parts + 1
  | .iface _ d => uptoBulk d + 1
  | .map entries => uptoBulkEntries entries + 1
  | .held _ => 1
def uptoBulkAll {H : Type} : List (DataW H) → Nat
  | [] => 0
  | d :: r => uptoBulk d + uptoBulkAll r
def uptoBulkEntries {H : Type} : List (Lit × DataW H) → Nat
  | [] => 0
  | x :: r => uptoBulkEntry x + uptoBulkEntries r
def uptoBulkEntry {H : Type} : Lit × DataW H → Nat
  | (.string bytes, d) => bytes.length + uptoBulk d + 1
  | (_, d) => uptoBulk d + 1
 end
def uptoSmall : (H : Type) → List (DataW H) → Bool := fun _ ds => decide (uptoBulkAll ds ≤ 1048576)
def OpenSpec.upto (s : _root_.Go.ChangeSpec) : _root_.Go.OpenSpec := { _root_.Go.OpenSpec.ofChange s with cond := some uptoSmall }

/-- 'chartroomlaw01.VarintPuts', WHERE WHAT IT READS IS OF BULK AT MOST 1048576: true; the input reads as it did. -/
def varintPutsUptoRow : OpenClaim := { program := "ytoeabgeglgiobaa", sum := "47457a9eff5d2f697ac807c882c0f9b97a6a514d1b81ed65af31a39616348f9b", func := "chartroom/chartroomlaw01.VarintPuts", spec := "varintPuts", apart := false, narrowed := true }
def VarintPutsUptoSaid : Prop := varintPutsUptoRow.holds Try.pinned (OpenSpec.upto varintPutsSpec)

/-- 'chartroomlaw01.VarintTakes', WHERE WHAT IT READS IS OF BULK AT MOST 1048576: true; the input reads as it did. -/
def varintTakesUptoRow : OpenClaim := { program := "ytoeabgeglgiobaa", sum := "47457a9eff5d2f697ac807c882c0f9b97a6a514d1b81ed65af31a39616348f9b", func := "chartroom/chartroomlaw01.VarintTakes", spec := "varintTakes", apart := false, narrowed := true }
def VarintTakesUptoSaid : Prop := varintTakesUptoRow.holds Try.pinned (OpenSpec.upto varintTakesSpec)

/-- 'chartroomlaw01.VarintBack', WHERE WHAT IT READS IS OF BULK AT MOST 1048576: true; the input reads as it did. -/
def varintBackUptoRow : OpenClaim := { program := "ytoeabgeglgiobaa", sum := "47457a9eff5d2f697ac807c882c0f9b97a6a514d1b81ed65af31a39616348f9b", func := "chartroom/chartroomlaw01.VarintBack", spec := "varintBack", apart := false, narrowed := true }
def VarintBackUptoSaid : Prop := varintBackUptoRow.holds Try.pinned (OpenSpec.upto varintBackSpec)

/-- 'chartroomlaw01.VarintKnown', WHERE WHAT IT READS IS OF BULK AT MOST 1048576: true; the input reads as it did. -/
def varintKnownUptoRow : OpenClaim := { program := "ytoeabgeglgiobaa", sum := "47457a9eff5d2f697ac807c882c0f9b97a6a514d1b81ed65af31a39616348f9b", func := "chartroom/chartroomlaw01.VarintKnown", spec := "varintKnown", apart := false, narrowed := true }
def VarintKnownUptoSaid : Prop := varintKnownUptoRow.holds Try.pinned (OpenSpec.upto varintKnownSpec)

/-- 'chartroomlaw03.FrameTakes', WHERE WHAT IT READS IS OF BULK AT MOST 1048576: true; the input reads as it did. -/
def frameTakesUptoRow : OpenClaim := { program := "ytoeabgeglgiobaa", sum := "47457a9eff5d2f697ac807c882c0f9b97a6a514d1b81ed65af31a39616348f9b", func := "chartroom/chartroomlaw03.FrameTakes", spec := "frameTakes", apart := false, narrowed := true }
def FrameTakesUptoSaid : Prop := frameTakesUptoRow.holds Try.pinned (OpenSpec.upto frameTakesSpec)

/-- 'chartroomlaw03.FrameBits', WHERE WHAT IT READS IS OF BULK AT MOST 1048576: true; the input reads as it did. -/
def frameBitsUptoRow : OpenClaim := { program := "ytoeabgeglgiobaa", sum := "47457a9eff5d2f697ac807c882c0f9b97a6a514d1b81ed65af31a39616348f9b", func := "chartroom/chartroomlaw03.FrameBits", spec := "frameBits", apart := false, narrowed := true }
def FrameBitsUptoSaid : Prop := frameBitsUptoRow.holds Try.pinned (OpenSpec.upto frameBitsSpec)

/-- 'chartroomlaw03.FramePuts', WHERE WHAT IT READS IS OF BULK AT MOST 1048576: true; the input reads as it did. -/
def framePutsUptoRow : OpenClaim := { program := "ytoeabgeglgiobaa", sum := "47457a9eff5d2f697ac807c882c0f9b97a6a514d1b81ed65af31a39616348f9b", func := "chartroom/chartroomlaw03.FramePuts", spec := "framePuts", apart := false, narrowed := true }
def FramePutsUptoSaid : Prop := framePutsUptoRow.holds Try.pinned (OpenSpec.upto framePutsSpec)

/-- 'chartroomlaw15.VersionBytes', WHERE WHAT IT READS IS OF BULK AT MOST 1048576: true; the input reads as it did. -/
def versionBytesUptoRow : OpenClaim := { program := "ytoeabgeglgiobaa", sum := "47457a9eff5d2f697ac807c882c0f9b97a6a514d1b81ed65af31a39616348f9b", func := "chartroom/chartroomlaw15.VersionBytes", spec := "versionBytes", inPlace := ["internal/abi.NoEscape"], unfollowed := true, recurses := true, apart := false, narrowed := true }
def VersionBytesUptoSaid : Prop := versionBytesUptoRow.holds Try.pinned (OpenSpec.upto versionBytesSpec)

/-- 'chartroomlaw03.FrameBack', WHERE WHAT IT READS IS OF BULK AT MOST 1048576: true; the input reads as it did. -/
def frameBackUptoRow : OpenClaim := { program := "ytoeabgeglgiobaa", sum := "47457a9eff5d2f697ac807c882c0f9b97a6a514d1b81ed65af31a39616348f9b", func := "chartroom/chartroomlaw03.FrameBack", spec := "frameBack", apart := false, narrowed := true }
def FrameBackUptoSaid : Prop := frameBackUptoRow.holds Try.pinned (OpenSpec.upto frameBackSpec)

/-- 'chartroomlaw03.FrameKnown', WHERE WHAT IT READS IS OF BULK AT MOST 1048576: true; the input reads as it did. -/
def frameKnownUptoRow : OpenClaim := { program := "ytoeabgeglgiobaa", sum := "47457a9eff5d2f697ac807c882c0f9b97a6a514d1b81ed65af31a39616348f9b", func := "chartroom/chartroomlaw03.FrameKnown", spec := "frameKnown", apart := false, narrowed := true }
def FrameKnownUptoSaid : Prop := frameKnownUptoRow.holds Try.pinned (OpenSpec.upto frameKnownSpec)

/-- 'chartroomlaw15.VersionKnown', WHERE WHAT IT READS IS OF BULK AT MOST 1048576: true; the input reads as it did. -/
def versionKnownUptoRow : OpenClaim := { program := "ytoeabgeglgiobaa", sum := "47457a9eff5d2f697ac807c882c0f9b97a6a514d1b81ed65af31a39616348f9b", func := "chartroom/chartroomlaw15.VersionKnown", spec := "versionKnown", inPlace := ["internal/abi.NoEscape"], unfollowed := true, recurses := true, apart := false, narrowed := true }
def VersionKnownUptoSaid : Prop := versionKnownUptoRow.holds Try.pinned (OpenSpec.upto versionKnownSpec)

/-- 'chartroomlaw06.RecordPuts', WHERE WHAT IT READS IS OF BULK AT MOST 1048576: true; the input reads as it did. -/
def recordPutsUptoRow : OpenClaim := { program := "ytoeabgeglgiobaa", sum := "47457a9eff5d2f697ac807c882c0f9b97a6a514d1b81ed65af31a39616348f9b", func := "chartroom/chartroomlaw06.RecordPuts", spec := "recordPuts", unfollowed := true, recurses := true, apart := false, narrowed := true }
def RecordPutsUptoSaid : Prop := recordPutsUptoRow.holds Try.pinned (OpenSpec.upto recordPutsSpec)

/-- 'chartroomlaw11.JournalAppends', WHERE WHAT IT READS IS OF BULK AT MOST 1048576: true; the input reads as it did. -/
def journalAppendsUptoRow : OpenClaim := { program := "ytoeabgeglgiobaa", sum := "47457a9eff5d2f697ac807c882c0f9b97a6a514d1b81ed65af31a39616348f9b", func := "chartroom/chartroomlaw11.JournalAppends", spec := "journalAppends", unfollowed := true, recurses := true, apart := false, narrowed := true }
def JournalAppendsUptoSaid : Prop := journalAppendsUptoRow.holds Try.pinned (OpenSpec.upto journalAppendsSpec)

/-- 'chartroomlaw11.JournalKeeps', WHERE WHAT IT READS IS OF BULK AT MOST 1048576: true; the input reads as it did. -/
def journalKeepsUptoRow : OpenClaim := { program := "ytoeabgeglgiobaa", sum := "47457a9eff5d2f697ac807c882c0f9b97a6a514d1b81ed65af31a39616348f9b", func := "chartroom/chartroomlaw11.JournalKeeps", spec := "journalKeeps", unfollowed := true, recurses := true, apart := false, narrowed := true }
def JournalKeepsUptoSaid : Prop := journalKeepsUptoRow.holds Try.pinned (OpenSpec.upto journalKeepsSpec)

/-- 'chartroomlaw05.DeltaApplies', WHERE WHAT IT READS IS OF BULK AT MOST 1048576: true; the input reads as it did. -/
def deltaAppliesUptoRow : OpenClaim := { program := "ytoeabgeglgiobaa", sum := "47457a9eff5d2f697ac807c882c0f9b97a6a514d1b81ed65af31a39616348f9b", func := "chartroom/chartroomlaw05.DeltaApplies", spec := "deltaApplies", inPlace := ["internal/abi.NoEscape"], unfollowed := true, recurses := true, apart := false, narrowed := true }
def DeltaAppliesUptoSaid : Prop := deltaAppliesUptoRow.holds Try.pinned (OpenSpec.upto deltaAppliesSpec)

/-- 'chartroomlaw05.DeltaDiffs', WHERE WHAT IT READS IS OF BULK AT MOST 1048576: true; the input reads as it did. -/
def deltaDiffsUptoRow : OpenClaim := { program := "ytoeabgeglgiobaa", sum := "47457a9eff5d2f697ac807c882c0f9b97a6a514d1b81ed65af31a39616348f9b", func := "chartroom/chartroomlaw05.DeltaDiffs", spec := "deltaDiffs", inPlace := ["internal/abi.NoEscape"], unfollowed := true, recurses := true, apart := false, narrowed := true }
def DeltaDiffsUptoSaid : Prop := deltaDiffsUptoRow.holds Try.pinned (OpenSpec.upto deltaDiffsSpec)

/-- 'chartroomlaw06.RecordReads', WHERE WHAT IT READS IS OF BULK AT MOST 1048576: true; the input reads as it did. -/
def recordReadsUptoRow : OpenClaim := { program := "ytoeabgeglgiobaa", sum := "47457a9eff5d2f697ac807c882c0f9b97a6a514d1b81ed65af31a39616348f9b", func := "chartroom/chartroomlaw06.RecordReads", spec := "recordReads", unfollowed := true, recurses := true, apart := false, narrowed := true }
def RecordReadsUptoSaid : Prop := recordReadsUptoRow.holds Try.pinned (OpenSpec.upto recordReadsSpec)

/-- 'chartroomlaw06.RecordBodies', WHERE WHAT IT READS IS OF BULK AT MOST 1048576: true; the input reads as it did. -/
def recordBodiesUptoRow : OpenClaim := { program := "ytoeabgeglgiobaa", sum := "47457a9eff5d2f697ac807c882c0f9b97a6a514d1b81ed65af31a39616348f9b", func := "chartroom/chartroomlaw06.RecordBodies", spec := "recordBodies", unfollowed := true, recurses := true, apart := false, narrowed := true }
def RecordBodiesUptoSaid : Prop := recordBodiesUptoRow.holds Try.pinned (OpenSpec.upto recordBodiesSpec)

/-- 'chartroomlaw06.RecordBack', WHERE WHAT IT READS IS OF BULK AT MOST 1048576: true; the input reads as it did. -/
def recordBackUptoRow : OpenClaim := { program := "ytoeabgeglgiobaa", sum := "47457a9eff5d2f697ac807c882c0f9b97a6a514d1b81ed65af31a39616348f9b", func := "chartroom/chartroomlaw06.RecordBack", spec := "recordBack", unfollowed := true, recurses := true, apart := false, narrowed := true }
def RecordBackUptoSaid : Prop := recordBackUptoRow.holds Try.pinned (OpenSpec.upto recordBackSpec)

/-- 'chartroomlaw06.RecordKnown', WHERE WHAT IT READS IS OF BULK AT MOST 1048576: true; the input reads as it did. -/
def recordKnownUptoRow : OpenClaim := { program := "ytoeabgeglgiobaa", sum := "47457a9eff5d2f697ac807c882c0f9b97a6a514d1b81ed65af31a39616348f9b", func := "chartroom/chartroomlaw06.RecordKnown", spec := "recordKnown", unfollowed := true, recurses := true, apart := false, narrowed := true }
def RecordKnownUptoSaid : Prop := recordKnownUptoRow.holds Try.pinned (OpenSpec.upto recordKnownSpec)

/-- 'chartroomlaw05.DeltaParses', WHERE WHAT IT READS IS OF BULK AT MOST 1048576: true; the input reads as it did. -/
def deltaParsesUptoRow : OpenClaim := { program := "ytoeabgeglgiobaa", sum := "47457a9eff5d2f697ac807c882c0f9b97a6a514d1b81ed65af31a39616348f9b", func := "chartroom/chartroomlaw05.DeltaParses", spec := "deltaParses", inPlace := ["internal/abi.NoEscape"], unfollowed := true, recurses := true, apart := false, narrowed := true }
def DeltaParsesUptoSaid : Prop := deltaParsesUptoRow.holds Try.pinned (OpenSpec.upto deltaParsesSpec)

/-- 'chartroomlaw05.DeltaBack', WHERE WHAT IT READS IS OF BULK AT MOST 1048576: true; the input reads as it did. -/
def deltaBackUptoRow : OpenClaim := { program := "ytoeabgeglgiobaa", sum := "47457a9eff5d2f697ac807c882c0f9b97a6a514d1b81ed65af31a39616348f9b", func := "chartroom/chartroomlaw05.DeltaBack", spec := "deltaBack", inPlace := ["internal/abi.NoEscape"], unfollowed := true, recurses := true, apart := false, narrowed := true }
def DeltaBackUptoSaid : Prop := deltaBackUptoRow.holds Try.pinned (OpenSpec.upto deltaBackSpec)

/-- 'chartroomlaw05.DeltaKnown', WHERE WHAT IT READS IS OF BULK AT MOST 1048576: true; the input reads as it did. -/
def deltaKnownUptoRow : OpenClaim := { program := "ytoeabgeglgiobaa", sum := "47457a9eff5d2f697ac807c882c0f9b97a6a514d1b81ed65af31a39616348f9b", func := "chartroom/chartroomlaw05.DeltaKnown", spec := "deltaKnown", inPlace := ["internal/abi.NoEscape"], unfollowed := true, recurses := true, apart := false, narrowed := true }
def DeltaKnownUptoSaid : Prop := deltaKnownUptoRow.holds Try.pinned (OpenSpec.upto deltaKnownSpec)

/-- 'chartroomlaw15.VersionTells', WHERE WHAT IT READS IS OF BULK AT MOST 1048576: true; the input reads as it did. -/
def versionTellsUptoRow : OpenClaim := { program := "ytoeabgeglgiobaa", sum := "47457a9eff5d2f697ac807c882c0f9b97a6a514d1b81ed65af31a39616348f9b", func := "chartroom/chartroomlaw15.VersionTells", spec := "versionTells", inPlace := ["internal/abi.NoEscape"], unfollowed := true, recurses := true, apart := false, narrowed := true }
def VersionTellsUptoSaid : Prop := versionTellsUptoRow.holds Try.pinned (OpenSpec.upto versionTellsSpec)

/-- 'chartroomlaw15.VersionKeeps', WHERE WHAT IT READS IS OF BULK AT MOST 1048576: true; the input reads as it did. -/
def versionKeepsUptoRow : OpenClaim := { program := "ytoeabgeglgiobaa", sum := "47457a9eff5d2f697ac807c882c0f9b97a6a514d1b81ed65af31a39616348f9b", func := "chartroom/chartroomlaw15.VersionKeeps", spec := "versionKeeps", inPlace := ["internal/abi.NoEscape"], unfollowed := true, recurses := true, apart := false, narrowed := true }
def VersionKeepsUptoSaid : Prop := versionKeepsUptoRow.holds Try.pinned (OpenSpec.upto versionKeepsSpec)

/-- 'chartroomlaw15.VersionChanges', WHERE WHAT IT READS IS OF BULK AT MOST 1048576: true; the input reads as it did. -/
def versionChangesUptoRow : OpenClaim := { program := "ytoeabgeglgiobaa", sum := "47457a9eff5d2f697ac807c882c0f9b97a6a514d1b81ed65af31a39616348f9b", func := "chartroom/chartroomlaw15.VersionChanges", spec := "versionChanges", inPlace := ["internal/abi.NoEscape"], unfollowed := true, recurses := true, apart := false, narrowed := true }
def VersionChangesUptoSaid : Prop := versionChangesUptoRow.holds Try.pinned (OpenSpec.upto versionChangesSpec)

end Rows
end Go.Proofs.Ytoeabgeglgiobaa
