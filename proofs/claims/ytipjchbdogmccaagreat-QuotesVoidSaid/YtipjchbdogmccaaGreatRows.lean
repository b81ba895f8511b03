/-
  No cell of these rows narrows 'for every input' (looked for: loops, veiled, ifaces, maps, wideKeys, modest, calm, conditions, laid).
  DERIVED. THE GIVEN ROWS OF THIS SEAT. 11 by the template 'for every input the law returns true; each argument reads behind the call as it read before'; 0 by the template 'total and deterministic' (their statements: YtipjchbdogmccaaGreatTotals.lean).
  GIVEN WITH THE SEED: the statements are not yours to turn. If you find one false, say at which input.
  Laid BY PROGRAM, IN A SANDBOX (cutbox-rows.mjs): the forced cells as the released guide's own fill.sh prints them over the translation 51c214810594276a… (all of the seat's roots in one cut). By AI agents, Wed Nov 11 2026. No macro, syntax, notation, axiom, sorry.
-/
import Derived.Test.YtipjchbdogmccaaGreatChecked
import GoSem.Claim
import GoSem.ClaimJoined
import GoSem.ClaimMapViews
import Derived.JoinedTies
import Derived.KernelRfl
namespace Go.Proofs.YtipjchbdogmccaaGreat
/- THE CELL 'sum', in the pinned program and in every row, IS THE sha256 OF THE DUMP (.gsa) THAT YtipjchbdogmccaaGreatProg.lean LOADS. Nothing in Lean hashes anything: it is a label: what it is worth is what the hold of that sum in a sandbox is worth. -/
noncomputable def Tryz.pinned : Pinned := { name := "ytipjchbdogmccaagreat", sum := "51c214810594276a23cff544a29261cc419b6089b58e38f01ebff48aa51577b6", checked := Tryz.checked }
namespace Rows
def none {H : Type} : Left H := { results := [], args := [] }

/-- 'countinghouselaw14.MachinesMoves': WHATEVER THE INPUT: true; the input reads as it did. -/
def machinesMovesSpec : ChangeSpec := { name := "machinesMoves", fn := fun _ => fun
  | [d1, d2] => { results := [.lit (.bool true)], args := [d1, d2] }
  | _ => none }
def machinesMovesRow : OpenClaim := { program := "ytipjchbdogmccaagreat", sum := "51c214810594276a23cff544a29261cc419b6089b58e38f01ebff48aa51577b6", func := "countinghouse/countinghouselaw14.MachinesMoves", spec := "machinesMoves", inPlace := ["maps.clone", "math/bits.Add64"], unfollowed := true, recurses := true, named := ["math/bits.divideError", "math/bits.overflowError"], plainKeys := false, apart := false }
def MachinesMovesSaid : Prop := machinesMovesRow.holds Tryz.pinned (OpenSpec.ofChange machinesMovesSpec)

/-- ITS FALSE NEIGHBOUR: 'it returns false'. Refute it at one input. -/
def machinesMovesWrong : ChangeSpec := { name := "machinesMoves", fn := fun _ => fun
  | [d1, d2] => { results := [.lit (.bool false)], args := [d1, d2] }
  | _ => none }
def MachinesMovesWrongFalsely : Prop := machinesMovesRow.holds Tryz.pinned (OpenSpec.ofChange machinesMovesWrong)

/-- 'countinghouselaw29.JudgesFine': WHATEVER THE INPUT: true; the input reads as it did. -/
def judgesFineSpec : ChangeSpec := { name := "judgesFine", fn := fun _ => fun
  | [d1, d2] => { results := [.lit (.bool true)], args := [d1, d2] }
  | _ => none }
def judgesFineRow : OpenClaim := { program := "ytipjchbdogmccaagreat", sum := "51c214810594276a23cff544a29261cc419b6089b58e38f01ebff48aa51577b6", func := "countinghouse/countinghouselaw29.JudgesFine", spec := "judgesFine", inPlace := ["maps.clone", "math/bits.Add64"], unfollowed := true, recurses := true, named := ["math/bits.divideError", "math/bits.overflowError"], plainKeys := false, apart := false }
def JudgesFineSaid : Prop := judgesFineRow.holds Tryz.pinned (OpenSpec.ofChange judgesFineSpec)

/-- ITS FALSE NEIGHBOUR: 'it returns false'. Refute it at one input. -/
def judgesFineWrong : ChangeSpec := { name := "judgesFine", fn := fun _ => fun
  | [d1, d2] => { results := [.lit (.bool false)], args := [d1, d2] }
  | _ => none }
def JudgesFineWrongFalsely : Prop := judgesFineRow.holds Tryz.pinned (OpenSpec.ofChange judgesFineWrong)

/-- 'countinghouselaw29.JudgesWrong': WHATEVER THE INPUT: true; the input reads as it did. -/
def judgesWrongSpec : ChangeSpec := { name := "judgesWrong", fn := fun _ => fun
  | [d1, d2, d3] => { results := [.lit (.bool true)], args := [d1, d2, d3] }
  | _ => none }
def judgesWrongRow : OpenClaim := { program := "ytipjchbdogmccaagreat", sum := "51c214810594276a23cff544a29261cc419b6089b58e38f01ebff48aa51577b6", func := "countinghouse/countinghouselaw29.JudgesWrong", spec := "judgesWrong", inPlace := ["maps.clone", "math/bits.Add64"], unfollowed := true, recurses := true, named := ["math/bits.divideError", "math/bits.overflowError"], plainKeys := false, apart := false }
def JudgesWrongSaid : Prop := judgesWrongRow.holds Tryz.pinned (OpenSpec.ofChange judgesWrongSpec)

/-- ITS FALSE NEIGHBOUR: 'it returns false'. Refute it at one input. -/
def judgesWrongWrong : ChangeSpec := { name := "judgesWrong", fn := fun _ => fun
  | [d1, d2, d3] => { results := [.lit (.bool false)], args := [d1, d2, d3] }
  | _ => none }
def JudgesWrongWrongFalsely : Prop := judgesWrongRow.holds Tryz.pinned (OpenSpec.ofChange judgesWrongWrong)

/-- 'countinghouselaw32.JournalsEven': WHATEVER THE INPUT: true; the input reads as it did. -/
def journalsEvenSpec : ChangeSpec := { name := "journalsEven", fn := fun _ => fun
  | [d1, d2] => { results := [.lit (.bool true)], args := [d1, d2] }
  | _ => none }
def journalsEvenRow : OpenClaim := { program := "ytipjchbdogmccaagreat", sum := "51c214810594276a23cff544a29261cc419b6089b58e38f01ebff48aa51577b6", func := "countinghouse/countinghouselaw32.JournalsEven", spec := "journalsEven", inPlace := ["maps.clone", "math/bits.Add64"], unfollowed := true, recurses := true, named := ["math/bits.divideError", "math/bits.overflowError"], plainKeys := false, apart := false }
def JournalsEvenSaid : Prop := journalsEvenRow.holds Tryz.pinned (OpenSpec.ofChange journalsEvenSpec)

/-- ITS FALSE NEIGHBOUR: 'it returns false'. Refute it at one input. -/
def journalsEvenWrong : ChangeSpec := { name := "journalsEven", fn := fun _ => fun
  | [d1, d2] => { results := [.lit (.bool false)], args := [d1, d2] }
  | _ => none }
def JournalsEvenWrongFalsely : Prop := journalsEvenRow.holds Tryz.pinned (OpenSpec.ofChange journalsEvenWrong)

/-- 'countinghouselaw32.JournalsChain': WHATEVER THE INPUT: true; the input reads as it did. -/
def journalsChainSpec : ChangeSpec := { name := "journalsChain", fn := fun _ => fun
  | [d1, d2, d3] => { results := [.lit (.bool true)], args := [d1, d2, d3] }
  | _ => none }
def journalsChainRow : OpenClaim := { program := "ytipjchbdogmccaagreat", sum := "51c214810594276a23cff544a29261cc419b6089b58e38f01ebff48aa51577b6", func := "countinghouse/countinghouselaw32.JournalsChain", spec := "journalsChain", inPlace := ["maps.clone", "math/bits.Add64"], unfollowed := true, recurses := true, named := ["math/bits.divideError", "math/bits.overflowError"], plainKeys := false, apart := false }
def JournalsChainSaid : Prop := journalsChainRow.holds Tryz.pinned (OpenSpec.ofChange journalsChainSpec)

/-- ITS FALSE NEIGHBOUR: 'it returns false'. Refute it at one input. -/
def journalsChainWrong : ChangeSpec := { name := "journalsChain", fn := fun _ => fun
  | [d1, d2, d3] => { results := [.lit (.bool false)], args := [d1, d2, d3] }
  | _ => none }
def JournalsChainWrongFalsely : Prop := journalsChainRow.holds Tryz.pinned (OpenSpec.ofChange journalsChainWrong)

/-- 'countinghouselaw32.JournalsAnswer': WHATEVER THE INPUT: true; the input reads as it did. -/
def journalsAnswerSpec : ChangeSpec := { name := "journalsAnswer", fn := fun _ => fun
  | [d1, d2] => { results := [.lit (.bool true)], args := [d1, d2] }
  | _ => none }
def journalsAnswerRow : OpenClaim := { program := "ytipjchbdogmccaagreat", sum := "51c214810594276a23cff544a29261cc419b6089b58e38f01ebff48aa51577b6", func := "countinghouse/countinghouselaw32.JournalsAnswer", spec := "journalsAnswer", inPlace := ["maps.clone", "math/bits.Add64"], unfollowed := true, recurses := true, named := ["math/bits.divideError", "math/bits.overflowError"], plainKeys := false, apart := false }
def JournalsAnswerSaid : Prop := journalsAnswerRow.holds Tryz.pinned (OpenSpec.ofChange journalsAnswerSpec)

/-- ITS FALSE NEIGHBOUR: 'it returns false'. Refute it at one input. -/
def journalsAnswerWrong : ChangeSpec := { name := "journalsAnswer", fn := fun _ => fun
  | [d1, d2] => { results := [.lit (.bool false)], args := [d1, d2] }
  | _ => none }
def JournalsAnswerWrongFalsely : Prop := journalsAnswerRow.holds Tryz.pinned (OpenSpec.ofChange journalsAnswerWrong)

/-- 'countinghouselaw32.JournalsVoid': WHATEVER THE INPUT: true; the input reads as it did. -/
def journalsVoidSpec : ChangeSpec := { name := "journalsVoid", fn := fun _ => fun
  | [d1, d2] => { results := [.lit (.bool true)], args := [d1, d2] }
  | _ => none }
def journalsVoidRow : OpenClaim := { program := "ytipjchbdogmccaagreat", sum := "51c214810594276a23cff544a29261cc419b6089b58e38f01ebff48aa51577b6", func := "countinghouse/countinghouselaw32.JournalsVoid", spec := "journalsVoid", inPlace := ["maps.clone", "math/bits.Add64"], unfollowed := true, recurses := true, named := ["math/bits.divideError", "math/bits.overflowError"], plainKeys := false, apart := false }
def JournalsVoidSaid : Prop := journalsVoidRow.holds Tryz.pinned (OpenSpec.ofChange journalsVoidSpec)

/-- ITS FALSE NEIGHBOUR: 'it returns false'. Refute it at one input. -/
def journalsVoidWrong : ChangeSpec := { name := "journalsVoid", fn := fun _ => fun
  | [d1, d2] => { results := [.lit (.bool false)], args := [d1, d2] }
  | _ => none }
def JournalsVoidWrongFalsely : Prop := journalsVoidRow.holds Tryz.pinned (OpenSpec.ofChange journalsVoidWrong)

/-- 'countinghouselaw31.QuotesVoid': WHATEVER THE INPUT: true; the input reads as it did. -/
def quotesVoidSpec : ChangeSpec := { name := "quotesVoid", fn := fun _ => fun
  | [d1, d2] => { results := [.lit (.bool true)], args := [d1, d2] }
  | _ => none }
def quotesVoidRow : OpenClaim := { program := "ytipjchbdogmccaagreat", sum := "51c214810594276a23cff544a29261cc419b6089b58e38f01ebff48aa51577b6", func := "countinghouse/countinghouselaw31.QuotesVoid", spec := "quotesVoid", inPlace := ["maps.clone", "math/bits.Add64"], unfollowed := true, recurses := true, named := ["math/bits.divideError", "math/bits.overflowError"], plainKeys := false, apart := false }
def QuotesVoidSaid : Prop := quotesVoidRow.holds Tryz.pinned (OpenSpec.ofChange quotesVoidSpec)

/-- ITS FALSE NEIGHBOUR: 'it returns false'. Refute it at one input. -/
def quotesVoidWrong : ChangeSpec := { name := "quotesVoid", fn := fun _ => fun
  | [d1, d2] => { results := [.lit (.bool false)], args := [d1, d2] }
  | _ => none }
def QuotesVoidWrongFalsely : Prop := quotesVoidRow.holds Tryz.pinned (OpenSpec.ofChange quotesVoidWrong)

/-- 'countinghouselaw31.QuotesDone': WHATEVER THE INPUT: true; the input reads as it did. -/
def quotesDoneSpec : ChangeSpec := { name := "quotesDone", fn := fun _ => fun
  | [d1, d2] => { results := [.lit (.bool true)], args := [d1, d2] }
  | _ => none }
def quotesDoneRow : OpenClaim := { program := "ytipjchbdogmccaagreat", sum := "51c214810594276a23cff544a29261cc419b6089b58e38f01ebff48aa51577b6", func := "countinghouse/countinghouselaw31.QuotesDone", spec := "quotesDone", inPlace := ["maps.clone", "math/bits.Add64"], unfollowed := true, recurses := true, named := ["math/bits.divideError", "math/bits.overflowError"], plainKeys := false, apart := false }
def QuotesDoneSaid : Prop := quotesDoneRow.holds Tryz.pinned (OpenSpec.ofChange quotesDoneSpec)

/-- ITS FALSE NEIGHBOUR: 'it returns false'. Refute it at one input. -/
def quotesDoneWrong : ChangeSpec := { name := "quotesDone", fn := fun _ => fun
  | [d1, d2] => { results := [.lit (.bool false)], args := [d1, d2] }
  | _ => none }
def QuotesDoneWrongFalsely : Prop := quotesDoneRow.holds Tryz.pinned (OpenSpec.ofChange quotesDoneWrong)

/-- 'countinghouselaw31.QuotesLeast': WHATEVER THE INPUT: true; the input reads as it did. -/
def quotesLeastSpec : ChangeSpec := { name := "quotesLeast", fn := fun _ => fun
  | [d1, d2] => { results := [.lit (.bool true)], args := [d1, d2] }
  | _ => none }
def quotesLeastRow : OpenClaim := { program := "ytipjchbdogmccaagreat", sum := "51c214810594276a23cff544a29261cc419b6089b58e38f01ebff48aa51577b6", func := "countinghouse/countinghouselaw31.QuotesLeast", spec := "quotesLeast", inPlace := ["maps.clone", "math/bits.Add64"], unfollowed := true, recurses := true, named := ["math/bits.divideError", "math/bits.overflowError"], plainKeys := false, apart := false }
def QuotesLeastSaid : Prop := quotesLeastRow.holds Tryz.pinned (OpenSpec.ofChange quotesLeastSpec)

/-- ITS FALSE NEIGHBOUR: 'it returns false'. Refute it at one input. -/
def quotesLeastWrong : ChangeSpec := { name := "quotesLeast", fn := fun _ => fun
  | [d1, d2] => { results := [.lit (.bool false)], args := [d1, d2] }
  | _ => none }
def QuotesLeastWrongFalsely : Prop := quotesLeastRow.holds Tryz.pinned (OpenSpec.ofChange quotesLeastWrong)

/-- 'countinghouselaw31.QuotesMost': WHATEVER THE INPUT: true; the input reads as it did. -/
def quotesMostSpec : ChangeSpec := { name := "quotesMost", fn := fun _ => fun
  | [d1, d2] => { results := [.lit (.bool true)], args := [d1, d2] }
  | _ => none }
def quotesMostRow : OpenClaim := { program := "ytipjchbdogmccaagreat", sum := "51c214810594276a23cff544a29261cc419b6089b58e38f01ebff48aa51577b6", func := "countinghouse/countinghouselaw31.QuotesMost", spec := "quotesMost", inPlace := ["maps.clone", "math/bits.Add64"], unfollowed := true, recurses := true, named := ["math/bits.divideError", "math/bits.overflowError"], plainKeys := false, apart := false }
def QuotesMostSaid : Prop := quotesMostRow.holds Tryz.pinned (OpenSpec.ofChange quotesMostSpec)

/-- ITS FALSE NEIGHBOUR: 'it returns false'. Refute it at one input. -/
def quotesMostWrong : ChangeSpec := { name := "quotesMost", fn := fun _ => fun
  | [d1, d2] => { results := [.lit (.bool false)], args := [d1, d2] }
  | _ => none }
def QuotesMostWrongFalsely : Prop := quotesMostRow.holds Tryz.pinned (OpenSpec.ofChange quotesMostWrong)

/- THE SECOND FORM. 'bulk': how many values and letters a reading holds, each counted each time it is reached (what is shared counts as often as it is met; a slice's spare places count too). A statement '..UptoSaid' is the law's where the arguments, and the package variables that the reading takes, are together of bulk at most 1048576: NARROWER than '..Said'. Prove '..Said' where nothing that the law and all that it calls make is longer than what came in: it says more and counts as full. Else prove '..UptoSaid'. A law counts once. -/
mutual
def uptoBulk {H : Type} : DataW H → Nat
  | .lit (.string bytes) => bytes.length + 1
  | .lit _ => 1
  | .nil => 1
  | .ptr d => uptoBulk d + 1
  | .slice elems spare => uptoBulkAll elems + uptoBulkAll spare + 1
  | .agg parts => uptoBulkAll parts + 1
  | .iface _ d => uptoBulk d + 1
  | .map entries => uptoBulkEntries entries + 1
  | .held _ => 1
def uptoBulkAll {H : Type} : List (DataW H) → Nat
  | [] => 0
  | d :: r => uptoBulk d + uptoBulkAll r
def uptoBulkEntries {H : Type} : List (Lit × DataW H) → Nat
  | [] => 0
  | x :: r => uptoBulkEntry x + uptoBulkEntries r
def uptoBulkEntry {H : Type} : Lit × DataW H → Nat
  | (.string bytes, d) => bytes.length + uptoBulk d + 1
  | (_, d) => uptoBulk d + 1
 end
def uptoSmall : (H : Type) → List (DataW H) → Bool := fun _ ds => decide (uptoBulkAll ds ≤ 1048576)
def OpenSpec.upto (s : _root_.Go.ChangeSpec) : _root_.Go.OpenSpec := { _root_.Go.OpenSpec.ofChange s with cond := some uptoSmall }

/-- 'countinghouselaw14.MachinesMoves', WHERE WHAT IT READS IS OF BULK AT MOST 1048576: true; the input reads as it did. -/
def machinesMovesUptoRow : OpenClaim := { program := "ytipjchbdogmccaagreat", sum := "51c214810594276a23cff544a29261cc419b6089b58e38f01ebff48aa51577b6", func := "countinghouse/countinghouselaw14.MachinesMoves", spec := "machinesMoves", inPlace := ["maps.clone", "math/bits.Add64"], unfollowed := true, recurses := true, named := ["math/bits.divideError", "math/bits.overflowError"], plainKeys := false, apart := false, narrowed := true }
def MachinesMovesUptoSaid : Prop := machinesMovesUptoRow.holds Tryz.pinned (OpenSpec.upto machinesMovesSpec)

/-- 'countinghouselaw29.JudgesFine', WHERE WHAT IT READS IS OF BULK AT MOST 1048576: true; the input reads as it did. -/
def judgesFineUptoRow : OpenClaim := { program := "ytipjchbdogmccaagreat", sum := "51c214810594276a23cff544a29261cc419b6089b58e38f01ebff48aa51577b6", func := "countinghouse/countinghouselaw29.JudgesFine", spec := "judgesFine", inPlace := ["maps.clone", "math/bits.Add64"], unfollowed := true, recurses := true, named := ["math/bits.divideError", "math/bits.overflowError"], plainKeys := false, apart := false, narrowed := true }
def JudgesFineUptoSaid : Prop := judgesFineUptoRow.holds Tryz.pinned (OpenSpec.upto judgesFineSpec)

/-- 'countinghouselaw29.JudgesWrong', WHERE WHAT IT READS IS OF BULK AT MOST 1048576: true; the input reads as it did. -/
def judgesWrongUptoRow : OpenClaim := { program := "ytipjchbdogmccaagreat", sum := "51c214810594276a23cff544a29261cc419b6089b58e38f01ebff48aa51577b6", func := "countinghouse/countinghouselaw29.JudgesWrong", spec := "judgesWrong", inPlace := ["maps.clone", "math/bits.Add64"], unfollowed := true, recurses := true, named := ["math/bits.divideError", "math/bits.overflowError"], plainKeys := false, apart := false, narrowed := true }
def JudgesWrongUptoSaid : Prop := judgesWrongUptoRow.holds Tryz.pinned (OpenSpec.upto judgesWrongSpec)

/-- 'countinghouselaw32.JournalsEven', WHERE WHAT IT READS IS OF BULK AT MOST 1048576: true; the input reads as it did. -/
def journalsEvenUptoRow : OpenClaim := { program := "ytipjchbdogmccaagreat", sum := "51c214810594276a23cff544a29261cc419b6089b58e38f01ebff48aa51577b6", func := "countinghouse/countinghouselaw32.JournalsEven", spec := "journalsEven", inPlace := ["maps.clone", "math/bits.Add64"], unfollowed := true, recurses := true, named := ["math/bits.divideError", "math/bits.overflowError"], plainKeys := false, apart := false, narrowed := true }
def JournalsEvenUptoSaid : Prop := journalsEvenUptoRow.holds Tryz.pinned (OpenSpec.upto journalsEvenSpec)

/-- 'countinghouselaw32.JournalsChain', WHERE WHAT IT READS IS OF BULK AT MOST 1048576: true; the input reads as it did. -/
def journalsChainUptoRow : OpenClaim := { program := "ytipjchbdogmccaagreat", sum := "51c214810594276a23cff544a29261cc419b6089b58e38f01ebff48aa51577b6", func := "countinghouse/countinghouselaw32.JournalsChain", spec := "journalsChain", inPlace := ["maps.clone", "math/bits.Add64"], unfollowed := true, recurses := true, named := ["math/bits.divideError", "math/bits.overflowError"], plainKeys := false, apart := false, narrowed := true }
def JournalsChainUptoSaid : Prop := journalsChainUptoRow.holds Tryz.pinned (OpenSpec.upto journalsChainSpec)

/-- 'countinghouselaw32.JournalsAnswer', WHERE WHAT IT READS IS OF BULK AT MOST 1048576: true; the input reads as it did. -/
def journalsAnswerUptoRow : OpenClaim := { program := "ytipjchbdogmccaagreat", sum := "51c214810594276a23cff544a29261cc419b6089b58e38f01ebff48aa51577b6", func := "countinghouse/countinghouselaw32.JournalsAnswer", spec := "journalsAnswer", inPlace := ["maps.clone", "math/bits.Add64"], unfollowed := true, recurses := true, named := ["math/bits.divideError", "math/bits.overflowError"], plainKeys := false, apart := false, narrowed := true }
def JournalsAnswerUptoSaid : Prop := journalsAnswerUptoRow.holds Tryz.pinned (OpenSpec.upto journalsAnswerSpec)

/-- 'countinghouselaw32.JournalsVoid', WHERE WHAT IT READS IS OF BULK AT MOST 1048576: true; the input reads as it did. -/
def journalsVoidUptoRow : OpenClaim := { program := "ytipjchbdogmccaagreat", sum := "51c214810594276a23cff544a29261cc419b6089b58e38f01ebff48aa51577b6", func := "countinghouse/countinghouselaw32.JournalsVoid", spec := "journalsVoid", inPlace := ["maps.clone", "math/bits.Add64"], unfollowed := true, recurses := true, named := ["math/bits.divideError", "math/bits.overflowError"], plainKeys := false, apart := false, narrowed := true }
def JournalsVoidUptoSaid : Prop := journalsVoidUptoRow.holds Tryz.pinned (OpenSpec.upto journalsVoidSpec)

/-- 'countinghouselaw31.QuotesVoid', WHERE WHAT IT READS IS OF BULK AT MOST 1048576: true; the input reads as it did. -/
def quotesVoidUptoRow : OpenClaim := { program := "ytipjchbdogmccaagreat", sum := "51c214810594276a23cff544a29261cc419b6089b58e38f01ebff48aa51577b6", func := "countinghouse/countinghouselaw31.QuotesVoid", spec := "quotesVoid", inPlace := ["maps.clone", "math/bits.Add64"], unfollowed := true, recurses := true, named := ["math/bits.divideError", "math/bits.overflowError"], plainKeys := false, apart := false, narrowed := true }
def QuotesVoidUptoSaid : Prop := quotesVoidUptoRow.holds Tryz.pinned (OpenSpec.upto quotesVoidSpec)

/-- 'countinghouselaw31.QuotesDone', WHERE WHAT IT READS IS OF BULK AT MOST 1048576: true; the input reads as it did. -/
def quotesDoneUptoRow : OpenClaim := { program := "ytipjchbdogmccaagreat", sum := "51c214810594276a23cff544a29261cc419b6089b58e38f01ebff48aa51577b6", func := "countinghouse/countinghouselaw31.QuotesDone", spec := "quotesDone", inPlace := ["maps.clone", "math/bits.Add64"], unfollowed := true, recurses := true, named := ["math/bits.divideError", "math/bits.overflowError"], plainKeys := false, apart := false, narrowed := true }
def QuotesDoneUptoSaid : Prop := quotesDoneUptoRow.holds Tryz.pinned (OpenSpec.upto quotesDoneSpec)

/-- 'countinghouselaw31.QuotesLeast', WHERE WHAT IT READS IS OF BULK AT MOST 1048576: true; the input reads as it did. -/
def quotesLeastUptoRow : OpenClaim := { program := "ytipjchbdogmccaagreat", sum := "51c214810594276a23cff544a29261cc419b6089b58e38f01ebff48aa51577b6", func := "countinghouse/countinghouselaw31.QuotesLeast", spec := "quotesLeast", inPlace := ["maps.clone", "math/bits.Add64"], unfollowed := true, recurses := true, named := ["math/bits.divideError", "math/bits.overflowError"], plainKeys := false, apart := false, narrowed := true }
def QuotesLeastUptoSaid : Prop := quotesLeastUptoRow.holds Tryz.pinned (OpenSpec.upto quotesLeastSpec)

/-- 'countinghouselaw31.QuotesMost', WHERE WHAT IT READS IS OF BULK AT MOST 1048576: true; the input reads as it did. -/
def quotesMostUptoRow : OpenClaim := { program := "ytipjchbdogmccaagreat", sum := "51c214810594276a23cff544a29261cc419b6089b58e38f01ebff48aa51577b6", func := "countinghouse/countinghouselaw31.QuotesMost", spec := "quotesMost", inPlace := ["maps.clone", "math/bits.Add64"], unfollowed := true, recurses := true, named := ["math/bits.divideError", "math/bits.overflowError"], plainKeys := false, apart := false, narrowed := true }
def QuotesMostUptoSaid : Prop := quotesMostUptoRow.holds Tryz.pinned (OpenSpec.upto quotesMostSpec)

end Rows
end Go.Proofs.YtipjchbdogmccaaGreat
