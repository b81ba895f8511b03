/-
  No cell of these rows narrows 'for every input' (looked for: loops, veiled, ifaces, maps, wideKeys, modest, calm, conditions, laid).
  DERIVED. THE GIVEN ROWS OF THIS SEAT. 6 by the template 'for every input the law returns true; each argument reads behind the call as it read before'; 0 by the template 'total and deterministic' (their statements: YtjddfopebpmaeaaGreatTotals.lean).
  GIVEN WITH THE SEED: the statements are not yours to turn. If you find one false, say at which input.
  Laid BY PROGRAM, IN A SANDBOX (cutbox-rows.mjs): the forced cells as the released guide's own fill.sh prints them over the translation 206d4048eee93458… (all of the seat's roots in one cut). By AI agents, Wed Nov 11 2026. No macro, syntax, notation, axiom, sorry.
-/
import Derived.Test.YtjddfopebpmaeaaGreatChecked
import GoSem.Claim
import GoSem.ClaimJoined
import GoSem.ClaimMapViews
import Derived.JoinedTies
import Derived.KernelRfl
namespace Go.Proofs.YtjddfopebpmaeaaGreat
/- THE CELL 'sum', in the pinned program and in every row, IS THE sha256 OF THE DUMP (.gsa) THAT YtjddfopebpmaeaaGreatProg.lean LOADS. Nothing in Lean hashes anything: it is a label: what it is worth is what the hold of that sum in a sandbox is worth. -/
noncomputable def Tryz.pinned : Pinned := { name := "ytjddfopebpmaeaagreat", sum := "206d4048eee9345827468cece8b5df9e3374df602772d615632feabbdbc005ce", checked := Tryz.checked }
namespace Rows
def none {H : Type} : Left H := { results := [], args := [] }

/-- 'countinghouselaw10.FillsPlay': WHATEVER THE INPUT: true; the input reads as it did. -/
def fillsPlaySpec : ChangeSpec := { name := "fillsPlay", fn := fun _ => fun
  | [d1, d2] => { results := [.lit (.bool true)], args := [d1, d2] }
  | _ => none }
def fillsPlayRow : OpenClaim := { program := "ytjddfopebpmaeaagreat", sum := "206d4048eee9345827468cece8b5df9e3374df602772d615632feabbdbc005ce", func := "countinghouse/countinghouselaw10.FillsPlay", spec := "fillsPlay", inPlace := ["maps.clone"], unfollowed := true, recurses := true, named := ["math/bits.divideError", "math/bits.overflowError"], plainKeys := false, apart := false }
def FillsPlaySaid : Prop := fillsPlayRow.holds Tryz.pinned (OpenSpec.ofChange fillsPlaySpec)

/-- ITS FALSE NEIGHBOUR: 'it returns false'. Refute it at one input. -/
def fillsPlayWrong : ChangeSpec := { name := "fillsPlay", fn := fun _ => fun
  | [d1, d2] => { results := [.lit (.bool false)], args := [d1, d2] }
  | _ => none }
def FillsPlayWrongFalsely : Prop := fillsPlayRow.holds Tryz.pinned (OpenSpec.ofChange fillsPlayWrong)

/-- 'countinghouselaw10.FillsFair': WHATEVER THE INPUT: true; the input reads as it did. -/
def fillsFairSpec : ChangeSpec := { name := "fillsFair", fn := fun _ => fun
  | [d1, d2] => { results := [.lit (.bool true)], args := [d1, d2] }
  | _ => none }
def fillsFairRow : OpenClaim := { program := "ytjddfopebpmaeaagreat", sum := "206d4048eee9345827468cece8b5df9e3374df602772d615632feabbdbc005ce", func := "countinghouse/countinghouselaw10.FillsFair", spec := "fillsFair", inPlace := ["maps.clone", "math/bits.Sub64"], unfollowed := true, recurses := true, named := ["math/bits.divideError", "math/bits.overflowError"], plainKeys := false, apart := false }
def FillsFairSaid : Prop := fillsFairRow.holds Tryz.pinned (OpenSpec.ofChange fillsFairSpec)

/-- ITS FALSE NEIGHBOUR: 'it returns false'. Refute it at one input. -/
def fillsFairWrong : ChangeSpec := { name := "fillsFair", fn := fun _ => fun
  | [d1, d2] => { results := [.lit (.bool false)], args := [d1, d2] }
  | _ => none }
def FillsFairWrongFalsely : Prop := fillsFairRow.holds Tryz.pinned (OpenSpec.ofChange fillsFairWrong)

/-- 'countinghouselaw12.PlacesVoid': WHATEVER THE INPUT: true; the input reads as it did. -/
def placesVoidSpec : ChangeSpec := { name := "placesVoid", fn := fun _ => fun
  | [d] => { results := [.lit (.bool true)], args := [d] }
  | _ => none }
def placesVoidRow : OpenClaim := { program := "ytjddfopebpmaeaagreat", sum := "206d4048eee9345827468cece8b5df9e3374df602772d615632feabbdbc005ce", func := "countinghouse/countinghouselaw12.PlacesVoid", spec := "placesVoid", inPlace := ["maps.clone"], unfollowed := true, recurses := true, named := ["math/bits.divideError", "math/bits.overflowError"], plainKeys := false, apart := false }
def PlacesVoidSaid : Prop := placesVoidRow.holds Tryz.pinned (OpenSpec.ofChange placesVoidSpec)

/-- ITS FALSE NEIGHBOUR: 'it returns false'. Refute it at one input. -/
def placesVoidWrong : ChangeSpec := { name := "placesVoid", fn := fun _ => fun
  | [d] => { results := [.lit (.bool false)], args := [d] }
  | _ => none }
def PlacesVoidWrongFalsely : Prop := placesVoidRow.holds Tryz.pinned (OpenSpec.ofChange placesVoidWrong)

/-- 'countinghouselaw11.SwapsVoid': WHATEVER THE INPUT: true; the input reads as it did. -/
def swapsVoidSpec : ChangeSpec := { name := "swapsVoid", fn := fun _ => fun
  | [d] => { results := [.lit (.bool true)], args := [d] }
  | _ => none }
def swapsVoidRow : OpenClaim := { program := "ytjddfopebpmaeaagreat", sum := "206d4048eee9345827468cece8b5df9e3374df602772d615632feabbdbc005ce", func := "countinghouse/countinghouselaw11.SwapsVoid", spec := "swapsVoid", inPlace := ["maps.clone", "math/bits.Add64"], unfollowed := true, recurses := true, named := ["math/bits.divideError", "math/bits.overflowError"], plainKeys := false, apart := false }
def SwapsVoidSaid : Prop := swapsVoidRow.holds Tryz.pinned (OpenSpec.ofChange swapsVoidSpec)

/-- ITS FALSE NEIGHBOUR: 'it returns false'. Refute it at one input. -/
def swapsVoidWrong : ChangeSpec := { name := "swapsVoid", fn := fun _ => fun
  | [d] => { results := [.lit (.bool false)], args := [d] }
  | _ => none }
def SwapsVoidWrongFalsely : Prop := swapsVoidRow.holds Tryz.pinned (OpenSpec.ofChange swapsVoidWrong)

/-- 'countinghouselaw12.PlacesPlay': WHATEVER THE INPUT: true; the input reads as it did. -/
def placesPlaySpec : ChangeSpec := { name := "placesPlay", fn := fun _ => fun
  | [d1, d2] => { results := [.lit (.bool true)], args := [d1, d2] }
  | _ => none }
def placesPlayRow : OpenClaim := { program := "ytjddfopebpmaeaagreat", sum := "206d4048eee9345827468cece8b5df9e3374df602772d615632feabbdbc005ce", func := "countinghouse/countinghouselaw12.PlacesPlay", spec := "placesPlay", inPlace := ["maps.clone"], unfollowed := true, recurses := true, named := ["math/bits.divideError", "math/bits.overflowError"], plainKeys := false, apart := false }
def PlacesPlaySaid : Prop := placesPlayRow.holds Tryz.pinned (OpenSpec.ofChange placesPlaySpec)

/-- ITS FALSE NEIGHBOUR: 'it returns false'. Refute it at one input. -/
def placesPlayWrong : ChangeSpec := { name := "placesPlay", fn := fun _ => fun
  | [d1, d2] => { results := [.lit (.bool false)], args := [d1, d2] }
  | _ => none }
def PlacesPlayWrongFalsely : Prop := placesPlayRow.holds Tryz.pinned (OpenSpec.ofChange placesPlayWrong)

/-- 'countinghouselaw11.SwapsPlay': WHATEVER THE INPUT: true; the input reads as it did. -/
def swapsPlaySpec : ChangeSpec := { name := "swapsPlay", fn := fun _ => fun
  | [d1, d2] => { results := [.lit (.bool true)], args := [d1, d2] }
  | _ => none }
def swapsPlayRow : OpenClaim := { program := "ytjddfopebpmaeaagreat", sum := "206d4048eee9345827468cece8b5df9e3374df602772d615632feabbdbc005ce", func := "countinghouse/countinghouselaw11.SwapsPlay", spec := "swapsPlay", inPlace := ["maps.clone", "math/bits.Add64"], unfollowed := true, recurses := true, named := ["math/bits.divideError", "math/bits.overflowError"], plainKeys := false, apart := false }
def SwapsPlaySaid : Prop := swapsPlayRow.holds Tryz.pinned (OpenSpec.ofChange swapsPlaySpec)

/-- ITS FALSE NEIGHBOUR: 'it returns false'. Refute it at one input. -/
def swapsPlayWrong : ChangeSpec := { name := "swapsPlay", fn := fun _ => fun
  | [d1, d2] => { results := [.lit (.bool false)], args := [d1, d2] }
  | _ => none }
def SwapsPlayWrongFalsely : Prop := swapsPlayRow.holds Tryz.pinned (OpenSpec.ofChange swapsPlayWrong)

/- THE SECOND FORM. 'bulk': how many values and letters a reading holds, each counted each time it is reached (what is shared counts as often as it is met; a slice's spare places count too). A statement '..UptoSaid' is the law's where the arguments, and the package variables that the reading takes, are together of bulk at most 1048576: NARROWER than '..Said'. Prove '..Said' where nothing that the law and all that it calls make is longer than what came in: it says more and counts as full. Else prove '..UptoSaid'. A law counts once. -/
mutual
def uptoBulk {H : Type} : DataW H → Nat
  | .lit (.string bytes) => bytes.length + 1
  | .lit _ => 1
  | .nil => 1
  | .ptr d => uptoBulk d + 1
  | .slice elems spare => uptoBulkAll elems + uptoBulkAll spare + 1
  | .agg parts => uptoBulkAll parts + 1
  | .iface _ d => uptoBulk d + 1
  | .map entries => uptoBulkEntries entries + 1
  | .held _ => 1
def uptoBulkAll {H : Type} : List (DataW H) → Nat
  | [] => 0
  | d :: r => uptoBulk d + uptoBulkAll r
def uptoBulkEntries {H : Type} : List (Lit × DataW H) → Nat
  | [] => 0
  | x :: r => uptoBulkEntry x + uptoBulkEntries r
def uptoBulkEntry {H : Type} : Lit × DataW H → Nat
  | (.string bytes, d) => bytes.length + uptoBulk d + 1
  | (_, d) => uptoBulk d + 1
 end
def uptoSmall : (H : Type) → List (DataW H) → Bool := fun _ ds => decide (uptoBulkAll ds ≤ 1048576)
def OpenSpec.upto (s : _root_.Go.ChangeSpec) : _root_.Go.OpenSpec := { _root_.Go.OpenSpec.ofChange s with cond := some uptoSmall }

/-- 'countinghouselaw10.FillsPlay', WHERE WHAT IT READS IS OF BULK AT MOST 1048576: true; the input reads as it did. -/
def fillsPlayUptoRow : OpenClaim := { program := "ytjddfopebpmaeaagreat", sum := "206d4048eee9345827468cece8b5df9e3374df602772d615632feabbdbc005ce", func := "countinghouse/countinghouselaw10.FillsPlay", spec := "fillsPlay", inPlace := ["maps.clone"], unfollowed := true, recurses := true, named := ["math/bits.divideError", "math/bits.overflowError"], plainKeys := false, apart := false, narrowed := true }
def FillsPlayUptoSaid : Prop := fillsPlayUptoRow.holds Tryz.pinned (OpenSpec.upto fillsPlaySpec)

/-- 'countinghouselaw10.FillsFair', WHERE WHAT IT READS IS OF BULK AT MOST 1048576: true; the input reads as it did. -/
def fillsFairUptoRow : OpenClaim := { program := "ytjddfopebpmaeaagreat", sum := "206d4048eee9345827468cece8b5df9e3374df602772d615632feabbdbc005ce", func := "countinghouse/countinghouselaw10.FillsFair", spec := "fillsFair", inPlace := ["maps.clone", "math/bits.Sub64"], unfollowed := true, recurses := true, named := ["math/bits.divideError", "math/bits.overflowError"], plainKeys := false, apart := false, narrowed := true }
def FillsFairUptoSaid : Prop := fillsFairUptoRow.holds Tryz.pinned (OpenSpec.upto fillsFairSpec)

/-- 'countinghouselaw12.PlacesVoid', WHERE WHAT IT READS IS OF BULK AT MOST 1048576: true; the input reads as it did. -/
def placesVoidUptoRow : OpenClaim := { program := "ytjddfopebpmaeaagreat", sum := "206d4048eee9345827468cece8b5df9e3374df602772d615632feabbdbc005ce", func := "countinghouse/countinghouselaw12.PlacesVoid", spec := "placesVoid", inPlace := ["maps.clone"], unfollowed := true, recurses := true, named := ["math/bits.divideError", "math/bits.overflowError"], plainKeys := false, apart := false, narrowed := true }
def PlacesVoidUptoSaid : Prop := placesVoidUptoRow.holds Tryz.pinned (OpenSpec.upto placesVoidSpec)

/-- 'countinghouselaw11.SwapsVoid', WHERE WHAT IT READS IS OF BULK AT MOST 1048576: true; the input reads as it did. -/
def swapsVoidUptoRow : OpenClaim := { program := "ytjddfopebpmaeaagreat", sum := "206d4048eee9345827468cece8b5df9e3374df602772d615632feabbdbc005ce", func := "countinghouse/countinghouselaw11.SwapsVoid", spec := "swapsVoid", inPlace := ["maps.clone", "math/bits.Add64"], unfollowed := true, recurses := true, named := ["math/bits.divideError", "math/bits.overflowError"], plainKeys := false, apart := false, narrowed := true }
def SwapsVoidUptoSaid : Prop := swapsVoidUptoRow.holds Tryz.pinned (OpenSpec.upto swapsVoidSpec)

/-- 'countinghouselaw12.PlacesPlay', WHERE WHAT IT READS IS OF BULK AT MOST 1048576: true; the input reads as it did. -/
def placesPlayUptoRow : OpenClaim := { program := "ytjddfopebpmaeaagreat", sum := "206d4048eee9345827468cece8b5df9e3374df602772d615632feabbdbc005ce", func := "countinghouse/countinghouselaw12.PlacesPlay", spec := "placesPlay", inPlace := ["maps.clone"], unfollowed := true, recurses := true, named := ["math/bits.divideError", "math/bits.overflowError"], plainKeys := false, apart := false, narrowed := true }
def PlacesPlayUptoSaid : Prop := placesPlayUptoRow.holds Tryz.pinned (OpenSpec.upto placesPlaySpec)

/-- 'countinghouselaw11.SwapsPlay', WHERE WHAT IT READS IS OF BULK AT MOST 1048576: true; the input reads as it did. -/
def swapsPlayUptoRow : OpenClaim := { program := "ytjddfopebpmaeaagreat", sum := "206d4048eee9345827468cece8b5df9e3374df602772d615632feabbdbc005ce", func := "countinghouse/countinghouselaw11.SwapsPlay", spec := "swapsPlay", inPlace := ["maps.clone", "math/bits.Add64"], unfollowed := true, recurses := true, named := ["math/bits.divideError", "math/bits.overflowError"], plainKeys := false, apart := false, narrowed := true }
def SwapsPlayUptoSaid : Prop := swapsPlayUptoRow.holds Tryz.pinned (OpenSpec.upto swapsPlaySpec)

end Rows
end Go.Proofs.YtjddfopebpmaeaaGreat
