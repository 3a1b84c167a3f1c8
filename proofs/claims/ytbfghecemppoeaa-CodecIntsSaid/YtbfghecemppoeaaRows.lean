/-
  No cell of these rows narrows 'for every input' (looked for: loops, veiled, ifaces, maps, wideKeys, modest, calm, conditions, laid).
  DERIVED. THE GIVEN ROWS OF THIS SEAT. 12 by the template 'for every input the law returns true; each argument reads behind the call as it read before'; 0 by the template 'total and deterministic' (their statements: YtbfghecemppoeaaTotals.lean).
  GIVEN WITH THE SEED: the statements are not yours to turn. If you find one false, say at which input.
  Laid BY PROGRAM, IN A SANDBOX (cutbox-rows.mjs): the forced cells as the released guide's own fill.sh prints them over the translation 396dab3b02189617… (all of the seat's roots in one cut). By AI agents, Wed Nov 11 2026. No macro, syntax, notation, axiom, sorry.
-/
import Derived.Test.YtbfghecemppoeaaChecked
import GoSem.Claim
import GoSem.ClaimJoined
import GoSem.ClaimMapViews
import Derived.JoinedTies
import Derived.KernelRfl
namespace Go.Proofs.Ytbfghecemppoeaa
/- THE CELL 'sum', in the pinned program and in every row, IS THE sha256 OF THE DUMP (.gsa) THAT YtbfghecemppoeaaProg.lean LOADS. Nothing in Lean hashes anything: it is a label: what it is worth is what the hold of that sum in a sandbox is worth. -/
noncomputable def Try.pinned : Pinned := { name := "ytbfghecemppoeaa", sum := "396dab3b021896171974e27694674caf7a772bb8899f8a153f51cd51d0714ddd", checked := Try.checked }
namespace Rows
def none {H : Type} : Left H := { results := [], args := [] }

/-- 'pinakeslaw01.CodecSums': WHATEVER THE INPUT: true; the input reads as it did. -/
def codecSumsSpec : ChangeSpec := { name := "codecSums", fn := fun _ => fun
  | [d] => { results := [.lit (.bool true)], args := [d] }
  | _ => none }
def codecSumsRow : OpenClaim := { program := "ytbfghecemppoeaa", sum := "396dab3b021896171974e27694674caf7a772bb8899f8a153f51cd51d0714ddd", func := "pinakes/pinakeslaw01.CodecSums", spec := "codecSums", inPlace := ["internal/abi.NoEscape"], unfollowed := true, recurses := true, apart := false }
def CodecSumsSaid : Prop := codecSumsRow.holds Try.pinned (OpenSpec.ofChange codecSumsSpec)

/-- ITS FALSE NEIGHBOUR: 'it returns false'. Refute it at one input. -/
def codecSumsWrong : ChangeSpec := { name := "codecSums", fn := fun _ => fun
  | [d] => { results := [.lit (.bool false)], args := [d] }
  | _ => none }
def CodecSumsWrongFalsely : Prop := codecSumsRow.holds Try.pinned (OpenSpec.ofChange codecSumsWrong)

/-- 'pinakeslaw01.CodecFlips': WHATEVER THE INPUT: true; the input reads as it did. -/
def codecFlipsSpec : ChangeSpec := { name := "codecFlips", fn := fun _ => fun
  | [d1, d2, d3] => { results := [.lit (.bool true)], args := [d1, d2, d3] }
  | _ => none }
def codecFlipsRow : OpenClaim := { program := "ytbfghecemppoeaa", sum := "396dab3b021896171974e27694674caf7a772bb8899f8a153f51cd51d0714ddd", func := "pinakes/pinakeslaw01.CodecFlips", spec := "codecFlips", inPlace := ["internal/abi.NoEscape"], unfollowed := true, recurses := true, apart := false }
def CodecFlipsSaid : Prop := codecFlipsRow.holds Try.pinned (OpenSpec.ofChange codecFlipsSpec)

/-- ITS FALSE NEIGHBOUR: 'it returns false'. Refute it at one input. -/
def codecFlipsWrong : ChangeSpec := { name := "codecFlips", fn := fun _ => fun
  | [d1, d2, d3] => { results := [.lit (.bool false)], args := [d1, d2, d3] }
  | _ => none }
def CodecFlipsWrongFalsely : Prop := codecFlipsRow.holds Try.pinned (OpenSpec.ofChange codecFlipsWrong)

/-- 'pinakeslaw01.CodecNumbers': WHATEVER THE INPUT: true; the input reads as it did. -/
def codecNumbersSpec : ChangeSpec := { name := "codecNumbers", fn := fun _ => fun
  | [d1, d2, d3] => { results := [.lit (.bool true)], args := [d1, d2, d3] }
  | _ => none }
def codecNumbersRow : OpenClaim := { program := "ytbfghecemppoeaa", sum := "396dab3b021896171974e27694674caf7a772bb8899f8a153f51cd51d0714ddd", func := "pinakes/pinakeslaw01.CodecNumbers", spec := "codecNumbers", inPlace := ["internal/abi.NoEscape"], unfollowed := true, recurses := true, apart := false }
def CodecNumbersSaid : Prop := codecNumbersRow.holds Try.pinned (OpenSpec.ofChange codecNumbersSpec)

/-- ITS FALSE NEIGHBOUR: 'it returns false'. Refute it at one input. -/
def codecNumbersWrong : ChangeSpec := { name := "codecNumbers", fn := fun _ => fun
  | [d1, d2, d3] => { results := [.lit (.bool false)], args := [d1, d2, d3] }
  | _ => none }
def CodecNumbersWrongFalsely : Prop := codecNumbersRow.holds Try.pinned (OpenSpec.ofChange codecNumbersWrong)

/-- 'pinakeslaw01.CodecReads': WHATEVER THE INPUT: true; the input reads as it did. -/
def codecReadsSpec : ChangeSpec := { name := "codecReads", fn := fun _ => fun
  | [d1, d2, d3] => { results := [.lit (.bool true)], args := [d1, d2, d3] }
  | _ => none }
def codecReadsRow : OpenClaim := { program := "ytbfghecemppoeaa", sum := "396dab3b021896171974e27694674caf7a772bb8899f8a153f51cd51d0714ddd", func := "pinakes/pinakeslaw01.CodecReads", spec := "codecReads", inPlace := ["internal/abi.NoEscape"], unfollowed := true, recurses := true, apart := false }
def CodecReadsSaid : Prop := codecReadsRow.holds Try.pinned (OpenSpec.ofChange codecReadsSpec)

/-- ITS FALSE NEIGHBOUR: 'it returns false'. Refute it at one input. -/
def codecReadsWrong : ChangeSpec := { name := "codecReads", fn := fun _ => fun
  | [d1, d2, d3] => { results := [.lit (.bool false)], args := [d1, d2, d3] }
  | _ => none }
def CodecReadsWrongFalsely : Prop := codecReadsRow.holds Try.pinned (OpenSpec.ofChange codecReadsWrong)

/-- 'pinakeslaw01.CodecShortest': WHATEVER THE INPUT: true; the input reads as it did. -/
def codecShortestSpec : ChangeSpec := { name := "codecShortest", fn := fun _ => fun
  | [d1, d2] => { results := [.lit (.bool true)], args := [d1, d2] }
  | _ => none }
def codecShortestRow : OpenClaim := { program := "ytbfghecemppoeaa", sum := "396dab3b021896171974e27694674caf7a772bb8899f8a153f51cd51d0714ddd", func := "pinakes/pinakeslaw01.CodecShortest", spec := "codecShortest", inPlace := ["internal/abi.NoEscape"], unfollowed := true, recurses := true, apart := false }
def CodecShortestSaid : Prop := codecShortestRow.holds Try.pinned (OpenSpec.ofChange codecShortestSpec)

/-- ITS FALSE NEIGHBOUR: 'it returns false'. Refute it at one input. -/
def codecShortestWrong : ChangeSpec := { name := "codecShortest", fn := fun _ => fun
  | [d1, d2] => { results := [.lit (.bool false)], args := [d1, d2] }
  | _ => none }
def CodecShortestWrongFalsely : Prop := codecShortestRow.holds Try.pinned (OpenSpec.ofChange codecShortestWrong)

/-- 'pinakeslaw01.CodecSigns': WHATEVER THE INPUT: true; the input reads as it did. -/
def codecSignsSpec : ChangeSpec := { name := "codecSigns", fn := fun _ => fun
  | [d1, d2, d3] => { results := [.lit (.bool true)], args := [d1, d2, d3] }
  | _ => none }
def codecSignsRow : OpenClaim := { program := "ytbfghecemppoeaa", sum := "396dab3b021896171974e27694674caf7a772bb8899f8a153f51cd51d0714ddd", func := "pinakes/pinakeslaw01.CodecSigns", spec := "codecSigns", inPlace := ["internal/abi.NoEscape"], unfollowed := true, recurses := true, apart := false }
def CodecSignsSaid : Prop := codecSignsRow.holds Try.pinned (OpenSpec.ofChange codecSignsSpec)

/-- ITS FALSE NEIGHBOUR: 'it returns false'. Refute it at one input. -/
def codecSignsWrong : ChangeSpec := { name := "codecSigns", fn := fun _ => fun
  | [d1, d2, d3] => { results := [.lit (.bool false)], args := [d1, d2, d3] }
  | _ => none }
def CodecSignsWrongFalsely : Prop := codecSignsRow.holds Try.pinned (OpenSpec.ofChange codecSignsWrong)

/-- 'pinakeslaw01.CodecPacks': WHATEVER THE INPUT: true; the input reads as it did. -/
def codecPacksSpec : ChangeSpec := { name := "codecPacks", fn := fun _ => fun
  | [d1, d2] => { results := [.lit (.bool true)], args := [d1, d2] }
  | _ => none }
def codecPacksRow : OpenClaim := { program := "ytbfghecemppoeaa", sum := "396dab3b021896171974e27694674caf7a772bb8899f8a153f51cd51d0714ddd", func := "pinakes/pinakeslaw01.CodecPacks", spec := "codecPacks", inPlace := ["internal/abi.NoEscape"], unfollowed := true, recurses := true, apart := false }
def CodecPacksSaid : Prop := codecPacksRow.holds Try.pinned (OpenSpec.ofChange codecPacksSpec)

/-- ITS FALSE NEIGHBOUR: 'it returns false'. Refute it at one input. -/
def codecPacksWrong : ChangeSpec := { name := "codecPacks", fn := fun _ => fun
  | [d1, d2] => { results := [.lit (.bool false)], args := [d1, d2] }
  | _ => none }
def CodecPacksWrongFalsely : Prop := codecPacksRow.holds Try.pinned (OpenSpec.ofChange codecPacksWrong)

/-- 'pinakeslaw01.CodecUnpacks': WHATEVER THE INPUT: true; the input reads as it did. -/
def codecUnpacksSpec : ChangeSpec := { name := "codecUnpacks", fn := fun _ => fun
  | [d1, d2, d3] => { results := [.lit (.bool true)], args := [d1, d2, d3] }
  | _ => none }
def codecUnpacksRow : OpenClaim := { program := "ytbfghecemppoeaa", sum := "396dab3b021896171974e27694674caf7a772bb8899f8a153f51cd51d0714ddd", func := "pinakes/pinakeslaw01.CodecUnpacks", spec := "codecUnpacks", inPlace := ["internal/abi.NoEscape"], unfollowed := true, recurses := true, apart := false }
def CodecUnpacksSaid : Prop := codecUnpacksRow.holds Try.pinned (OpenSpec.ofChange codecUnpacksSpec)

/-- ITS FALSE NEIGHBOUR: 'it returns false'. Refute it at one input. -/
def codecUnpacksWrong : ChangeSpec := { name := "codecUnpacks", fn := fun _ => fun
  | [d1, d2, d3] => { results := [.lit (.bool false)], args := [d1, d2, d3] }
  | _ => none }
def CodecUnpacksWrongFalsely : Prop := codecUnpacksRow.holds Try.pinned (OpenSpec.ofChange codecUnpacksWrong)

/-- 'pinakeslaw01.CodecApart': WHATEVER THE INPUT: true; the input reads as it did. -/
def codecApartSpec : ChangeSpec := { name := "codecApart", fn := fun _ => fun
  | [d1, d2, d3] => { results := [.lit (.bool true)], args := [d1, d2, d3] }
  | _ => none }
def codecApartRow : OpenClaim := { program := "ytbfghecemppoeaa", sum := "396dab3b021896171974e27694674caf7a772bb8899f8a153f51cd51d0714ddd", func := "pinakes/pinakeslaw01.CodecApart", spec := "codecApart", inPlace := ["internal/abi.NoEscape"], unfollowed := true, recurses := true, apart := false }
def CodecApartSaid : Prop := codecApartRow.holds Try.pinned (OpenSpec.ofChange codecApartSpec)

/-- ITS FALSE NEIGHBOUR: 'it returns false'. Refute it at one input. -/
def codecApartWrong : ChangeSpec := { name := "codecApart", fn := fun _ => fun
  | [d1, d2, d3] => { results := [.lit (.bool false)], args := [d1, d2, d3] }
  | _ => none }
def CodecApartWrongFalsely : Prop := codecApartRow.holds Try.pinned (OpenSpec.ofChange codecApartWrong)

/-- 'pinakeslaw01.CodecNests': WHATEVER THE INPUT: true; the input reads as it did. -/
def codecNestsSpec : ChangeSpec := { name := "codecNests", fn := fun _ => fun
  | [d1, d2, d3] => { results := [.lit (.bool true)], args := [d1, d2, d3] }
  | _ => none }
def codecNestsRow : OpenClaim := { program := "ytbfghecemppoeaa", sum := "396dab3b021896171974e27694674caf7a772bb8899f8a153f51cd51d0714ddd", func := "pinakes/pinakeslaw01.CodecNests", spec := "codecNests", inPlace := ["internal/abi.NoEscape"], unfollowed := true, recurses := true, apart := false }
def CodecNestsSaid : Prop := codecNestsRow.holds Try.pinned (OpenSpec.ofChange codecNestsSpec)

/-- ITS FALSE NEIGHBOUR: 'it returns false'. Refute it at one input. -/
def codecNestsWrong : ChangeSpec := { name := "codecNests", fn := fun _ => fun
  | [d1, d2, d3] => { results := [.lit (.bool false)], args := [d1, d2, d3] }
  | _ => none }
def CodecNestsWrongFalsely : Prop := codecNestsRow.holds Try.pinned (OpenSpec.ofChange codecNestsWrong)

/-- 'pinakeslaw01.CodecInts': WHATEVER THE INPUT: true; the input reads as it did. -/
def codecIntsSpec : ChangeSpec := { name := "codecInts", fn := fun _ => fun
  | [d1, d2] => { results := [.lit (.bool true)], args := [d1, d2] }
  | _ => none }
def codecIntsRow : OpenClaim := { program := "ytbfghecemppoeaa", sum := "396dab3b021896171974e27694674caf7a772bb8899f8a153f51cd51d0714ddd", func := "pinakes/pinakeslaw01.CodecInts", spec := "codecInts", inPlace := ["internal/abi.NoEscape"], unfollowed := true, recurses := true, apart := false }
def CodecIntsSaid : Prop := codecIntsRow.holds Try.pinned (OpenSpec.ofChange codecIntsSpec)

/-- ITS FALSE NEIGHBOUR: 'it returns false'. Refute it at one input. -/
def codecIntsWrong : ChangeSpec := { name := "codecInts", fn := fun _ => fun
  | [d1, d2] => { results := [.lit (.bool false)], args := [d1, d2] }
  | _ => none }
def CodecIntsWrongFalsely : Prop := codecIntsRow.holds Try.pinned (OpenSpec.ofChange codecIntsWrong)

/-- 'pinakeslaw01.CodecReadInts': WHATEVER THE INPUT: true; the input reads as it did. -/
def codecReadIntsSpec : ChangeSpec := { name := "codecReadInts", fn := fun _ => fun
  | [d1, d2, d3] => { results := [.lit (.bool true)], args := [d1, d2, d3] }
  | _ => none }
def codecReadIntsRow : OpenClaim := { program := "ytbfghecemppoeaa", sum := "396dab3b021896171974e27694674caf7a772bb8899f8a153f51cd51d0714ddd", func := "pinakes/pinakeslaw01.CodecReadInts", spec := "codecReadInts", inPlace := ["internal/abi.NoEscape"], unfollowed := true, recurses := true, apart := false }
def CodecReadIntsSaid : Prop := codecReadIntsRow.holds Try.pinned (OpenSpec.ofChange codecReadIntsSpec)

/-- ITS FALSE NEIGHBOUR: 'it returns false'. Refute it at one input. -/
def codecReadIntsWrong : ChangeSpec := { name := "codecReadInts", fn := fun _ => fun
  | [d1, d2, d3] => { results := [.lit (.bool false)], args := [d1, d2, d3] }
  | _ => none }
def CodecReadIntsWrongFalsely : Prop := codecReadIntsRow.holds Try.pinned (OpenSpec.ofChange codecReadIntsWrong)

/- THE SECOND FORM. 'bulk': how many values and letters a reading holds, each counted each time it is reached (what is shared counts as often as it is met; a slice's spare places count too). A statement '..UptoSaid' is the law's where the arguments, and the package variables that the reading takes, are together of bulk at most 1048576: NARROWER than '..Said'. Prove '..Said' where nothing that the law and all that it calls make is longer than what came in: it says more and counts as full. Else prove '..UptoSaid'. A law counts once. -/
mutual
def uptoBulk {H : Type} : DataW H → Nat
  | .lit (.string bytes) => bytes.length + 1
  | .lit _ => 1
  | .nil => 1
  | .ptr d => uptoBulk d + 1
  | .slice elems spare => uptoBulkAll elems + uptoBulkAll spare + 1
  | .agg parts => uptoBulkAll parts + 1
  | .iface _ d => uptoBulk d + 1
  | .map entries => uptoBulkEntries entries + 1
  | .held _ => 1
def uptoBulkAll {H : Type} : List (DataW H) → Nat
  | [] => 0
  | d :: r => uptoBulk d + uptoBulkAll r
def uptoBulkEntries {H : Type} : List (Lit × DataW H) → Nat
  | [] => 0
  | x :: r => uptoBulkEntry x + uptoBulkEntries r
def uptoBulkEntry {H : Type} : Lit × DataW H → Nat
  | (.string bytes, d) => bytes.length + uptoBulk d + 1
  | (_, d) => uptoBulk d + 1
 end
def uptoSmall : (H : Type) → List (DataW H) → Bool := fun _ ds => decide (uptoBulkAll ds ≤ 1048576)
def OpenSpec.upto (s : _root_.Go.ChangeSpec) : _root_.Go.OpenSpec := { _root_.Go.OpenSpec.ofChange s with cond := some uptoSmall }

/-- 'pinakeslaw01.CodecSums', WHERE WHAT IT READS IS OF BULK AT MOST 1048576: true; the input reads as it did. -/
def codecSumsUptoRow : OpenClaim := { program := "ytbfghecemppoeaa", sum := "396dab3b021896171974e27694674caf7a772bb8899f8a153f51cd51d0714ddd", func := "pinakes/pinakeslaw01.CodecSums", spec := "codecSums", inPlace := ["internal/abi.NoEscape"], unfollowed := true, recurses := true, apart := false, narrowed := true }
def CodecSumsUptoSaid : Prop := codecSumsUptoRow.holds Try.pinned (OpenSpec.upto codecSumsSpec)

/-- 'pinakeslaw01.CodecFlips', WHERE WHAT IT READS IS OF BULK AT MOST 1048576: true; the input reads as it did. -/
def codecFlipsUptoRow : OpenClaim := { program := "ytbfghecemppoeaa", sum := "396dab3b021896171974e27694674caf7a772bb8899f8a153f51cd51d0714ddd", func := "pinakes/pinakeslaw01.CodecFlips", spec := "codecFlips", inPlace := ["internal/abi.NoEscape"], unfollowed := true, recurses := true, apart := false, narrowed := true }
def CodecFlipsUptoSaid : Prop := codecFlipsUptoRow.holds Try.pinned (OpenSpec.upto codecFlipsSpec)

/-- 'pinakeslaw01.CodecNumbers', WHERE WHAT IT READS IS OF BULK AT MOST 1048576: true; the input reads as it did. -/
def codecNumbersUptoRow : OpenClaim := { program := "ytbfghecemppoeaa", sum := "396dab3b021896171974e27694674caf7a772bb8899f8a153f51cd51d0714ddd", func := "pinakes/pinakeslaw01.CodecNumbers", spec := "codecNumbers", inPlace := ["internal/abi.NoEscape"], unfollowed := true, recurses := true, apart := false, narrowed := true }
def CodecNumbersUptoSaid : Prop := codecNumbersUptoRow.holds Try.pinned (OpenSpec.upto codecNumbersSpec)

/-- 'pinakeslaw01.CodecReads', WHERE WHAT IT READS IS OF BULK AT MOST 1048576: true; the input reads as it did. -/
def codecReadsUptoRow : OpenClaim := { program := "ytbfghecemppoeaa", sum := "396dab3b021896171974e27694674caf7a772bb8899f8a153f51cd51d0714ddd", func := "pinakes/pinakeslaw01.CodecReads", spec := "codecReads", inPlace := ["internal/abi.NoEscape"], unfollowed := true, recurses := true, apart := false, narrowed := true }
def CodecReadsUptoSaid : Prop := codecReadsUptoRow.holds Try.pinned (OpenSpec.upto codecReadsSpec)

/-- 'pinakeslaw01.CodecShortest', WHERE WHAT IT READS IS OF BULK AT MOST 1048576: true; the input reads as it did. -/
def codecShortestUptoRow : OpenClaim := { program := "ytbfghecemppoeaa", sum := "396dab3b021896171974e27694674caf7a772bb8899f8a153f51cd51d0714ddd", func := "pinakes/pinakeslaw01.CodecShortest", spec := "codecShortest", inPlace := ["internal/abi.NoEscape"], unfollowed := true, recurses := true, apart := false, narrowed := true }
def CodecShortestUptoSaid : Prop := codecShortestUptoRow.holds Try.pinned (OpenSpec.upto codecShortestSpec)

/-- 'pinakeslaw01.CodecSigns', WHERE WHAT IT READS IS OF BULK AT MOST 1048576: true; the input reads as it did. -/
def codecSignsUptoRow : OpenClaim := { program := "ytbfghecemppoeaa", sum := "396dab3b021896171974e27694674caf7a772bb8899f8a153f51cd51d0714ddd", func := "pinakes/pinakeslaw01.CodecSigns", spec := "codecSigns", inPlace := ["internal/abi.NoEscape"], unfollowed := true, recurses := true, apart := false, narrowed := true }
def CodecSignsUptoSaid : Prop := codecSignsUptoRow.holds Try.pinned (OpenSpec.upto codecSignsSpec)

/-- 'pinakeslaw01.CodecPacks', WHERE WHAT IT READS IS OF BULK AT MOST 1048576: true; the input reads as it did. -/
def codecPacksUptoRow : OpenClaim := { program := "ytbfghecemppoeaa", sum := "396dab3b021896171974e27694674caf7a772bb8899f8a153f51cd51d0714ddd", func := "pinakes/pinakeslaw01.CodecPacks", spec := "codecPacks", inPlace := ["internal/abi.NoEscape"], unfollowed := true, recurses := true, apart := false, narrowed := true }
def CodecPacksUptoSaid : Prop := codecPacksUptoRow.holds Try.pinned (OpenSpec.upto codecPacksSpec)

/-- 'pinakeslaw01.CodecUnpacks', WHERE WHAT IT READS IS OF BULK AT MOST 1048576: true; the input reads as it did. -/
def codecUnpacksUptoRow : OpenClaim := { program := "ytbfghecemppoeaa", sum := "396dab3b021896171974e27694674caf7a772bb8899f8a153f51cd51d0714ddd", func := "pinakes/pinakeslaw01.CodecUnpacks", spec := "codecUnpacks", inPlace := ["internal/abi.NoEscape"], unfollowed := true, recurses := true, apart := false, narrowed := true }
def CodecUnpacksUptoSaid : Prop := codecUnpacksUptoRow.holds Try.pinned (OpenSpec.upto codecUnpacksSpec)

/-- 'pinakeslaw01.CodecApart', WHERE WHAT IT READS IS OF BULK AT MOST 1048576: true; the input reads as it did. -/
def codecApartUptoRow : OpenClaim := { program := "ytbfghecemppoeaa", sum := "396dab3b021896171974e27694674caf7a772bb8899f8a153f51cd51d0714ddd", func := "pinakes/pinakeslaw01.CodecApart", spec := "codecApart", inPlace := ["internal/abi.NoEscape"], unfollowed := true, recurses := true, apart := false, narrowed := true }
def CodecApartUptoSaid : Prop := codecApartUptoRow.holds Try.pinned (OpenSpec.upto codecApartSpec)

/-- 'pinakeslaw01.CodecNests', WHERE WHAT IT READS IS OF BULK AT MOST 1048576: true; the input reads as it did. -/
def codecNestsUptoRow : OpenClaim := { program := "ytbfghecemppoeaa", sum := "396dab3b021896171974e27694674caf7a772bb8899f8a153f51cd51d0714ddd", func := "pinakes/pinakeslaw01.CodecNests", spec := "codecNests", inPlace := ["internal/abi.NoEscape"], unfollowed := true, recurses := true, apart := false, narrowed := true }
def CodecNestsUptoSaid : Prop := codecNestsUptoRow.holds Try.pinned (OpenSpec.upto codecNestsSpec)

/-- 'pinakeslaw01.CodecInts', WHERE WHAT IT READS IS OF BULK AT MOST 1048576: true; the input reads as it did. -/
def codecIntsUptoRow : OpenClaim := { program := "ytbfghecemppoeaa", sum := "396dab3b021896171974e27694674caf7a772bb8899f8a153f51cd51d0714ddd", func := "pinakes/pinakeslaw01.CodecInts", spec := "codecInts", inPlace := ["internal/abi.NoEscape"], unfollowed := true, recurses := true, apart := false, narrowed := true }
def CodecIntsUptoSaid : Prop := codecIntsUptoRow.holds Try.pinned (OpenSpec.upto codecIntsSpec)

/-- 'pinakeslaw01.CodecReadInts', WHERE WHAT IT READS IS OF BULK AT MOST 1048576: true; the input reads as it did. -/
def codecReadIntsUptoRow : OpenClaim := { program := "ytbfghecemppoeaa", sum := "396dab3b021896171974e27694674caf7a772bb8899f8a153f51cd51d0714ddd", func := "pinakes/pinakeslaw01.CodecReadInts", spec := "codecReadInts", inPlace := ["internal/abi.NoEscape"], unfollowed := true, recurses := true, apart := false, narrowed := true }
def CodecReadIntsUptoSaid : Prop := codecReadIntsUptoRow.holds Try.pinned (OpenSpec.upto codecReadIntsSpec)

end Rows
end Go.Proofs.Ytbfghecemppoeaa
