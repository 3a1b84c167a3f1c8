/-
  No cell of these rows narrows 'for every input' (looked for: loops, veiled, ifaces, maps, wideKeys, modest, calm, conditions, laid).
  DERIVED. THE GIVEN ROWS OF THIS SEAT. 10 by the template 'for every input the law returns true; each argument reads behind the call as it read before'; 0 by the template 'total and deterministic' (their statements: YtcfglfnncpcfoaaTotals.lean).
  GIVEN WITH THE SEED: the statements are not yours to turn. If you find one false, say at which input.
  Laid BY PROGRAM, IN A SANDBOX (cutbox-rows.mjs): the forced cells as the released guide's own fill.sh prints them over the translation 97d15d4a223db231… (all of the seat's roots in one cut). By AI agents, Wed Nov 11 2026. No macro, syntax, notation, axiom, sorry.
-/
import Derived.Test.YtcfglfnncpcfoaaChecked
import GoSem.Claim
import GoSem.ClaimJoined
import GoSem.ClaimMapViews
import Derived.JoinedTies
import Derived.KernelRfl
namespace Go.Proofs.Ytcfglfnncpcfoaa
/- THE CELL 'sum', in the pinned program and in every row, IS THE sha256 OF THE DUMP (.gsa) THAT YtcfglfnncpcfoaaProg.lean LOADS. Nothing in Lean hashes anything: it is a label: what it is worth is what the hold of that sum in a sandbox is worth. -/
noncomputable def Try.pinned : Pinned := { name := "ytcfglfnncpcfoaa", sum := "97d15d4a223db2317ae3a9c5936f0b8960c07dc251529e31bd611eb517e3872a", checked := Try.checked }
namespace Rows
def none {H : Type} : Left H := { results := [], args := [] }

/-- 'pinakeslaw27.JournalEvents': WHATEVER THE INPUT: true; the input reads as it did. -/
def journalEventsSpec : ChangeSpec := { name := "journalEvents", fn := fun _ => fun
  | [d] => { results := [.lit (.bool true)], args := [d] }
  | _ => none }
def journalEventsRow : OpenClaim := { program := "ytcfglfnncpcfoaa", sum := "97d15d4a223db2317ae3a9c5936f0b8960c07dc251529e31bd611eb517e3872a", func := "pinakes/pinakeslaw27.JournalEvents", spec := "journalEvents", inPlace := ["slices.overlaps[pinakes/api.Event]", "internal/abi.NoEscape"], unfollowed := true, recurses := true, apart := false }
def JournalEventsSaid : Prop := journalEventsRow.holds Try.pinned (OpenSpec.ofChange journalEventsSpec)

/-- ITS FALSE NEIGHBOUR: 'it returns false'. Refute it at one input. -/
def journalEventsWrong : ChangeSpec := { name := "journalEvents", fn := fun _ => fun
  | [d] => { results := [.lit (.bool false)], args := [d] }
  | _ => none }
def JournalEventsWrongFalsely : Prop := journalEventsRow.holds Try.pinned (OpenSpec.ofChange journalEventsWrong)

/-- 'pinakeslaw27.JournalReads': WHATEVER THE INPUT: true; the input reads as it did. -/
def journalReadsSpec : ChangeSpec := { name := "journalReads", fn := fun _ => fun
  | [d1, d2, d3] => { results := [.lit (.bool true)], args := [d1, d2, d3] }
  | _ => none }
def journalReadsRow : OpenClaim := { program := "ytcfglfnncpcfoaa", sum := "97d15d4a223db2317ae3a9c5936f0b8960c07dc251529e31bd611eb517e3872a", func := "pinakes/pinakeslaw27.JournalReads", spec := "journalReads", inPlace := ["slices.overlaps[pinakes/api.Event]", "internal/abi.NoEscape"], unfollowed := true, recurses := true, apart := false }
def JournalReadsSaid : Prop := journalReadsRow.holds Try.pinned (OpenSpec.ofChange journalReadsSpec)

/-- ITS FALSE NEIGHBOUR: 'it returns false'. Refute it at one input. -/
def journalReadsWrong : ChangeSpec := { name := "journalReads", fn := fun _ => fun
  | [d1, d2, d3] => { results := [.lit (.bool false)], args := [d1, d2, d3] }
  | _ => none }
def JournalReadsWrongFalsely : Prop := journalReadsRow.holds Try.pinned (OpenSpec.ofChange journalReadsWrong)

/-- 'pinakeslaw27.JournalPlays': WHATEVER THE INPUT: true; the input reads as it did. -/
def journalPlaysSpec : ChangeSpec := { name := "journalPlays", fn := fun _ => fun
  | [d] => { results := [.lit (.bool true)], args := [d] }
  | _ => none }
def journalPlaysRow : OpenClaim := { program := "ytcfglfnncpcfoaa", sum := "97d15d4a223db2317ae3a9c5936f0b8960c07dc251529e31bd611eb517e3872a", func := "pinakes/pinakeslaw27.JournalPlays", spec := "journalPlays", inPlace := ["slices.overlaps[pinakes/api.Event]", "internal/abi.NoEscape"], unfollowed := true, recurses := true, apart := false }
def JournalPlaysSaid : Prop := journalPlaysRow.holds Try.pinned (OpenSpec.ofChange journalPlaysSpec)

/-- ITS FALSE NEIGHBOUR: 'it returns false'. Refute it at one input. -/
def journalPlaysWrong : ChangeSpec := { name := "journalPlays", fn := fun _ => fun
  | [d] => { results := [.lit (.bool false)], args := [d] }
  | _ => none }
def JournalPlaysWrongFalsely : Prop := journalPlaysRow.holds Try.pinned (OpenSpec.ofChange journalPlaysWrong)

/-- 'pinakeslaw27.JournalOrder': WHATEVER THE INPUT: true; the input reads as it did. -/
def journalOrderSpec : ChangeSpec := { name := "journalOrder", fn := fun _ => fun
  | [d1, d2] => { results := [.lit (.bool true)], args := [d1, d2] }
  | _ => none }
def journalOrderRow : OpenClaim := { program := "ytcfglfnncpcfoaa", sum := "97d15d4a223db2317ae3a9c5936f0b8960c07dc251529e31bd611eb517e3872a", func := "pinakes/pinakeslaw27.JournalOrder", spec := "journalOrder", inPlace := ["slices.overlaps[pinakes/api.Event]", "internal/abi.NoEscape"], unfollowed := true, recurses := true, apart := false }
def JournalOrderSaid : Prop := journalOrderRow.holds Try.pinned (OpenSpec.ofChange journalOrderSpec)

/-- ITS FALSE NEIGHBOUR: 'it returns false'. Refute it at one input. -/
def journalOrderWrong : ChangeSpec := { name := "journalOrder", fn := fun _ => fun
  | [d1, d2] => { results := [.lit (.bool false)], args := [d1, d2] }
  | _ => none }
def JournalOrderWrongFalsely : Prop := journalOrderRow.holds Try.pinned (OpenSpec.ofChange journalOrderWrong)

/-- 'pinakeslaw27.JournalSettles': WHATEVER THE INPUT: true; the input reads as it did. -/
def journalSettlesSpec : ChangeSpec := { name := "journalSettles", fn := fun _ => fun
  | [d1, d2] => { results := [.lit (.bool true)], args := [d1, d2] }
  | _ => none }
def journalSettlesRow : OpenClaim := { program := "ytcfglfnncpcfoaa", sum := "97d15d4a223db2317ae3a9c5936f0b8960c07dc251529e31bd611eb517e3872a", func := "pinakes/pinakeslaw27.JournalSettles", spec := "journalSettles", inPlace := ["slices.overlaps[pinakes/api.Event]", "internal/abi.NoEscape"], unfollowed := true, recurses := true, apart := false }
def JournalSettlesSaid : Prop := journalSettlesRow.holds Try.pinned (OpenSpec.ofChange journalSettlesSpec)

/-- ITS FALSE NEIGHBOUR: 'it returns false'. Refute it at one input. -/
def journalSettlesWrong : ChangeSpec := { name := "journalSettles", fn := fun _ => fun
  | [d1, d2] => { results := [.lit (.bool false)], args := [d1, d2] }
  | _ => none }
def JournalSettlesWrongFalsely : Prop := journalSettlesRow.holds Try.pinned (OpenSpec.ofChange journalSettlesWrong)

/-- 'pinakeslaw27.JournalMany': WHATEVER THE INPUT: true; the input reads as it did. -/
def journalManySpec : ChangeSpec := { name := "journalMany", fn := fun _ => fun
  | [d] => { results := [.lit (.bool true)], args := [d] }
  | _ => none }
def journalManyRow : OpenClaim := { program := "ytcfglfnncpcfoaa", sum := "97d15d4a223db2317ae3a9c5936f0b8960c07dc251529e31bd611eb517e3872a", func := "pinakes/pinakeslaw27.JournalMany", spec := "journalMany", inPlace := ["slices.overlaps[pinakes/api.Event]", "internal/abi.NoEscape"], unfollowed := true, recurses := true, apart := false }
def JournalManySaid : Prop := journalManyRow.holds Try.pinned (OpenSpec.ofChange journalManySpec)

/-- ITS FALSE NEIGHBOUR: 'it returns false'. Refute it at one input. -/
def journalManyWrong : ChangeSpec := { name := "journalMany", fn := fun _ => fun
  | [d] => { results := [.lit (.bool false)], args := [d] }
  | _ => none }
def JournalManyWrongFalsely : Prop := journalManyRow.holds Try.pinned (OpenSpec.ofChange journalManyWrong)

/-- 'pinakeslaw27.JournalEarly': WHATEVER THE INPUT: true; the input reads as it did. -/
def journalEarlySpec : ChangeSpec := { name := "journalEarly", fn := fun _ => fun
  | [d1, d2] => { results := [.lit (.bool true)], args := [d1, d2] }
  | _ => none }
def journalEarlyRow : OpenClaim := { program := "ytcfglfnncpcfoaa", sum := "97d15d4a223db2317ae3a9c5936f0b8960c07dc251529e31bd611eb517e3872a", func := "pinakes/pinakeslaw27.JournalEarly", spec := "journalEarly", inPlace := ["slices.overlaps[pinakes/api.Event]", "internal/abi.NoEscape"], unfollowed := true, recurses := true, apart := false }
def JournalEarlySaid : Prop := journalEarlyRow.holds Try.pinned (OpenSpec.ofChange journalEarlySpec)

/-- ITS FALSE NEIGHBOUR: 'it returns false'. Refute it at one input. -/
def journalEarlyWrong : ChangeSpec := { name := "journalEarly", fn := fun _ => fun
  | [d1, d2] => { results := [.lit (.bool false)], args := [d1, d2] }
  | _ => none }
def JournalEarlyWrongFalsely : Prop := journalEarlyRow.holds Try.pinned (OpenSpec.ofChange journalEarlyWrong)

/-- 'pinakeslaw27.JournalOwn': WHATEVER THE INPUT: true; the input reads as it did. -/
def journalOwnSpec : ChangeSpec := { name := "journalOwn", fn := fun _ => fun
  | [d] => { results := [.lit (.bool true)], args := [d] }
  | _ => none }
def journalOwnRow : OpenClaim := { program := "ytcfglfnncpcfoaa", sum := "97d15d4a223db2317ae3a9c5936f0b8960c07dc251529e31bd611eb517e3872a", func := "pinakes/pinakeslaw27.JournalOwn", spec := "journalOwn", inPlace := ["slices.overlaps[pinakes/api.Event]", "internal/abi.NoEscape"], unfollowed := true, recurses := true, apart := false }
def JournalOwnSaid : Prop := journalOwnRow.holds Try.pinned (OpenSpec.ofChange journalOwnSpec)

/-- ITS FALSE NEIGHBOUR: 'it returns false'. Refute it at one input. -/
def journalOwnWrong : ChangeSpec := { name := "journalOwn", fn := fun _ => fun
  | [d] => { results := [.lit (.bool false)], args := [d] }
  | _ => none }
def JournalOwnWrongFalsely : Prop := journalOwnRow.holds Try.pinned (OpenSpec.ofChange journalOwnWrong)

/-- 'pinakeslaw27.JournalNil': WHATEVER THE INPUT: true; the input reads as it did. -/
def journalNilSpec : ChangeSpec := { name := "journalNil", fn := fun _ => fun
  | [d1, d2] => { results := [.lit (.bool true)], args := [d1, d2] }
  | _ => none }
def journalNilRow : OpenClaim := { program := "ytcfglfnncpcfoaa", sum := "97d15d4a223db2317ae3a9c5936f0b8960c07dc251529e31bd611eb517e3872a", func := "pinakes/pinakeslaw27.JournalNil", spec := "journalNil", inPlace := ["slices.overlaps[pinakes/api.Event]", "internal/abi.NoEscape"], unfollowed := true, recurses := true, apart := false }
def JournalNilSaid : Prop := journalNilRow.holds Try.pinned (OpenSpec.ofChange journalNilSpec)

/-- ITS FALSE NEIGHBOUR: 'it returns false'. Refute it at one input. -/
def journalNilWrong : ChangeSpec := { name := "journalNil", fn := fun _ => fun
  | [d1, d2] => { results := [.lit (.bool false)], args := [d1, d2] }
  | _ => none }
def JournalNilWrongFalsely : Prop := journalNilRow.holds Try.pinned (OpenSpec.ofChange journalNilWrong)

/-- 'pinakeslaw27.JournalLess': WHATEVER THE INPUT: true; the input reads as it did. -/
def journalLessSpec : ChangeSpec := { name := "journalLess", fn := fun _ => fun
  | [d1, d2, d3] => { results := [.lit (.bool true)], args := [d1, d2, d3] }
  | _ => none }
def journalLessRow : OpenClaim := { program := "ytcfglfnncpcfoaa", sum := "97d15d4a223db2317ae3a9c5936f0b8960c07dc251529e31bd611eb517e3872a", func := "pinakes/pinakeslaw27.JournalLess", spec := "journalLess", inPlace := ["slices.overlaps[pinakes/api.Event]", "internal/abi.NoEscape"], unfollowed := true, recurses := true, apart := false }
def JournalLessSaid : Prop := journalLessRow.holds Try.pinned (OpenSpec.ofChange journalLessSpec)

/-- ITS FALSE NEIGHBOUR: 'it returns false'. Refute it at one input. -/
def journalLessWrong : ChangeSpec := { name := "journalLess", fn := fun _ => fun
  | [d1, d2, d3] => { results := [.lit (.bool false)], args := [d1, d2, d3] }
  | _ => none }
def JournalLessWrongFalsely : Prop := journalLessRow.holds Try.pinned (OpenSpec.ofChange journalLessWrong)

/- THE SECOND FORM. 'bulk': how many values and letters a reading holds, each counted each time it is reached (what is shared counts as often as it is met; a slice's spare places count too). A statement '..UptoSaid' is the law's where the arguments, and the package variables that the reading takes, are together of bulk at most 1048576: NARROWER than '..Said'. Prove '..Said' where nothing that the law and all that it calls make is longer than what came in: it says more and counts as full. Else prove '..UptoSaid'. A law counts once. -/
mutual
def uptoBulk {H : Type} : DataW H → Nat
  | .lit (.string bytes) => bytes.length + 1
  | .lit _ => 1
  | .nil => 1
  | .ptr d => uptoBulk d + 1
  | .slice elems spare => uptoBulkAll elems + uptoBulkAll spare + 1
  | .agg parts => uptoBulkAll parts + 1
  | .iface _ d => uptoBulk d + 1
  | .map entries => uptoBulkEntries entries + 1
  | .held _ => 1
def uptoBulkAll {H : Type} : List (DataW H) → Nat
  | [] => 0
  | d :: r => uptoBulk d + uptoBulkAll r
def uptoBulkEntries {H : Type} : List (Lit × DataW H) → Nat
  | [] => 0
  | x :: r => uptoBulkEntry x + uptoBulkEntries r
def uptoBulkEntry {H : Type} : Lit × DataW H → Nat
  | (.string bytes, d) => bytes.length + uptoBulk d + 1
  | (_, d) => uptoBulk d + 1
 end
def uptoSmall : (H : Type) → List (DataW H) → Bool := fun _ ds => decide (uptoBulkAll ds ≤ 1048576)
def OpenSpec.upto (s : _root_.Go.ChangeSpec) : _root_.Go.OpenSpec := { _root_.Go.OpenSpec.ofChange s with cond := some uptoSmall }

/-- 'pinakeslaw27.JournalEvents', WHERE WHAT IT READS IS OF BULK AT MOST 1048576: true; the input reads as it did. -/
def journalEventsUptoRow : OpenClaim := { program := "ytcfglfnncpcfoaa", sum := "97d15d4a223db2317ae3a9c5936f0b8960c07dc251529e31bd611eb517e3872a", func := "pinakes/pinakeslaw27.JournalEvents", spec := "journalEvents", inPlace := ["slices.overlaps[pinakes/api.Event]", "internal/abi.NoEscape"], unfollowed := true, recurses := true, apart := false, narrowed := true }
def JournalEventsUptoSaid : Prop := journalEventsUptoRow.holds Try.pinned (OpenSpec.upto journalEventsSpec)

/-- 'pinakeslaw27.JournalReads', WHERE WHAT IT READS IS OF BULK AT MOST 1048576: true; the input reads as it did. -/
def journalReadsUptoRow : OpenClaim := { program := "ytcfglfnncpcfoaa", sum := "97d15d4a223db2317ae3a9c5936f0b8960c07dc251529e31bd611eb517e3872a", func := "pinakes/pinakeslaw27.JournalReads", spec := "journalReads", inPlace := ["slices.overlaps[pinakes/api.Event]", "internal/abi.NoEscape"], unfollowed := true, recurses := true, apart := false, narrowed := true }
def JournalReadsUptoSaid : Prop := journalReadsUptoRow.holds Try.pinned (OpenSpec.upto journalReadsSpec)

/-- 'pinakeslaw27.JournalPlays', WHERE WHAT IT READS IS OF BULK AT MOST 1048576: true; the input reads as it did. -/
def journalPlaysUptoRow : OpenClaim := { program := "ytcfglfnncpcfoaa", sum := "97d15d4a223db2317ae3a9c5936f0b8960c07dc251529e31bd611eb517e3872a", func := "pinakes/pinakeslaw27.JournalPlays", spec := "journalPlays", inPlace := ["slices.overlaps[pinakes/api.Event]", "internal/abi.NoEscape"], unfollowed := true, recurses := true, apart := false, narrowed := true }
def JournalPlaysUptoSaid : Prop := journalPlaysUptoRow.holds Try.pinned (OpenSpec.upto journalPlaysSpec)

/-- 'pinakeslaw27.JournalOrder', WHERE WHAT IT READS IS OF BULK AT MOST 1048576: true; the input reads as it did. -/
def journalOrderUptoRow : OpenClaim := { program := "ytcfglfnncpcfoaa", sum := "97d15d4a223db2317ae3a9c5936f0b8960c07dc251529e31bd611eb517e3872a", func := "pinakes/pinakeslaw27.JournalOrder", spec := "journalOrder", inPlace := ["slices.overlaps[pinakes/api.Event]", "internal/abi.NoEscape"], unfollowed := true, recurses := true, apart := false, narrowed := true }
def JournalOrderUptoSaid : Prop := journalOrderUptoRow.holds Try.pinned (OpenSpec.upto journalOrderSpec)

/-- 'pinakeslaw27.JournalSettles', WHERE WHAT IT READS IS OF BULK AT MOST 1048576: true; the input reads as it did. -/
def journalSettlesUptoRow : OpenClaim := { program := "ytcfglfnncpcfoaa", sum := "97d15d4a223db2317ae3a9c5936f0b8960c07dc251529e31bd611eb517e3872a", func := "pinakes/pinakeslaw27.JournalSettles", spec := "journalSettles", inPlace := ["slices.overlaps[pinakes/api.Event]", "internal/abi.NoEscape"], unfollowed := true, recurses := true, apart := false, narrowed := true }
def JournalSettlesUptoSaid : Prop := journalSettlesUptoRow.holds Try.pinned (OpenSpec.upto journalSettlesSpec)

/-- 'pinakeslaw27.JournalMany', WHERE WHAT IT READS IS OF BULK AT MOST 1048576: true; the input reads as it did. -/
def journalManyUptoRow : OpenClaim := { program := "ytcfglfnncpcfoaa", sum := "97d15d4a223db2317ae3a9c5936f0b8960c07dc251529e31bd611eb517e3872a", func := "pinakes/pinakeslaw27.JournalMany", spec := "journalMany", inPlace := ["slices.overlaps[pinakes/api.Event]", "internal/abi.NoEscape"], unfollowed := true, recurses := true, apart := false, narrowed := true }
def JournalManyUptoSaid : Prop := journalManyUptoRow.holds Try.pinned (OpenSpec.upto journalManySpec)

/-- 'pinakeslaw27.JournalEarly', WHERE WHAT IT READS IS OF BULK AT MOST 1048576: true; the input reads as it did. -/
def journalEarlyUptoRow : OpenClaim := { program := "ytcfglfnncpcfoaa", sum := "97d15d4a223db2317ae3a9c5936f0b8960c07dc251529e31bd611eb517e3872a", func := "pinakes/pinakeslaw27.JournalEarly", spec := "journalEarly", inPlace := ["slices.overlaps[pinakes/api.Event]", "internal/abi.NoEscape"], unfollowed := true, recurses := true, apart := false, narrowed := true }
def JournalEarlyUptoSaid : Prop := journalEarlyUptoRow.holds Try.pinned (OpenSpec.upto journalEarlySpec)

/-- 'pinakeslaw27.JournalOwn', WHERE WHAT IT READS IS OF BULK AT MOST 1048576: true; the input reads as it did. -/
def journalOwnUptoRow : OpenClaim := { program := "ytcfglfnncpcfoaa", sum := "97d15d4a223db2317ae3a9c5936f0b8960c07dc251529e31bd611eb517e3872a", func := "pinakes/pinakeslaw27.JournalOwn", spec := "journalOwn", inPlace := ["slices.overlaps[pinakes/api.Event]", "internal/abi.NoEscape"], unfollowed := true, recurses := true, apart := false, narrowed := true }
def JournalOwnUptoSaid : Prop := journalOwnUptoRow.holds Try.pinned (OpenSpec.upto journalOwnSpec)

/-- 'pinakeslaw27.JournalNil', WHERE WHAT IT READS IS OF BULK AT MOST 1048576: true; the input reads as it did. -/
def journalNilUptoRow : OpenClaim := { program := "ytcfglfnncpcfoaa", sum := "97d15d4a223db2317ae3a9c5936f0b8960c07dc251529e31bd611eb517e3872a", func := "pinakes/pinakeslaw27.JournalNil", spec := "journalNil", inPlace := ["slices.overlaps[pinakes/api.Event]", "internal/abi.NoEscape"], unfollowed := true, recurses := true, apart := false, narrowed := true }
def JournalNilUptoSaid : Prop := journalNilUptoRow.holds Try.pinned (OpenSpec.upto journalNilSpec)

/-- 'pinakeslaw27.JournalLess', WHERE WHAT IT READS IS OF BULK AT MOST 1048576: true; the input reads as it did. -/
def journalLessUptoRow : OpenClaim := { program := "ytcfglfnncpcfoaa", sum := "97d15d4a223db2317ae3a9c5936f0b8960c07dc251529e31bd611eb517e3872a", func := "pinakes/pinakeslaw27.JournalLess", spec := "journalLess", inPlace := ["slices.overlaps[pinakes/api.Event]", "internal/abi.NoEscape"], unfollowed := true, recurses := true, apart := false, narrowed := true }
def JournalLessUptoSaid : Prop := journalLessUptoRow.holds Try.pinned (OpenSpec.upto journalLessSpec)

end Rows
end Go.Proofs.Ytcfglfnncpcfoaa
