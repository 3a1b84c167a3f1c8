/-
  No cell of these rows narrows 'for every input' (looked for: loops, veiled, ifaces, maps, wideKeys, modest, calm, conditions, laid).
  DERIVED. THE GIVEN ROWS OF THIS SEAT. 7 by the template 'for every input the law returns true; each argument reads behind the call as it read before'; 0 by the template 'total and deterministic' (their statements: YtlpmalkjbagbgaaTotals.lean).
  GIVEN WITH THE SEED: the statements are not yours to turn. If you find one false, say at which input.
  Laid BY PROGRAM, IN A SANDBOX (cutbox-rows.mjs): the forced cells as the released guide's own fill.sh prints them over the translation 1667b7546371b449… (all of the seat's roots in one cut). By AI agents, Wed Nov 11 2026. No macro, syntax, notation, axiom, sorry.
-/
import Derived.Test.YtlpmalkjbagbgaaChecked
import GoSem.Claim
import GoSem.ClaimJoined
import GoSem.ClaimMapViews
import Derived.JoinedTies
import Derived.KernelRfl
namespace Go.Proofs.Ytlpmalkjbagbgaa
/- THE CELL 'sum', in the pinned program and in every row, IS THE sha256 OF THE DUMP (.gsa) THAT YtlpmalkjbagbgaaProg.lean LOADS. Nothing in Lean hashes anything: it is a label: what it is worth is what the hold of that sum in a sandbox is worth. -/
noncomputable def Try.pinned : Pinned := { name := "ytlpmalkjbagbgaa", sum := "1667b7546371b4499eefc5bc0361cea8bb5032f3947f3d53ed5bca46d78fdc9e", checked := Try.checked }
namespace Rows
def none {H : Type} : Left H := { results := [], args := [] }

/-- 'pinakeslaw16.QueuePuts': WHATEVER THE INPUT: true; the input reads as it did. -/
def queuePutsSpec : ChangeSpec := { name := "queuePuts", fn := fun _ => fun
  | [d1, d2] => { results := [.lit (.bool true)], args := [d1, d2] }
  | _ => none }
def queuePutsRow : OpenClaim := { program := "ytlpmalkjbagbgaa", sum := "1667b7546371b4499eefc5bc0361cea8bb5032f3947f3d53ed5bca46d78fdc9e", func := "pinakes/pinakeslaw16.QueuePuts", spec := "queuePuts", unfollowed := true, recurses := true, apart := false }
def QueuePutsSaid : Prop := queuePutsRow.holds Try.pinned (OpenSpec.ofChange queuePutsSpec)

/-- ITS FALSE NEIGHBOUR: 'it returns false'. Refute it at one input. -/
def queuePutsWrong : ChangeSpec := { name := "queuePuts", fn := fun _ => fun
  | [d1, d2] => { results := [.lit (.bool false)], args := [d1, d2] }
  | _ => none }
def QueuePutsWrongFalsely : Prop := queuePutsRow.holds Try.pinned (OpenSpec.ofChange queuePutsWrong)

/-- 'pinakeslaw16.QueueFor': WHATEVER THE INPUT: true; the input reads as it did. -/
def queueForSpec : ChangeSpec := { name := "queueFor", fn := fun _ => fun
  | [d1, d2, d3] => { results := [.lit (.bool true)], args := [d1, d2, d3] }
  | _ => none }
def queueForRow : OpenClaim := { program := "ytlpmalkjbagbgaa", sum := "1667b7546371b4499eefc5bc0361cea8bb5032f3947f3d53ed5bca46d78fdc9e", func := "pinakes/pinakeslaw16.QueueFor", spec := "queueFor", unfollowed := true, recurses := true, apart := false }
def QueueForSaid : Prop := queueForRow.holds Try.pinned (OpenSpec.ofChange queueForSpec)

/-- ITS FALSE NEIGHBOUR: 'it returns false'. Refute it at one input. -/
def queueForWrong : ChangeSpec := { name := "queueFor", fn := fun _ => fun
  | [d1, d2, d3] => { results := [.lit (.bool false)], args := [d1, d2, d3] }
  | _ => none }
def QueueForWrongFalsely : Prop := queueForRow.holds Try.pinned (OpenSpec.ofChange queueForWrong)

/-- 'pinakeslaw16.QueueOrder': WHATEVER THE INPUT: true; the input reads as it did. -/
def queueOrderSpec : ChangeSpec := { name := "queueOrder", fn := fun _ => fun
  | [d1, d2] => { results := [.lit (.bool true)], args := [d1, d2] }
  | _ => none }
def queueOrderRow : OpenClaim := { program := "ytlpmalkjbagbgaa", sum := "1667b7546371b4499eefc5bc0361cea8bb5032f3947f3d53ed5bca46d78fdc9e", func := "pinakes/pinakeslaw16.QueueOrder", spec := "queueOrder", unfollowed := true, recurses := true, apart := false }
def QueueOrderSaid : Prop := queueOrderRow.holds Try.pinned (OpenSpec.ofChange queueOrderSpec)

/-- ITS FALSE NEIGHBOUR: 'it returns false'. Refute it at one input. -/
def queueOrderWrong : ChangeSpec := { name := "queueOrder", fn := fun _ => fun
  | [d1, d2] => { results := [.lit (.bool false)], args := [d1, d2] }
  | _ => none }
def QueueOrderWrongFalsely : Prop := queueOrderRow.holds Try.pinned (OpenSpec.ofChange queueOrderWrong)

/-- 'pinakeslaw16.QueueServes': WHATEVER THE INPUT: true; the input reads as it did. -/
def queueServesSpec : ChangeSpec := { name := "queueServes", fn := fun _ => fun
  | [d1, d2, d3] => { results := [.lit (.bool true)], args := [d1, d2, d3] }
  | _ => none }
def queueServesRow : OpenClaim := { program := "ytlpmalkjbagbgaa", sum := "1667b7546371b4499eefc5bc0361cea8bb5032f3947f3d53ed5bca46d78fdc9e", func := "pinakes/pinakeslaw16.QueueServes", spec := "queueServes", unfollowed := true, recurses := true, apart := false }
def QueueServesSaid : Prop := queueServesRow.holds Try.pinned (OpenSpec.ofChange queueServesSpec)

/-- ITS FALSE NEIGHBOUR: 'it returns false'. Refute it at one input. -/
def queueServesWrong : ChangeSpec := { name := "queueServes", fn := fun _ => fun
  | [d1, d2, d3] => { results := [.lit (.bool false)], args := [d1, d2, d3] }
  | _ => none }
def QueueServesWrongFalsely : Prop := queueServesRow.holds Try.pinned (OpenSpec.ofChange queueServesWrong)

/-- 'pinakeslaw16.QueueChanges': WHATEVER THE INPUT: true; the input reads as it did. -/
def queueChangesSpec : ChangeSpec := { name := "queueChanges", fn := fun _ => fun
  | [d1, d2] => { results := [.lit (.bool true)], args := [d1, d2] }
  | _ => none }
def queueChangesRow : OpenClaim := { program := "ytlpmalkjbagbgaa", sum := "1667b7546371b4499eefc5bc0361cea8bb5032f3947f3d53ed5bca46d78fdc9e", func := "pinakes/pinakeslaw16.QueueChanges", spec := "queueChanges", unfollowed := true, recurses := true, apart := false }
def QueueChangesSaid : Prop := queueChangesRow.holds Try.pinned (OpenSpec.ofChange queueChangesSpec)

/-- ITS FALSE NEIGHBOUR: 'it returns false'. Refute it at one input. -/
def queueChangesWrong : ChangeSpec := { name := "queueChanges", fn := fun _ => fun
  | [d1, d2] => { results := [.lit (.bool false)], args := [d1, d2] }
  | _ => none }
def QueueChangesWrongFalsely : Prop := queueChangesRow.holds Try.pinned (OpenSpec.ofChange queueChangesWrong)

/-- 'pinakeslaw16.QueueAgain': WHATEVER THE INPUT: true; the input reads as it did. -/
def queueAgainSpec : ChangeSpec := { name := "queueAgain", fn := fun _ => fun
  | [d1, d2, d3] => { results := [.lit (.bool true)], args := [d1, d2, d3] }
  | _ => none }
def queueAgainRow : OpenClaim := { program := "ytlpmalkjbagbgaa", sum := "1667b7546371b4499eefc5bc0361cea8bb5032f3947f3d53ed5bca46d78fdc9e", func := "pinakes/pinakeslaw16.QueueAgain", spec := "queueAgain", unfollowed := true, recurses := true, apart := false }
def QueueAgainSaid : Prop := queueAgainRow.holds Try.pinned (OpenSpec.ofChange queueAgainSpec)

/-- ITS FALSE NEIGHBOUR: 'it returns false'. Refute it at one input. -/
def queueAgainWrong : ChangeSpec := { name := "queueAgain", fn := fun _ => fun
  | [d1, d2, d3] => { results := [.lit (.bool false)], args := [d1, d2, d3] }
  | _ => none }
def QueueAgainWrongFalsely : Prop := queueAgainRow.holds Try.pinned (OpenSpec.ofChange queueAgainWrong)

/-- 'pinakeslaw16.QueueKeeps': WHATEVER THE INPUT: true; the input reads as it did. -/
def queueKeepsSpec : ChangeSpec := { name := "queueKeeps", fn := fun _ => fun
  | [d1, d2, d3] => { results := [.lit (.bool true)], args := [d1, d2, d3] }
  | _ => none }
def queueKeepsRow : OpenClaim := { program := "ytlpmalkjbagbgaa", sum := "1667b7546371b4499eefc5bc0361cea8bb5032f3947f3d53ed5bca46d78fdc9e", func := "pinakes/pinakeslaw16.QueueKeeps", spec := "queueKeeps", unfollowed := true, recurses := true, apart := false }
def QueueKeepsSaid : Prop := queueKeepsRow.holds Try.pinned (OpenSpec.ofChange queueKeepsSpec)

/-- ITS FALSE NEIGHBOUR: 'it returns false'. Refute it at one input. -/
def queueKeepsWrong : ChangeSpec := { name := "queueKeeps", fn := fun _ => fun
  | [d1, d2, d3] => { results := [.lit (.bool false)], args := [d1, d2, d3] }
  | _ => none }
def QueueKeepsWrongFalsely : Prop := queueKeepsRow.holds Try.pinned (OpenSpec.ofChange queueKeepsWrong)

/- THE SECOND FORM. 'bulk': how many values and letters a reading holds, each counted each time it is reached (what is shared counts as often as it is met; a slice's spare places count too). A statement '..UptoSaid' is the law's where the arguments, and the package variables that the reading takes, are together of bulk at most 1048576: NARROWER than '..Said'. Prove '..Said' where nothing that the law and all that it calls make is longer than what came in: it says more and counts as full. Else prove '..UptoSaid'. A law counts once. -/
mutual
def uptoBulk {H : Type} : DataW H → Nat
  | .lit (.string bytes) => bytes.length + 1
  | .lit _ => 1
  | .nil => 1
  | .ptr d => uptoBulk d + 1
  | .slice elems spare => uptoBulkAll elems + uptoBulkAll spare + 1
  | .agg parts => uptoBulkAll parts + 1
  | .iface _ d => uptoBulk d + 1
  | .map entries => uptoBulkEntries entries + 1
  | .held _ => 1
def uptoBulkAll {H : Type} : List (DataW H) → Nat
  | [] => 0
  | d :: r => uptoBulk d + uptoBulkAll r
def uptoBulkEntries {H : Type} : List (Lit × DataW H) → Nat
  | [] => 0
  | x :: r => uptoBulkEntry x + uptoBulkEntries r
def uptoBulkEntry {H : Type} : Lit × DataW H → Nat
  | (.string bytes, d) => bytes.length + uptoBulk d + 1
  | (_, d) => uptoBulk d + 1
 end
def uptoSmall : (H : Type) → List (DataW H) → Bool := fun _ ds => decide (uptoBulkAll ds ≤ 1048576)
def OpenSpec.upto (s : _root_.Go.ChangeSpec) : _root_.Go.OpenSpec := { _root_.Go.OpenSpec.ofChange s with cond := some uptoSmall }

/-- 'pinakeslaw16.QueuePuts', WHERE WHAT IT READS IS OF BULK AT MOST 1048576: true; the input reads as it did. -/
def queuePutsUptoRow : OpenClaim := { program := "ytlpmalkjbagbgaa", sum := "1667b7546371b4499eefc5bc0361cea8bb5032f3947f3d53ed5bca46d78fdc9e", func := "pinakes/pinakeslaw16.QueuePuts", spec := "queuePuts", unfollowed := true, recurses := true, apart := false, narrowed := true }
def QueuePutsUptoSaid : Prop := queuePutsUptoRow.holds Try.pinned (OpenSpec.upto queuePutsSpec)

/-- 'pinakeslaw16.QueueFor', WHERE WHAT IT READS IS OF BULK AT MOST 1048576: true; the input reads as it did. -/
def queueForUptoRow : OpenClaim := { program := "ytlpmalkjbagbgaa", sum := "1667b7546371b4499eefc5bc0361cea8bb5032f3947f3d53ed5bca46d78fdc9e", func := "pinakes/pinakeslaw16.QueueFor", spec := "queueFor", unfollowed := true, recurses := true, apart := false, narrowed := true }
def QueueForUptoSaid : Prop := queueForUptoRow.holds Try.pinned (OpenSpec.upto queueForSpec)

/-- 'pinakeslaw16.QueueOrder', WHERE WHAT IT READS IS OF BULK AT MOST 1048576: true; the input reads as it did. -/
def queueOrderUptoRow : OpenClaim := { program := "ytlpmalkjbagbgaa", sum := "1667b7546371b4499eefc5bc0361cea8bb5032f3947f3d53ed5bca46d78fdc9e", func := "pinakes/pinakeslaw16.QueueOrder", spec := "queueOrder", unfollowed := true, recurses := true, apart := false, narrowed := true }
def QueueOrderUptoSaid : Prop := queueOrderUptoRow.holds Try.pinned (OpenSpec.upto queueOrderSpec)

/-- 'pinakeslaw16.QueueServes', WHERE WHAT IT READS IS OF BULK AT MOST 1048576: true; the input reads as it did. -/
def queueServesUptoRow : OpenClaim := { program := "ytlpmalkjbagbgaa", sum := "1667b7546371b4499eefc5bc0361cea8bb5032f3947f3d53ed5bca46d78fdc9e", func := "pinakes/pinakeslaw16.QueueServes", spec := "queueServes", unfollowed := true, recurses := true, apart := false, narrowed := true }
def QueueServesUptoSaid : Prop := queueServesUptoRow.holds Try.pinned (OpenSpec.upto queueServesSpec)

/-- 'pinakeslaw16.QueueChanges', WHERE WHAT IT READS IS OF BULK AT MOST 1048576: true; the input reads as it did. -/
def queueChangesUptoRow : OpenClaim := { program := "ytlpmalkjbagbgaa", sum := "1667b7546371b4499eefc5bc0361cea8bb5032f3947f3d53ed5bca46d78fdc9e", func := "pinakes/pinakeslaw16.QueueChanges", spec := "queueChanges", unfollowed := true, recurses := true, apart := false, narrowed := true }
def QueueChangesUptoSaid : Prop := queueChangesUptoRow.holds Try.pinned (OpenSpec.upto queueChangesSpec)

/-- 'pinakeslaw16.QueueAgain', WHERE WHAT IT READS IS OF BULK AT MOST 1048576: true; the input reads as it did. -/
def queueAgainUptoRow : OpenClaim := { program := "ytlpmalkjbagbgaa", sum := "1667b7546371b4499eefc5bc0361cea8bb5032f3947f3d53ed5bca46d78fdc9e", func := "pinakes/pinakeslaw16.QueueAgain", spec := "queueAgain", unfollowed := true, recurses := true, apart := false, narrowed := true }
def QueueAgainUptoSaid : Prop := queueAgainUptoRow.holds Try.pinned (OpenSpec.upto queueAgainSpec)

/-- 'pinakeslaw16.QueueKeeps', WHERE WHAT IT READS IS OF BULK AT MOST 1048576: true; the input reads as it did. -/
def queueKeepsUptoRow : OpenClaim := { program := "ytlpmalkjbagbgaa", sum := "1667b7546371b4499eefc5bc0361cea8bb5032f3947f3d53ed5bca46d78fdc9e", func := "pinakes/pinakeslaw16.QueueKeeps", spec := "queueKeeps", unfollowed := true, recurses := true, apart := false, narrowed := true }
def QueueKeepsUptoSaid : Prop := queueKeepsUptoRow.holds Try.pinned (OpenSpec.upto queueKeepsSpec)

end Rows
end Go.Proofs.Ytlpmalkjbagbgaa
