/-
  No cell of these rows narrows 'for every input' (looked for: loops, veiled, ifaces, maps, wideKeys, modest, calm, conditions, laid).
  DERIVED. THE GIVEN ROWS OF THIS SEAT. 17 by the template 'for every input the law returns true; each argument reads behind the call as it read before'; 0 by the template 'total and deterministic' (their statements: YtdjbgojdkaipfaaTotals.lean).
  GIVEN WITH THE SEED: the statements are not yours to turn. If you find one false, say at which input.
  Laid BY PROGRAM, IN A SANDBOX (cutbox-rows.mjs): the forced cells as the released guide's own fill.sh prints them over the translation 56884a0183ba2baa… (all of the seat's roots in one cut). By AI agents, Wed Nov 11 2026. No macro, syntax, notation, axiom, sorry.
-/
import Derived.Test.YtdjbgojdkaipfaaChecked
import GoSem.Claim
import GoSem.ClaimJoined
import GoSem.ClaimMapViews
import Derived.JoinedTies
import Derived.KernelRfl
namespace Go.Proofs.Ytdjbgojdkaipfaa
/- THE CELL 'sum', in the pinned program and in every row, IS THE sha256 OF THE DUMP (.gsa) THAT YtdjbgojdkaipfaaProg.lean LOADS. Nothing in Lean hashes anything: it is a label: what it is worth is what the hold of that sum in a sandbox is worth. -/
noncomputable def Try.pinned : Pinned := { name := "ytdjbgojdkaipfaa", sum := "56884a0183ba2baa45930637933d95c35256f13c96994071a4bccdf3884126af", checked := Try.checked }
namespace Rows
def none {H : Type} : Left H := { results := [], args := [] }

/-- 'truchmanlaw06.DeciOne': WHATEVER THE INPUT: true; the input reads as it did. -/
def deciOneSpec : ChangeSpec := { name := "deciOne", fn := fun _ => fun
  | [d1, d2] => { results := [.lit (.bool true)], args := [d1, d2] }
  | _ => none }
def deciOneRow : OpenClaim := { program := "ytdjbgojdkaipfaa", sum := "56884a0183ba2baa45930637933d95c35256f13c96994071a4bccdf3884126af", func := "truchman/truchmanlaw06.DeciOne", spec := "deciOne", plainKeys := false, apart := false }
def DeciOneSaid : Prop := deciOneRow.holds Try.pinned (OpenSpec.ofChange deciOneSpec)

/-- ITS FALSE NEIGHBOUR: 'it returns false'. Refute it at one input. -/
def deciOneWrong : ChangeSpec := { name := "deciOne", fn := fun _ => fun
  | [d1, d2] => { results := [.lit (.bool false)], args := [d1, d2] }
  | _ => none }
def DeciOneWrongFalsely : Prop := deciOneRow.holds Try.pinned (OpenSpec.ofChange deciOneWrong)

/-- 'truchmanlaw06.DeciReads': WHATEVER THE INPUT: true; the input reads as it did. -/
def deciReadsSpec : ChangeSpec := { name := "deciReads", fn := fun _ => fun
  | [d] => { results := [.lit (.bool true)], args := [d] }
  | _ => none }
def deciReadsRow : OpenClaim := { program := "ytdjbgojdkaipfaa", sum := "56884a0183ba2baa45930637933d95c35256f13c96994071a4bccdf3884126af", func := "truchman/truchmanlaw06.DeciReads", spec := "deciReads", plainKeys := false, apart := false }
def DeciReadsSaid : Prop := deciReadsRow.holds Try.pinned (OpenSpec.ofChange deciReadsSpec)

/-- ITS FALSE NEIGHBOUR: 'it returns false'. Refute it at one input. -/
def deciReadsWrong : ChangeSpec := { name := "deciReads", fn := fun _ => fun
  | [d] => { results := [.lit (.bool false)], args := [d] }
  | _ => none }
def DeciReadsWrongFalsely : Prop := deciReadsRow.holds Try.pinned (OpenSpec.ofChange deciReadsWrong)

/-- 'truchmanlaw06.DeciBack': WHATEVER THE INPUT: true; the input reads as it did. -/
def deciBackSpec : ChangeSpec := { name := "deciBack", fn := fun _ => fun
  | [d1, d2, d3] => { results := [.lit (.bool true)], args := [d1, d2, d3] }
  | _ => none }
def deciBackRow : OpenClaim := { program := "ytdjbgojdkaipfaa", sum := "56884a0183ba2baa45930637933d95c35256f13c96994071a4bccdf3884126af", func := "truchman/truchmanlaw06.DeciBack", spec := "deciBack", recurses := true, plainKeys := false, apart := false }
def DeciBackSaid : Prop := deciBackRow.holds Try.pinned (OpenSpec.ofChange deciBackSpec)

/-- ITS FALSE NEIGHBOUR: 'it returns false'. Refute it at one input. -/
def deciBackWrong : ChangeSpec := { name := "deciBack", fn := fun _ => fun
  | [d1, d2, d3] => { results := [.lit (.bool false)], args := [d1, d2, d3] }
  | _ => none }
def DeciBackWrongFalsely : Prop := deciBackRow.holds Try.pinned (OpenSpec.ofChange deciBackWrong)

/-- 'truchmanlaw07.IdentSeen': WHATEVER THE INPUT: true; the input reads as it did. -/
def identSeenSpec : ChangeSpec := { name := "identSeen", fn := fun _ => fun
  | [d1, d2] => { results := [.lit (.bool true)], args := [d1, d2] }
  | _ => none }
def identSeenRow : OpenClaim := { program := "ytdjbgojdkaipfaa", sum := "56884a0183ba2baa45930637933d95c35256f13c96994071a4bccdf3884126af", func := "truchman/truchmanlaw07.IdentSeen", spec := "identSeen", unfollowed := true, recurses := true, plainKeys := false, apart := false }
def IdentSeenSaid : Prop := identSeenRow.holds Try.pinned (OpenSpec.ofChange identSeenSpec)

/-- ITS FALSE NEIGHBOUR: 'it returns false'. Refute it at one input. -/
def identSeenWrong : ChangeSpec := { name := "identSeen", fn := fun _ => fun
  | [d1, d2] => { results := [.lit (.bool false)], args := [d1, d2] }
  | _ => none }
def IdentSeenWrongFalsely : Prop := identSeenRow.holds Try.pinned (OpenSpec.ofChange identSeenWrong)

/-- 'truchmanlaw07.IdentReads': WHATEVER THE INPUT: true; the input reads as it did. -/
def identReadsSpec : ChangeSpec := { name := "identReads", fn := fun _ => fun
  | [d] => { results := [.lit (.bool true)], args := [d] }
  | _ => none }
def identReadsRow : OpenClaim := { program := "ytdjbgojdkaipfaa", sum := "56884a0183ba2baa45930637933d95c35256f13c96994071a4bccdf3884126af", func := "truchman/truchmanlaw07.IdentReads", spec := "identReads", unfollowed := true, recurses := true, plainKeys := false, apart := false }
def IdentReadsSaid : Prop := identReadsRow.holds Try.pinned (OpenSpec.ofChange identReadsSpec)

/-- ITS FALSE NEIGHBOUR: 'it returns false'. Refute it at one input. -/
def identReadsWrong : ChangeSpec := { name := "identReads", fn := fun _ => fun
  | [d] => { results := [.lit (.bool false)], args := [d] }
  | _ => none }
def IdentReadsWrongFalsely : Prop := identReadsRow.holds Try.pinned (OpenSpec.ofChange identReadsWrong)

/-- 'truchmanlaw43.ParentReads': WHATEVER THE INPUT: true; the input reads as it did. -/
def parentReadsSpec : ChangeSpec := { name := "parentReads", fn := fun _ => fun
  | [d] => { results := [.lit (.bool true)], args := [d] }
  | _ => none }
def parentReadsRow : OpenClaim := { program := "ytdjbgojdkaipfaa", sum := "56884a0183ba2baa45930637933d95c35256f13c96994071a4bccdf3884126af", func := "truchman/truchmanlaw43.ParentReads", spec := "parentReads", plainKeys := false, apart := false }
def ParentReadsSaid : Prop := parentReadsRow.holds Try.pinned (OpenSpec.ofChange parentReadsSpec)

/-- ITS FALSE NEIGHBOUR: 'it returns false'. Refute it at one input. -/
def parentReadsWrong : ChangeSpec := { name := "parentReads", fn := fun _ => fun
  | [d] => { results := [.lit (.bool false)], args := [d] }
  | _ => none }
def ParentReadsWrongFalsely : Prop := parentReadsRow.holds Try.pinned (OpenSpec.ofChange parentReadsWrong)

/-- 'truchmanlaw43.ParentBack': WHATEVER THE INPUT: true; the input reads as it did. -/
def parentBackSpec : ChangeSpec := { name := "parentBack", fn := fun _ => fun
  | [d] => { results := [.lit (.bool true)], args := [d] }
  | _ => none }
def parentBackRow : OpenClaim := { program := "ytdjbgojdkaipfaa", sum := "56884a0183ba2baa45930637933d95c35256f13c96994071a4bccdf3884126af", func := "truchman/truchmanlaw43.ParentBack", spec := "parentBack", plainKeys := false, apart := false }
def ParentBackSaid : Prop := parentBackRow.holds Try.pinned (OpenSpec.ofChange parentBackSpec)

/-- ITS FALSE NEIGHBOUR: 'it returns false'. Refute it at one input. -/
def parentBackWrong : ChangeSpec := { name := "parentBack", fn := fun _ => fun
  | [d] => { results := [.lit (.bool false)], args := [d] }
  | _ => none }
def ParentBackWrongFalsely : Prop := parentBackRow.holds Try.pinned (OpenSpec.ofChange parentBackWrong)

/-- 'truchmanlaw43.ParentKeeps': WHATEVER THE INPUT: true; the input reads as it did. -/
def parentKeepsSpec : ChangeSpec := { name := "parentKeeps", fn := fun _ => fun
  | [d1, d2] => { results := [.lit (.bool true)], args := [d1, d2] }
  | _ => none }
def parentKeepsRow : OpenClaim := { program := "ytdjbgojdkaipfaa", sum := "56884a0183ba2baa45930637933d95c35256f13c96994071a4bccdf3884126af", func := "truchman/truchmanlaw43.ParentKeeps", spec := "parentKeeps", plainKeys := false, apart := false }
def ParentKeepsSaid : Prop := parentKeepsRow.holds Try.pinned (OpenSpec.ofChange parentKeepsSpec)

/-- ITS FALSE NEIGHBOUR: 'it returns false'. Refute it at one input. -/
def parentKeepsWrong : ChangeSpec := { name := "parentKeeps", fn := fun _ => fun
  | [d1, d2] => { results := [.lit (.bool false)], args := [d1, d2] }
  | _ => none }
def ParentKeepsWrongFalsely : Prop := parentKeepsRow.holds Try.pinned (OpenSpec.ofChange parentKeepsWrong)

/-- 'truchmanlaw20.CheadFields': WHATEVER THE INPUT: true; the input reads as it did. -/
def cheadFieldsSpec : ChangeSpec := { name := "cheadFields", fn := fun _ => fun
  | [d1, d2] => { results := [.lit (.bool true)], args := [d1, d2] }
  | _ => none }
def cheadFieldsRow : OpenClaim := { program := "ytdjbgojdkaipfaa", sum := "56884a0183ba2baa45930637933d95c35256f13c96994071a4bccdf3884126af", func := "truchman/truchmanlaw20.CheadFields", spec := "cheadFields", unfollowed := true, recurses := true, plainKeys := false, apart := false }
def CheadFieldsSaid : Prop := cheadFieldsRow.holds Try.pinned (OpenSpec.ofChange cheadFieldsSpec)

/-- ITS FALSE NEIGHBOUR: 'it returns false'. Refute it at one input. -/
def cheadFieldsWrong : ChangeSpec := { name := "cheadFields", fn := fun _ => fun
  | [d1, d2] => { results := [.lit (.bool false)], args := [d1, d2] }
  | _ => none }
def CheadFieldsWrongFalsely : Prop := cheadFieldsRow.holds Try.pinned (OpenSpec.ofChange cheadFieldsWrong)

/-- 'truchmanlaw20.CheadBack': WHATEVER THE INPUT: true; the input reads as it did. -/
def cheadBackSpec : ChangeSpec := { name := "cheadBack", fn := fun _ => fun
  | [d1, d2, d3] => { results := [.lit (.bool true)], args := [d1, d2, d3] }
  | _ => none }
def cheadBackRow : OpenClaim := { program := "ytdjbgojdkaipfaa", sum := "56884a0183ba2baa45930637933d95c35256f13c96994071a4bccdf3884126af", func := "truchman/truchmanlaw20.CheadBack", spec := "cheadBack", unfollowed := true, recurses := true, plainKeys := false, apart := false }
def CheadBackSaid : Prop := cheadBackRow.holds Try.pinned (OpenSpec.ofChange cheadBackSpec)

/-- ITS FALSE NEIGHBOUR: 'it returns false'. Refute it at one input. -/
def cheadBackWrong : ChangeSpec := { name := "cheadBack", fn := fun _ => fun
  | [d1, d2, d3] => { results := [.lit (.bool false)], args := [d1, d2, d3] }
  | _ => none }
def CheadBackWrongFalsely : Prop := cheadBackRow.holds Try.pinned (OpenSpec.ofChange cheadBackWrong)

/-- 'truchmanlaw20.CheadLists': WHATEVER THE INPUT: true; the input reads as it did. -/
def cheadListsSpec : ChangeSpec := { name := "cheadLists", fn := fun _ => fun
  | [d] => { results := [.lit (.bool true)], args := [d] }
  | _ => none }
def cheadListsRow : OpenClaim := { program := "ytdjbgojdkaipfaa", sum := "56884a0183ba2baa45930637933d95c35256f13c96994071a4bccdf3884126af", func := "truchman/truchmanlaw20.CheadLists", spec := "cheadLists", unfollowed := true, recurses := true, plainKeys := false, apart := false }
def CheadListsSaid : Prop := cheadListsRow.holds Try.pinned (OpenSpec.ofChange cheadListsSpec)

/-- ITS FALSE NEIGHBOUR: 'it returns false'. Refute it at one input. -/
def cheadListsWrong : ChangeSpec := { name := "cheadLists", fn := fun _ => fun
  | [d] => { results := [.lit (.bool false)], args := [d] }
  | _ => none }
def CheadListsWrongFalsely : Prop := cheadListsRow.holds Try.pinned (OpenSpec.ofChange cheadListsWrong)

/-- 'truchmanlaw21.CskipDeep': WHATEVER THE INPUT: true; the input reads as it did. -/
def cskipDeepSpec : ChangeSpec := { name := "cskipDeep", fn := fun _ => fun
  | [d1, d2] => { results := [.lit (.bool true)], args := [d1, d2] }
  | _ => none }
def cskipDeepRow : OpenClaim := { program := "ytdjbgojdkaipfaa", sum := "56884a0183ba2baa45930637933d95c35256f13c96994071a4bccdf3884126af", func := "truchman/truchmanlaw21.CskipDeep", spec := "cskipDeep", unfollowed := true, recurses := true, plainKeys := false, apart := false }
def CskipDeepSaid : Prop := cskipDeepRow.holds Try.pinned (OpenSpec.ofChange cskipDeepSpec)

/-- ITS FALSE NEIGHBOUR: 'it returns false'. Refute it at one input. -/
def cskipDeepWrong : ChangeSpec := { name := "cskipDeep", fn := fun _ => fun
  | [d1, d2] => { results := [.lit (.bool false)], args := [d1, d2] }
  | _ => none }
def CskipDeepWrongFalsely : Prop := cskipDeepRow.holds Try.pinned (OpenSpec.ofChange cskipDeepWrong)

/-- 'truchmanlaw21.CskipPasses': WHATEVER THE INPUT: true; the input reads as it did. -/
def cskipPassesSpec : ChangeSpec := { name := "cskipPasses", fn := fun _ => fun
  | [d1, d2, d3] => { results := [.lit (.bool true)], args := [d1, d2, d3] }
  | _ => none }
def cskipPassesRow : OpenClaim := { program := "ytdjbgojdkaipfaa", sum := "56884a0183ba2baa45930637933d95c35256f13c96994071a4bccdf3884126af", func := "truchman/truchmanlaw21.CskipPasses", spec := "cskipPasses", unfollowed := true, recurses := true, plainKeys := false, apart := false }
def CskipPassesSaid : Prop := cskipPassesRow.holds Try.pinned (OpenSpec.ofChange cskipPassesSpec)

/-- ITS FALSE NEIGHBOUR: 'it returns false'. Refute it at one input. -/
def cskipPassesWrong : ChangeSpec := { name := "cskipPasses", fn := fun _ => fun
  | [d1, d2, d3] => { results := [.lit (.bool false)], args := [d1, d2, d3] }
  | _ => none }
def CskipPassesWrongFalsely : Prop := cskipPassesRow.holds Try.pinned (OpenSpec.ofChange cskipPassesWrong)

/-- 'truchmanlaw21.CskipWhole': WHATEVER THE INPUT: true; the input reads as it did. -/
def cskipWholeSpec : ChangeSpec := { name := "cskipWhole", fn := fun _ => fun
  | [d1, d2, d3] => { results := [.lit (.bool true)], args := [d1, d2, d3] }
  | _ => none }
def cskipWholeRow : OpenClaim := { program := "ytdjbgojdkaipfaa", sum := "56884a0183ba2baa45930637933d95c35256f13c96994071a4bccdf3884126af", func := "truchman/truchmanlaw21.CskipWhole", spec := "cskipWhole", unfollowed := true, recurses := true, plainKeys := false, apart := false }
def CskipWholeSaid : Prop := cskipWholeRow.holds Try.pinned (OpenSpec.ofChange cskipWholeSpec)

/-- ITS FALSE NEIGHBOUR: 'it returns false'. Refute it at one input. -/
def cskipWholeWrong : ChangeSpec := { name := "cskipWhole", fn := fun _ => fun
  | [d1, d2, d3] => { results := [.lit (.bool false)], args := [d1, d2, d3] }
  | _ => none }
def CskipWholeWrongFalsely : Prop := cskipWholeRow.holds Try.pinned (OpenSpec.ofChange cskipWholeWrong)

/-- 'truchmanlaw22.CreadStructs': WHATEVER THE INPUT: true; the input reads as it did. -/
def creadStructsSpec : ChangeSpec := { name := "creadStructs", fn := fun _ => fun
  | [d1, d2] => { results := [.lit (.bool true)], args := [d1, d2] }
  | _ => none }
def creadStructsRow : OpenClaim := { program := "ytdjbgojdkaipfaa", sum := "56884a0183ba2baa45930637933d95c35256f13c96994071a4bccdf3884126af", func := "truchman/truchmanlaw22.CreadStructs", spec := "creadStructs", unfollowed := true, recurses := true, plainKeys := false, apart := false }
def CreadStructsSaid : Prop := creadStructsRow.holds Try.pinned (OpenSpec.ofChange creadStructsSpec)

/-- ITS FALSE NEIGHBOUR: 'it returns false'. Refute it at one input. -/
def creadStructsWrong : ChangeSpec := { name := "creadStructs", fn := fun _ => fun
  | [d1, d2] => { results := [.lit (.bool false)], args := [d1, d2] }
  | _ => none }
def CreadStructsWrongFalsely : Prop := creadStructsRow.holds Try.pinned (OpenSpec.ofChange creadStructsWrong)

/-- 'truchmanlaw22.CreadItems': WHATEVER THE INPUT: true; the input reads as it did. -/
def creadItemsSpec : ChangeSpec := { name := "creadItems", fn := fun _ => fun
  | [d1, d2] => { results := [.lit (.bool true)], args := [d1, d2] }
  | _ => none }
def creadItemsRow : OpenClaim := { program := "ytdjbgojdkaipfaa", sum := "56884a0183ba2baa45930637933d95c35256f13c96994071a4bccdf3884126af", func := "truchman/truchmanlaw22.CreadItems", spec := "creadItems", unfollowed := true, recurses := true, plainKeys := false, apart := false }
def CreadItemsSaid : Prop := creadItemsRow.holds Try.pinned (OpenSpec.ofChange creadItemsSpec)

/-- ITS FALSE NEIGHBOUR: 'it returns false'. Refute it at one input. -/
def creadItemsWrong : ChangeSpec := { name := "creadItems", fn := fun _ => fun
  | [d1, d2] => { results := [.lit (.bool false)], args := [d1, d2] }
  | _ => none }
def CreadItemsWrongFalsely : Prop := creadItemsRow.holds Try.pinned (OpenSpec.ofChange creadItemsWrong)

/-- 'truchmanlaw22.CreadLast': WHATEVER THE INPUT: true; the input reads as it did. -/
def creadLastSpec : ChangeSpec := { name := "creadLast", fn := fun _ => fun
  | [d1, d2, d3] => { results := [.lit (.bool true)], args := [d1, d2, d3] }
  | _ => none }
def creadLastRow : OpenClaim := { program := "ytdjbgojdkaipfaa", sum := "56884a0183ba2baa45930637933d95c35256f13c96994071a4bccdf3884126af", func := "truchman/truchmanlaw22.CreadLast", spec := "creadLast", unfollowed := true, recurses := true, plainKeys := false, apart := false }
def CreadLastSaid : Prop := creadLastRow.holds Try.pinned (OpenSpec.ofChange creadLastSpec)

/-- ITS FALSE NEIGHBOUR: 'it returns false'. Refute it at one input. -/
def creadLastWrong : ChangeSpec := { name := "creadLast", fn := fun _ => fun
  | [d1, d2, d3] => { results := [.lit (.bool false)], args := [d1, d2, d3] }
  | _ => none }
def CreadLastWrongFalsely : Prop := creadLastRow.holds Try.pinned (OpenSpec.ofChange creadLastWrong)

/- THE SECOND FORM. 'bulk': how many values and letters a reading holds, each counted each time it is reached (what is shared counts as often as it is met; a slice's spare places count too). A statement '..UptoSaid' is the law's where the arguments, and the package variables that the reading takes, are together of bulk at most 1048576: NARROWER than '..Said'. Prove '..Said' where nothing that the law and all that it calls make is longer than what came in: it says more and counts as full. Else prove '..UptoSaid'. A law counts once. -/
mutual
def uptoBulk {H : Type} : DataW H → Nat
  | .lit (.string bytes) => bytes.length + 1
  | .lit _ => 1
  | .nil => 1
  | .ptr d => uptoBulk d + 1
  | .slice elems spare => uptoBulkAll elems + uptoBulkAll spare + 1
  | .agg parts => uptoBulkAll parts + 1
  | .iface _ d => uptoBulk d + 1
  | .map entries => uptoBulkEntries entries + 1
  | .held _ => 1
def uptoBulkAll {H : Type} : List (DataW H) → Nat
  | [] => 0
  | d :: r => uptoBulk d + uptoBulkAll r
def uptoBulkEntries {H : Type} : List (Lit × DataW H) → Nat
  | [] => 0
  | x :: r => uptoBulkEntry x + uptoBulkEntries r
def uptoBulkEntry {H : Type} : Lit × DataW H → Nat
  | (.string bytes, d) => bytes.length + uptoBulk d + 1
  | (_, d) => uptoBulk d + 1
 end
def uptoSmall : (H : Type) → List (DataW H) → Bool := fun _ ds => decide (uptoBulkAll ds ≤ 1048576)
def OpenSpec.upto (s : _root_.Go.ChangeSpec) : _root_.Go.OpenSpec := { _root_.Go.OpenSpec.ofChange s with cond := some uptoSmall }

/-- 'truchmanlaw06.DeciOne', WHERE WHAT IT READS IS OF BULK AT MOST 1048576: true; the input reads as it did. -/
def deciOneUptoRow : OpenClaim := { program := "ytdjbgojdkaipfaa", sum := "56884a0183ba2baa45930637933d95c35256f13c96994071a4bccdf3884126af", func := "truchman/truchmanlaw06.DeciOne", spec := "deciOne", plainKeys := false, apart := false, narrowed := true }
def DeciOneUptoSaid : Prop := deciOneUptoRow.holds Try.pinned (OpenSpec.upto deciOneSpec)

/-- 'truchmanlaw06.DeciReads', WHERE WHAT IT READS IS OF BULK AT MOST 1048576: true; the input reads as it did. -/
def deciReadsUptoRow : OpenClaim := { program := "ytdjbgojdkaipfaa", sum := "56884a0183ba2baa45930637933d95c35256f13c96994071a4bccdf3884126af", func := "truchman/truchmanlaw06.DeciReads", spec := "deciReads", plainKeys := false, apart := false, narrowed := true }
def DeciReadsUptoSaid : Prop := deciReadsUptoRow.holds Try.pinned (OpenSpec.upto deciReadsSpec)

/-- 'truchmanlaw06.DeciBack', WHERE WHAT IT READS IS OF BULK AT MOST 1048576: true; the input reads as it did. -/
def deciBackUptoRow : OpenClaim := { program := "ytdjbgojdkaipfaa", sum := "56884a0183ba2baa45930637933d95c35256f13c96994071a4bccdf3884126af", func := "truchman/truchmanlaw06.DeciBack", spec := "deciBack", recurses := true, plainKeys := false, apart := false, narrowed := true }
def DeciBackUptoSaid : Prop := deciBackUptoRow.holds Try.pinned (OpenSpec.upto deciBackSpec)

/-- 'truchmanlaw07.IdentSeen', WHERE WHAT IT READS IS OF BULK AT MOST 1048576: true; the input reads as it did. -/
def identSeenUptoRow : OpenClaim := { program := "ytdjbgojdkaipfaa", sum := "56884a0183ba2baa45930637933d95c35256f13c96994071a4bccdf3884126af", func := "truchman/truchmanlaw07.IdentSeen", spec := "identSeen", unfollowed := true, recurses := true, plainKeys := false, apart := false, narrowed := true }
def IdentSeenUptoSaid : Prop := identSeenUptoRow.holds Try.pinned (OpenSpec.upto identSeenSpec)

/-- 'truchmanlaw07.IdentReads', WHERE WHAT IT READS IS OF BULK AT MOST 1048576: true; the input reads as it did. -/
def identReadsUptoRow : OpenClaim := { program := "ytdjbgojdkaipfaa", sum := "56884a0183ba2baa45930637933d95c35256f13c96994071a4bccdf3884126af", func := "truchman/truchmanlaw07.IdentReads", spec := "identReads", unfollowed := true, recurses := true, plainKeys := false, apart := false, narrowed := true }
def IdentReadsUptoSaid : Prop := identReadsUptoRow.holds Try.pinned (OpenSpec.upto identReadsSpec)

/-- 'truchmanlaw43.ParentReads', WHERE WHAT IT READS IS OF BULK AT MOST 1048576: true; the input reads as it did. -/
def parentReadsUptoRow : OpenClaim := { program := "ytdjbgojdkaipfaa", sum := "56884a0183ba2baa45930637933d95c35256f13c96994071a4bccdf3884126af", func := "truchman/truchmanlaw43.ParentReads", spec := "parentReads", plainKeys := false, apart := false, narrowed := true }
def ParentReadsUptoSaid : Prop := parentReadsUptoRow.holds Try.pinned (OpenSpec.upto parentReadsSpec)

/-- 'truchmanlaw43.ParentBack', WHERE WHAT IT READS IS OF BULK AT MOST 1048576: true; the input reads as it did. -/
def parentBackUptoRow : OpenClaim := { program := "ytdjbgojdkaipfaa", sum := "56884a0183ba2baa45930637933d95c35256f13c96994071a4bccdf3884126af", func := "truchman/truchmanlaw43.ParentBack", spec := "parentBack", plainKeys := false, apart := false, narrowed := true }
def ParentBackUptoSaid : Prop := parentBackUptoRow.holds Try.pinned (OpenSpec.upto parentBackSpec)

/-- 'truchmanlaw43.ParentKeeps', WHERE WHAT IT READS IS OF BULK AT MOST 1048576: true; the input reads as it did. -/
def parentKeepsUptoRow : OpenClaim := { program := "ytdjbgojdkaipfaa", sum := "56884a0183ba2baa45930637933d95c35256f13c96994071a4bccdf3884126af", func := "truchman/truchmanlaw43.ParentKeeps", spec := "parentKeeps", plainKeys := false, apart := false, narrowed := true }
def ParentKeepsUptoSaid : Prop := parentKeepsUptoRow.holds Try.pinned (OpenSpec.upto parentKeepsSpec)

/-- 'truchmanlaw20.CheadFields', WHERE WHAT IT READS IS OF BULK AT MOST 1048576: true; the input reads as it did. -/
def cheadFieldsUptoRow : OpenClaim := { program := "ytdjbgojdkaipfaa", sum := "56884a0183ba2baa45930637933d95c35256f13c96994071a4bccdf3884126af", func := "truchman/truchmanlaw20.CheadFields", spec := "cheadFields", unfollowed := true, recurses := true, plainKeys := false, apart := false, narrowed := true }
def CheadFieldsUptoSaid : Prop := cheadFieldsUptoRow.holds Try.pinned (OpenSpec.upto cheadFieldsSpec)

/-- 'truchmanlaw20.CheadBack', WHERE WHAT IT READS IS OF BULK AT MOST 1048576: true; the input reads as it did. -/
def cheadBackUptoRow : OpenClaim := { program := "ytdjbgojdkaipfaa", sum := "56884a0183ba2baa45930637933d95c35256f13c96994071a4bccdf3884126af", func := "truchman/truchmanlaw20.CheadBack", spec := "cheadBack", unfollowed := true, recurses := true, plainKeys := false, apart := false, narrowed := true }
def CheadBackUptoSaid : Prop := cheadBackUptoRow.holds Try.pinned (OpenSpec.upto cheadBackSpec)

/-- 'truchmanlaw20.CheadLists', WHERE WHAT IT READS IS OF BULK AT MOST 1048576: true; the input reads as it did. -/
def cheadListsUptoRow : OpenClaim := { program := "ytdjbgojdkaipfaa", sum := "56884a0183ba2baa45930637933d95c35256f13c96994071a4bccdf3884126af", func := "truchman/truchmanlaw20.CheadLists", spec := "cheadLists", unfollowed := true, recurses := true, plainKeys := false, apart := false, narrowed := true }
def CheadListsUptoSaid : Prop := cheadListsUptoRow.holds Try.pinned (OpenSpec.upto cheadListsSpec)

/-- 'truchmanlaw21.CskipDeep', WHERE WHAT IT READS IS OF BULK AT MOST 1048576: true; the input reads as it did. -/
def cskipDeepUptoRow : OpenClaim := { program := "ytdjbgojdkaipfaa", sum := "56884a0183ba2baa45930637933d95c35256f13c96994071a4bccdf3884126af", func := "truchman/truchmanlaw21.CskipDeep", spec := "cskipDeep", unfollowed := true, recurses := true, plainKeys := false, apart := false, narrowed := true }
def CskipDeepUptoSaid : Prop := cskipDeepUptoRow.holds Try.pinned (OpenSpec.upto cskipDeepSpec)

/-- 'truchmanlaw21.CskipPasses', WHERE WHAT IT READS IS OF BULK AT MOST 1048576: true; the input reads as it did. -/
def cskipPassesUptoRow : OpenClaim := { program := "ytdjbgojdkaipfaa", sum := "56884a0183ba2baa45930637933d95c35256f13c96994071a4bccdf3884126af", func := "truchman/truchmanlaw21.CskipPasses", spec := "cskipPasses", unfollowed := true, recurses := true, plainKeys := false, apart := false, narrowed := true }
def CskipPassesUptoSaid : Prop := cskipPassesUptoRow.holds Try.pinned (OpenSpec.upto cskipPassesSpec)

/-- 'truchmanlaw21.CskipWhole', WHERE WHAT IT READS IS OF BULK AT MOST 1048576: true; the input reads as it did. -/
def cskipWholeUptoRow : OpenClaim := { program := "ytdjbgojdkaipfaa", sum := "56884a0183ba2baa45930637933d95c35256f13c96994071a4bccdf3884126af", func := "truchman/truchmanlaw21.CskipWhole", spec := "cskipWhole", unfollowed := true, recurses := true, plainKeys := false, apart := false, narrowed := true }
def CskipWholeUptoSaid : Prop := cskipWholeUptoRow.holds Try.pinned (OpenSpec.upto cskipWholeSpec)

/-- 'truchmanlaw22.CreadStructs', WHERE WHAT IT READS IS OF BULK AT MOST 1048576: true; the input reads as it did. -/
def creadStructsUptoRow : OpenClaim := { program := "ytdjbgojdkaipfaa", sum := "56884a0183ba2baa45930637933d95c35256f13c96994071a4bccdf3884126af", func := "truchman/truchmanlaw22.CreadStructs", spec := "creadStructs", unfollowed := true, recurses := true, plainKeys := false, apart := false, narrowed := true }
def CreadStructsUptoSaid : Prop := creadStructsUptoRow.holds Try.pinned (OpenSpec.upto creadStructsSpec)

/-- 'truchmanlaw22.CreadItems', WHERE WHAT IT READS IS OF BULK AT MOST 1048576: true; the input reads as it did. -/
def creadItemsUptoRow : OpenClaim := { program := "ytdjbgojdkaipfaa", sum := "56884a0183ba2baa45930637933d95c35256f13c96994071a4bccdf3884126af", func := "truchman/truchmanlaw22.CreadItems", spec := "creadItems", unfollowed := true, recurses := true, plainKeys := false, apart := false, narrowed := true }
def CreadItemsUptoSaid : Prop := creadItemsUptoRow.holds Try.pinned (OpenSpec.upto creadItemsSpec)

/-- 'truchmanlaw22.CreadLast', WHERE WHAT IT READS IS OF BULK AT MOST 1048576: true; the input reads as it did. -/
def creadLastUptoRow : OpenClaim := { program := "ytdjbgojdkaipfaa", sum := "56884a0183ba2baa45930637933d95c35256f13c96994071a4bccdf3884126af", func := "truchman/truchmanlaw22.CreadLast", spec := "creadLast", unfollowed := true, recurses := true, plainKeys := false, apart := false, narrowed := true }
def CreadLastUptoSaid : Prop := creadLastUptoRow.holds Try.pinned (OpenSpec.upto creadLastSpec)

end Rows
end Go.Proofs.Ytdjbgojdkaipfaa
