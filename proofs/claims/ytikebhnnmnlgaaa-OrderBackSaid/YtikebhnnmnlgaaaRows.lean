/-
  No cell of these rows narrows 'for every input' (looked for: loops, veiled, ifaces, maps, wideKeys, modest, calm, conditions, laid).
  DERIVED. THE GIVEN ROWS OF THIS SEAT. 11 by the template 'for every input the law returns true; each argument reads behind the call as it read before'; 0 by the template 'total and deterministic' (their statements: YtikebhnnmnlgaaaTotals.lean).
  GIVEN WITH THE SEED: the statements are not yours to turn. If you find one false, say at which input.
  Laid BY PROGRAM, IN A SANDBOX (cutbox-rows.mjs): the forced cells as the released guide's own fill.sh prints them over the translation 5439848da49986b3… (all of the seat's roots in one cut). By AI agents, Wed Nov 11 2026. No macro, syntax, notation, axiom, sorry.
-/
import Derived.Test.YtikebhnnmnlgaaaChecked
import GoSem.Claim
import GoSem.ClaimJoined
import GoSem.ClaimMapViews
import Derived.JoinedTies
import Derived.KernelRfl
namespace Go.Proofs.Ytikebhnnmnlgaaa
/- THE CELL 'sum', in the pinned program and in every row, IS THE sha256 OF THE DUMP (.gsa) THAT YtikebhnnmnlgaaaProg.lean LOADS. Nothing in Lean hashes anything: it is a label: what it is worth is what the hold of that sum in a sandbox is worth. -/
noncomputable def Try.pinned : Pinned := { name := "ytikebhnnmnlgaaa", sum := "5439848da49986b317a62db8e38b6259af2b91af1dbc10e3f6bde9d68a11d876", checked := Try.checked }
namespace Rows
def none {H : Type} : Left H := { results := [], args := [] }

/-- 'thimbleriglaw21.OrderPuts': WHATEVER THE INPUT: true; the input reads as it did. -/
def orderPutsSpec : ChangeSpec := { name := "orderPuts", fn := fun _ => fun
  | [d1, d2] => { results := [.lit (.bool true)], args := [d1, d2] }
  | _ => none }
def orderPutsRow : OpenClaim := { program := "ytikebhnnmnlgaaa", sum := "5439848da49986b317a62db8e38b6259af2b91af1dbc10e3f6bde9d68a11d876", func := "thimblerig/thimbleriglaw21.OrderPuts", spec := "orderPuts", unfollowed := true, recurses := true, apart := false }
def OrderPutsSaid : Prop := orderPutsRow.holds Try.pinned (OpenSpec.ofChange orderPutsSpec)

/-- ITS FALSE NEIGHBOUR: 'it returns false'. Refute it at one input. -/
def orderPutsWrong : ChangeSpec := { name := "orderPuts", fn := fun _ => fun
  | [d1, d2] => { results := [.lit (.bool false)], args := [d1, d2] }
  | _ => none }
def OrderPutsWrongFalsely : Prop := orderPutsRow.holds Try.pinned (OpenSpec.ofChange orderPutsWrong)

/-- 'thimbleriglaw12.DevReplays': WHATEVER THE INPUT: true; the input reads as it did. -/
def devReplaysSpec : ChangeSpec := { name := "devReplays", fn := fun _ => fun
  | [d1, d2, d3] => { results := [.lit (.bool true)], args := [d1, d2, d3] }
  | _ => none }
def devReplaysRow : OpenClaim := { program := "ytikebhnnmnlgaaa", sum := "5439848da49986b317a62db8e38b6259af2b91af1dbc10e3f6bde9d68a11d876", func := "thimblerig/thimbleriglaw12.DevReplays", spec := "devReplays", unfollowed := true, recurses := true, apart := false }
def DevReplaysSaid : Prop := devReplaysRow.holds Try.pinned (OpenSpec.ofChange devReplaysSpec)

/-- ITS FALSE NEIGHBOUR: 'it returns false'. Refute it at one input. -/
def devReplaysWrong : ChangeSpec := { name := "devReplays", fn := fun _ => fun
  | [d1, d2, d3] => { results := [.lit (.bool false)], args := [d1, d2, d3] }
  | _ => none }
def DevReplaysWrongFalsely : Prop := devReplaysRow.holds Try.pinned (OpenSpec.ofChange devReplaysWrong)

/-- 'thimbleriglaw12.DevTells': WHATEVER THE INPUT: true; the input reads as it did. -/
def devTellsSpec : ChangeSpec := { name := "devTells", fn := fun _ => fun
  | [d1, d2, d3] => { results := [.lit (.bool true)], args := [d1, d2, d3] }
  | _ => none }
def devTellsRow : OpenClaim := { program := "ytikebhnnmnlgaaa", sum := "5439848da49986b317a62db8e38b6259af2b91af1dbc10e3f6bde9d68a11d876", func := "thimblerig/thimbleriglaw12.DevTells", spec := "devTells", unfollowed := true, recurses := true, apart := false }
def DevTellsSaid : Prop := devTellsRow.holds Try.pinned (OpenSpec.ofChange devTellsSpec)

/-- ITS FALSE NEIGHBOUR: 'it returns false'. Refute it at one input. -/
def devTellsWrong : ChangeSpec := { name := "devTells", fn := fun _ => fun
  | [d1, d2, d3] => { results := [.lit (.bool false)], args := [d1, d2, d3] }
  | _ => none }
def DevTellsWrongFalsely : Prop := devTellsRow.holds Try.pinned (OpenSpec.ofChange devTellsWrong)

/-- 'thimbleriglaw21.OrderTells': WHATEVER THE INPUT: true; the input reads as it did. -/
def orderTellsSpec : ChangeSpec := { name := "orderTells", fn := fun _ => fun
  | [d1, d2] => { results := [.lit (.bool true)], args := [d1, d2] }
  | _ => none }
def orderTellsRow : OpenClaim := { program := "ytikebhnnmnlgaaa", sum := "5439848da49986b317a62db8e38b6259af2b91af1dbc10e3f6bde9d68a11d876", func := "thimblerig/thimbleriglaw21.OrderTells", spec := "orderTells", unfollowed := true, recurses := true, apart := false }
def OrderTellsSaid : Prop := orderTellsRow.holds Try.pinned (OpenSpec.ofChange orderTellsSpec)

/-- ITS FALSE NEIGHBOUR: 'it returns false'. Refute it at one input. -/
def orderTellsWrong : ChangeSpec := { name := "orderTells", fn := fun _ => fun
  | [d1, d2] => { results := [.lit (.bool false)], args := [d1, d2] }
  | _ => none }
def OrderTellsWrongFalsely : Prop := orderTellsRow.holds Try.pinned (OpenSpec.ofChange orderTellsWrong)

/-- 'thimbleriglaw12.DevDoes': WHATEVER THE INPUT: true; the input reads as it did. -/
def devDoesSpec : ChangeSpec := { name := "devDoes", fn := fun _ => fun
  | [d1, d2, d3, d4, d5] => { results := [.lit (.bool true)], args := [d1, d2, d3, d4, d5] }
  | _ => none }
def devDoesRow : OpenClaim := { program := "ytikebhnnmnlgaaa", sum := "5439848da49986b317a62db8e38b6259af2b91af1dbc10e3f6bde9d68a11d876", func := "thimblerig/thimbleriglaw12.DevDoes", spec := "devDoes", unfollowed := true, recurses := true, apart := false }
def DevDoesSaid : Prop := devDoesRow.holds Try.pinned (OpenSpec.ofChange devDoesSpec)

/-- ITS FALSE NEIGHBOUR: 'it returns false'. Refute it at one input. -/
def devDoesWrong : ChangeSpec := { name := "devDoes", fn := fun _ => fun
  | [d1, d2, d3, d4, d5] => { results := [.lit (.bool false)], args := [d1, d2, d3, d4, d5] }
  | _ => none }
def DevDoesWrongFalsely : Prop := devDoesRow.holds Try.pinned (OpenSpec.ofChange devDoesWrong)

/-- 'thimbleriglaw12.DevBack': WHATEVER THE INPUT: true; the input reads as it did. -/
def devBackSpec : ChangeSpec := { name := "devBack", fn := fun _ => fun
  | [d1, d2, d3, d4, d5, d6, d7] => { results := [.lit (.bool true)], args := [d1, d2, d3, d4, d5, d6, d7] }
  | _ => none }
def devBackRow : OpenClaim := { program := "ytikebhnnmnlgaaa", sum := "5439848da49986b317a62db8e38b6259af2b91af1dbc10e3f6bde9d68a11d876", func := "thimblerig/thimbleriglaw12.DevBack", spec := "devBack", unfollowed := true, recurses := true, apart := false }
def DevBackSaid : Prop := devBackRow.holds Try.pinned (OpenSpec.ofChange devBackSpec)

/-- ITS FALSE NEIGHBOUR: 'it returns false'. Refute it at one input. -/
def devBackWrong : ChangeSpec := { name := "devBack", fn := fun _ => fun
  | [d1, d2, d3, d4, d5, d6, d7] => { results := [.lit (.bool false)], args := [d1, d2, d3, d4, d5, d6, d7] }
  | _ => none }
def DevBackWrongFalsely : Prop := devBackRow.holds Try.pinned (OpenSpec.ofChange devBackWrong)

/-- 'thimbleriglaw21.OrderOnce': WHATEVER THE INPUT: true; the input reads as it did. -/
def orderOnceSpec : ChangeSpec := { name := "orderOnce", fn := fun _ => fun
  | [d1, d2] => { results := [.lit (.bool true)], args := [d1, d2] }
  | _ => none }
def orderOnceRow : OpenClaim := { program := "ytikebhnnmnlgaaa", sum := "5439848da49986b317a62db8e38b6259af2b91af1dbc10e3f6bde9d68a11d876", func := "thimblerig/thimbleriglaw21.OrderOnce", spec := "orderOnce", unfollowed := true, recurses := true, apart := false }
def OrderOnceSaid : Prop := orderOnceRow.holds Try.pinned (OpenSpec.ofChange orderOnceSpec)

/-- ITS FALSE NEIGHBOUR: 'it returns false'. Refute it at one input. -/
def orderOnceWrong : ChangeSpec := { name := "orderOnce", fn := fun _ => fun
  | [d1, d2] => { results := [.lit (.bool false)], args := [d1, d2] }
  | _ => none }
def OrderOnceWrongFalsely : Prop := orderOnceRow.holds Try.pinned (OpenSpec.ofChange orderOnceWrong)

/-- 'thimbleriglaw12.DevNames': WHATEVER THE INPUT: true; the input reads as it did. -/
def devNamesSpec : ChangeSpec := { name := "devNames", fn := fun _ => fun
  | [] => { results := [.lit (.bool true)], args := [] }
  | _ => none }
def devNamesRow : OpenClaim := { program := "ytikebhnnmnlgaaa", sum := "5439848da49986b317a62db8e38b6259af2b91af1dbc10e3f6bde9d68a11d876", func := "thimblerig/thimbleriglaw12.DevNames", spec := "devNames", unfollowed := true, recurses := true, apart := false }
def DevNamesSaid : Prop := devNamesRow.holds Try.pinned (OpenSpec.ofChange devNamesSpec)

/-- ITS FALSE NEIGHBOUR: 'it returns false'. Refute it at one input. -/
def devNamesWrong : ChangeSpec := { name := "devNames", fn := fun _ => fun
  | [] => { results := [.lit (.bool false)], args := [] }
  | _ => none }
def DevNamesWrongFalsely : Prop := devNamesRow.holds Try.pinned (OpenSpec.ofChange devNamesWrong)

/-- 'thimbleriglaw12.DevSeen': WHATEVER THE INPUT: true; the input reads as it did. -/
def devSeenSpec : ChangeSpec := { name := "devSeen", fn := fun _ => fun
  | [d1, d2, d3, d4, d5] => { results := [.lit (.bool true)], args := [d1, d2, d3, d4, d5] }
  | _ => none }
def devSeenRow : OpenClaim := { program := "ytikebhnnmnlgaaa", sum := "5439848da49986b317a62db8e38b6259af2b91af1dbc10e3f6bde9d68a11d876", func := "thimblerig/thimbleriglaw12.DevSeen", spec := "devSeen", unfollowed := true, recurses := true, apart := false }
def DevSeenSaid : Prop := devSeenRow.holds Try.pinned (OpenSpec.ofChange devSeenSpec)

/-- ITS FALSE NEIGHBOUR: 'it returns false'. Refute it at one input. -/
def devSeenWrong : ChangeSpec := { name := "devSeen", fn := fun _ => fun
  | [d1, d2, d3, d4, d5] => { results := [.lit (.bool false)], args := [d1, d2, d3, d4, d5] }
  | _ => none }
def DevSeenWrongFalsely : Prop := devSeenRow.holds Try.pinned (OpenSpec.ofChange devSeenWrong)

/-- 'thimbleriglaw21.OrderNames': WHATEVER THE INPUT: true; the input reads as it did. -/
def orderNamesSpec : ChangeSpec := { name := "orderNames", fn := fun _ => fun
  | [] => { results := [.lit (.bool true)], args := [] }
  | _ => none }
def orderNamesRow : OpenClaim := { program := "ytikebhnnmnlgaaa", sum := "5439848da49986b317a62db8e38b6259af2b91af1dbc10e3f6bde9d68a11d876", func := "thimblerig/thimbleriglaw21.OrderNames", spec := "orderNames", unfollowed := true, recurses := true, apart := false }
def OrderNamesSaid : Prop := orderNamesRow.holds Try.pinned (OpenSpec.ofChange orderNamesSpec)

/-- ITS FALSE NEIGHBOUR: 'it returns false'. Refute it at one input. -/
def orderNamesWrong : ChangeSpec := { name := "orderNames", fn := fun _ => fun
  | [] => { results := [.lit (.bool false)], args := [] }
  | _ => none }
def OrderNamesWrongFalsely : Prop := orderNamesRow.holds Try.pinned (OpenSpec.ofChange orderNamesWrong)

/-- 'thimbleriglaw21.OrderBack': WHATEVER THE INPUT: true; the input reads as it did. -/
def orderBackSpec : ChangeSpec := { name := "orderBack", fn := fun _ => fun
  | [d1, d2, d3] => { results := [.lit (.bool true)], args := [d1, d2, d3] }
  | _ => none }
def orderBackRow : OpenClaim := { program := "ytikebhnnmnlgaaa", sum := "5439848da49986b317a62db8e38b6259af2b91af1dbc10e3f6bde9d68a11d876", func := "thimblerig/thimbleriglaw21.OrderBack", spec := "orderBack", unfollowed := true, recurses := true, apart := false }
def OrderBackSaid : Prop := orderBackRow.holds Try.pinned (OpenSpec.ofChange orderBackSpec)

/-- ITS FALSE NEIGHBOUR: 'it returns false'. Refute it at one input. -/
def orderBackWrong : ChangeSpec := { name := "orderBack", fn := fun _ => fun
  | [d1, d2, d3] => { results := [.lit (.bool false)], args := [d1, d2, d3] }
  | _ => none }
def OrderBackWrongFalsely : Prop := orderBackRow.holds Try.pinned (OpenSpec.ofChange orderBackWrong)

/- THE SECOND FORM. 'bulk': how many values and letters a reading holds, each counted each time it is reached (what is shared counts as often as it is met; a slice's spare places count too). A statement '..UptoSaid' is the law's where the arguments, and the package variables that the reading takes, are together of bulk at most 1048576: NARROWER than '..Said'. Prove '..Said' where nothing that the law and all that it calls make is longer than what came in: it says more and counts as full. Else prove '..UptoSaid'. A law counts once. -/
mutual
def uptoBulk {H : Type} : DataW H → Nat
  | .lit (.string bytes) => bytes.length + 1
  | .lit _ => 1
  | .nil => 1
  | .ptr d => uptoBulk d + 1
  | .slice elems spare => uptoBulkAll elems + uptoBulkAll spare + 1
  | .agg parts => uptoBulkAll parts + 1
  | .iface _ d => uptoBulk d + 1
  | .map entries => uptoBulkEntries entries + 1
  | .held _ => 1
def uptoBulkAll {H : Type} : List (DataW H) → Nat
  | [] => 0
  | d :: r => uptoBulk d + uptoBulkAll r
def uptoBulkEntries {H : Type} : List (Lit × DataW H) → Nat
  | [] => 0
  | x :: r => uptoBulkEntry x + uptoBulkEntries r
def uptoBulkEntry {H : Type} : Lit × DataW H → Nat
  | (.string bytes, d) => bytes.length + uptoBulk d + 1
  | (_, d) => uptoBulk d + 1
 end
def uptoSmall : (H : Type) → List (DataW H) → Bool := fun _ ds => decide (uptoBulkAll ds ≤ 1048576)
def OpenSpec.upto (s : _root_.Go.ChangeSpec) : _root_.Go.OpenSpec := { _root_.Go.OpenSpec.ofChange s with cond := some uptoSmall }

/-- 'thimbleriglaw21.OrderPuts', WHERE WHAT IT READS IS OF BULK AT MOST 1048576: true; the input reads as it did. -/
def orderPutsUptoRow : OpenClaim := { program := "ytikebhnnmnlgaaa", sum := "5439848da49986b317a62db8e38b6259af2b91af1dbc10e3f6bde9d68a11d876", func := "thimblerig/thimbleriglaw21.OrderPuts", spec := "orderPuts", unfollowed := true, recurses := true, apart := false, narrowed := true }
def OrderPutsUptoSaid : Prop := orderPutsUptoRow.holds Try.pinned (OpenSpec.upto orderPutsSpec)

/-- 'thimbleriglaw12.DevReplays', WHERE WHAT IT READS IS OF BULK AT MOST 1048576: true; the input reads as it did. -/
def devReplaysUptoRow : OpenClaim := { program := "ytikebhnnmnlgaaa", sum := "5439848da49986b317a62db8e38b6259af2b91af1dbc10e3f6bde9d68a11d876", func := "thimblerig/thimbleriglaw12.DevReplays", spec := "devReplays", unfollowed := true, recurses := true, apart := false, narrowed := true }
def DevReplaysUptoSaid : Prop := devReplaysUptoRow.holds Try.pinned (OpenSpec.upto devReplaysSpec)

/-- 'thimbleriglaw12.DevTells', WHERE WHAT IT READS IS OF BULK AT MOST 1048576: true; the input reads as it did. -/
def devTellsUptoRow : OpenClaim := { program := "ytikebhnnmnlgaaa", sum := "5439848da49986b317a62db8e38b6259af2b91af1dbc10e3f6bde9d68a11d876", func := "thimblerig/thimbleriglaw12.DevTells", spec := "devTells", unfollowed := true, recurses := true, apart := false, narrowed := true }
def DevTellsUptoSaid : Prop := devTellsUptoRow.holds Try.pinned (OpenSpec.upto devTellsSpec)

/-- 'thimbleriglaw21.OrderTells', WHERE WHAT IT READS IS OF BULK AT MOST 1048576: true; the input reads as it did. -/
def orderTellsUptoRow : OpenClaim := { program := "ytikebhnnmnlgaaa", sum := "5439848da49986b317a62db8e38b6259af2b91af1dbc10e3f6bde9d68a11d876", func := "thimblerig/thimbleriglaw21.OrderTells", spec := "orderTells", unfollowed := true, recurses := true, apart := false, narrowed := true }
def OrderTellsUptoSaid : Prop := orderTellsUptoRow.holds Try.pinned (OpenSpec.upto orderTellsSpec)

/-- 'thimbleriglaw12.DevDoes', WHERE WHAT IT READS IS OF BULK AT MOST 1048576: true; the input reads as it did. -/
def devDoesUptoRow : OpenClaim := { program := "ytikebhnnmnlgaaa", sum := "5439848da49986b317a62db8e38b6259af2b91af1dbc10e3f6bde9d68a11d876", func := "thimblerig/thimbleriglaw12.DevDoes", spec := "devDoes", unfollowed := true, recurses := true, apart := false, narrowed := true }
def DevDoesUptoSaid : Prop := devDoesUptoRow.holds Try.pinned (OpenSpec.upto devDoesSpec)

/-- 'thimbleriglaw12.DevBack', WHERE WHAT IT READS IS OF BULK AT MOST 1048576: true; the input reads as it did. -/
def devBackUptoRow : OpenClaim := { program := "ytikebhnnmnlgaaa", sum := "5439848da49986b317a62db8e38b6259af2b91af1dbc10e3f6bde9d68a11d876", func := "thimblerig/thimbleriglaw12.DevBack", spec := "devBack", unfollowed := true, recurses := true, apart := false, narrowed := true }
def DevBackUptoSaid : Prop := devBackUptoRow.holds Try.pinned (OpenSpec.upto devBackSpec)

/-- 'thimbleriglaw21.OrderOnce', WHERE WHAT IT READS IS OF BULK AT MOST 1048576: true; the input reads as it did. -/
def orderOnceUptoRow : OpenClaim := { program := "ytikebhnnmnlgaaa", sum := "5439848da49986b317a62db8e38b6259af2b91af1dbc10e3f6bde9d68a11d876", func := "thimblerig/thimbleriglaw21.OrderOnce", spec := "orderOnce", unfollowed := true, recurses := true, apart := false, narrowed := true }
def OrderOnceUptoSaid : Prop := orderOnceUptoRow.holds Try.pinned (OpenSpec.upto orderOnceSpec)

/-- 'thimbleriglaw12.DevNames', WHERE WHAT IT READS IS OF BULK AT MOST 1048576: true; the input reads as it did. -/
def devNamesUptoRow : OpenClaim := { program := "ytikebhnnmnlgaaa", sum := "5439848da49986b317a62db8e38b6259af2b91af1dbc10e3f6bde9d68a11d876", func := "thimblerig/thimbleriglaw12.DevNames", spec := "devNames", unfollowed := true, recurses := true, apart := false, narrowed := true }
def DevNamesUptoSaid : Prop := devNamesUptoRow.holds Try.pinned (OpenSpec.upto devNamesSpec)

/-- 'thimbleriglaw12.DevSeen', WHERE WHAT IT READS IS OF BULK AT MOST 1048576: true; the input reads as it did. -/
def devSeenUptoRow : OpenClaim := { program := "ytikebhnnmnlgaaa", sum := "5439848da49986b317a62db8e38b6259af2b91af1dbc10e3f6bde9d68a11d876", func := "thimblerig/thimbleriglaw12.DevSeen", spec := "devSeen", unfollowed := true, recurses := true, apart := false, narrowed := true }
def DevSeenUptoSaid : Prop := devSeenUptoRow.holds Try.pinned (OpenSpec.upto devSeenSpec)

/-- 'thimbleriglaw21.OrderNames', WHERE WHAT IT READS IS OF BULK AT MOST 1048576: true; the input reads as it did. -/
def orderNamesUptoRow : OpenClaim := { program := "ytikebhnnmnlgaaa", sum := "5439848da49986b317a62db8e38b6259af2b91af1dbc10e3f6bde9d68a11d876", func := "thimblerig/thimbleriglaw21.OrderNames", spec := "orderNames", unfollowed := true, recurses := true, apart := false, narrowed := true }
def OrderNamesUptoSaid : Prop := orderNamesUptoRow.holds Try.pinned (OpenSpec.upto orderNamesSpec)

/-- 'thimbleriglaw21.OrderBack', WHERE WHAT IT READS IS OF BULK AT MOST 1048576: true; the input reads as it did. -/
def orderBackUptoRow : OpenClaim := { program := "ytikebhnnmnlgaaa", sum := "5439848da49986b317a62db8e38b6259af2b91af1dbc10e3f6bde9d68a11d876", func := "thimblerig/thimbleriglaw21.OrderBack", spec := "orderBack", unfollowed := true, recurses := true, apart := false, narrowed := true }
def OrderBackUptoSaid : Prop := orderBackUptoRow.holds Try.pinned (OpenSpec.upto orderBackSpec)

end Rows
end Go.Proofs.Ytikebhnnmnlgaaa
