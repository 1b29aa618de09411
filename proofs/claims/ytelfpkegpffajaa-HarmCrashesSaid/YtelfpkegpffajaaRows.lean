/-
  No cell of these rows narrows 'for every input' (looked for: loops, veiled, ifaces, maps, wideKeys, modest, calm, conditions, laid).
  DERIVED. THE GIVEN ROWS OF THIS SEAT. 4 by the template 'for every input the law returns true; each argument reads behind the call as it read before'; 0 by the template 'total and deterministic' (their statements: YtelfpkegpffajaaTotals.lean).
  GIVEN WITH THE SEED: the statements are not yours to turn. If you find one false, say at which input.
  Laid BY PROGRAM, IN A SANDBOX (cutbox-rows.mjs): the forced cells as the released guide's own fill.sh prints them over the translation 9182a55891f096d4… (all of the seat's roots in one cut). By AI agents, Wed Nov 11 2026. No macro, syntax, notation, axiom, sorry.
-/
import Derived.Test.YtelfpkegpffajaaChecked
import GoSem.Claim
import GoSem.ClaimJoined
import GoSem.ClaimMapViews
import Derived.JoinedTies
import Derived.KernelRfl
namespace Go.Proofs.Ytelfpkegpffajaa
/- THE CELL 'sum', in the pinned program and in every row, IS THE sha256 OF THE DUMP (.gsa) THAT YtelfpkegpffajaaProg.lean LOADS. Nothing in Lean hashes anything: it is a label: what it is worth is what the hold of that sum in a sandbox is worth. -/
noncomputable def Try.pinned : Pinned := { name := "ytelfpkegpffajaa", sum := "9182a55891f096d482509ce288fc611634dc337476be319fccdea9fae3c80470", checked := Try.checked }
namespace Rows
def none {H : Type} : Left H := { results := [], args := [] }

/-- 'thimbleriglaw13.HarmDoes': WHATEVER THE INPUT: true; the input reads as it did. -/
def harmDoesSpec : ChangeSpec := { name := "harmDoes", fn := fun _ => fun
  | [d1, d2, d3, d4] => { results := [.lit (.bool true)], args := [d1, d2, d3, d4] }
  | _ => none }
def harmDoesRow : OpenClaim := { program := "ytelfpkegpffajaa", sum := "9182a55891f096d482509ce288fc611634dc337476be319fccdea9fae3c80470", func := "thimblerig/thimbleriglaw13.HarmDoes", spec := "harmDoes", inPlace := ["slices.overlaps[[]byte]"], unfollowed := true, recurses := true, apart := false }
def HarmDoesSaid : Prop := harmDoesRow.holds Try.pinned (OpenSpec.ofChange harmDoesSpec)

/-- ITS FALSE NEIGHBOUR: 'it returns false'. Refute it at one input. -/
def harmDoesWrong : ChangeSpec := { name := "harmDoes", fn := fun _ => fun
  | [d1, d2, d3, d4] => { results := [.lit (.bool false)], args := [d1, d2, d3, d4] }
  | _ => none }
def HarmDoesWrongFalsely : Prop := harmDoesRow.holds Try.pinned (OpenSpec.ofChange harmDoesWrong)

/-- 'thimbleriglaw13.HarmNames': WHATEVER THE INPUT: true; the input reads as it did. -/
def harmNamesSpec : ChangeSpec := { name := "harmNames", fn := fun _ => fun
  | [] => { results := [.lit (.bool true)], args := [] }
  | _ => none }
def harmNamesRow : OpenClaim := { program := "ytelfpkegpffajaa", sum := "9182a55891f096d482509ce288fc611634dc337476be319fccdea9fae3c80470", func := "thimblerig/thimbleriglaw13.HarmNames", spec := "harmNames", inPlace := ["slices.overlaps[[]byte]"], unfollowed := true, recurses := true, apart := false }
def HarmNamesSaid : Prop := harmNamesRow.holds Try.pinned (OpenSpec.ofChange harmNamesSpec)

/-- ITS FALSE NEIGHBOUR: 'it returns false'. Refute it at one input. -/
def harmNamesWrong : ChangeSpec := { name := "harmNames", fn := fun _ => fun
  | [] => { results := [.lit (.bool false)], args := [] }
  | _ => none }
def HarmNamesWrongFalsely : Prop := harmNamesRow.holds Try.pinned (OpenSpec.ofChange harmNamesWrong)

/-- 'thimbleriglaw13.HarmTwice': WHATEVER THE INPUT: true; the input reads as it did. -/
def harmTwiceSpec : ChangeSpec := { name := "harmTwice", fn := fun _ => fun
  | [d1, d2, d3, d4] => { results := [.lit (.bool true)], args := [d1, d2, d3, d4] }
  | _ => none }
def harmTwiceRow : OpenClaim := { program := "ytelfpkegpffajaa", sum := "9182a55891f096d482509ce288fc611634dc337476be319fccdea9fae3c80470", func := "thimblerig/thimbleriglaw13.HarmTwice", spec := "harmTwice", inPlace := ["slices.overlaps[[]byte]"], unfollowed := true, recurses := true, apart := false }
def HarmTwiceSaid : Prop := harmTwiceRow.holds Try.pinned (OpenSpec.ofChange harmTwiceSpec)

/-- ITS FALSE NEIGHBOUR: 'it returns false'. Refute it at one input. -/
def harmTwiceWrong : ChangeSpec := { name := "harmTwice", fn := fun _ => fun
  | [d1, d2, d3, d4] => { results := [.lit (.bool false)], args := [d1, d2, d3, d4] }
  | _ => none }
def HarmTwiceWrongFalsely : Prop := harmTwiceRow.holds Try.pinned (OpenSpec.ofChange harmTwiceWrong)

/-- 'thimbleriglaw13.HarmCrashes': WHATEVER THE INPUT: true; the input reads as it did. -/
def harmCrashesSpec : ChangeSpec := { name := "harmCrashes", fn := fun _ => fun
  | [d1, d2, d3, d4] => { results := [.lit (.bool true)], args := [d1, d2, d3, d4] }
  | _ => none }
def harmCrashesRow : OpenClaim := { program := "ytelfpkegpffajaa", sum := "9182a55891f096d482509ce288fc611634dc337476be319fccdea9fae3c80470", func := "thimblerig/thimbleriglaw13.HarmCrashes", spec := "harmCrashes", inPlace := ["slices.overlaps[[]byte]"], unfollowed := true, recurses := true, apart := false }
def HarmCrashesSaid : Prop := harmCrashesRow.holds Try.pinned (OpenSpec.ofChange harmCrashesSpec)

/-- ITS FALSE NEIGHBOUR: 'it returns false'. Refute it at one input. -/
def harmCrashesWrong : ChangeSpec := { name := "harmCrashes", fn := fun _ => fun
  | [d1, d2, d3, d4] => { results := [.lit (.bool false)], args := [d1, d2, d3, d4] }
  | _ => none }
def HarmCrashesWrongFalsely : Prop := harmCrashesRow.holds Try.pinned (OpenSpec.ofChange harmCrashesWrong)

/- THE SECOND FORM. 'bulk': how many values and letters a reading holds, each counted each time it is reached (what is shared counts as often as it is met; a slice's spare places count too). A statement '..UptoSaid' is the law's where the arguments, and the package variables that the reading takes, are together of bulk at most 1048576: NARROWER than '..Said'. Prove '..Said' where nothing that the law and all that it calls make is longer than what came in: it says more and counts as full. Else prove '..UptoSaid'. A law counts once. -/
mutual
def uptoBulk {H : Type} : DataW H → Nat
  | .lit (.string bytes) => bytes.length + 1
  | .lit _ => 1
  | .nil => 1
  | .ptr d => uptoBulk d + 1
  | .slice elems spare => uptoBulkAll elems + uptoBulkAll spare + 1
  | .agg parts => uptoBulkAll parts + 1
  | .iface _ d => uptoBulk d + 1
  | .map entries => uptoBulkEntries entries + 1
  | .held _ => 1
def uptoBulkAll {H : Type} : List (DataW H) → Nat
  | [] => 0
  | d :: r => uptoBulk d + uptoBulkAll r
def uptoBulkEntries {H : Type} : List (Lit × DataW H) → Nat
  | [] => 0
  | x :: r => uptoBulkEntry x + uptoBulkEntries r
def uptoBulkEntry {H : Type} : Lit × DataW H → Nat
  | (.string bytes, d) => bytes.length + uptoBulk d + 1
  | (_, d) => uptoBulk d + 1
 end
def uptoSmall : (H : Type) → List (DataW H) → Bool := fun _ ds => decide (uptoBulkAll ds ≤ 1048576)
def OpenSpec.upto (s : _root_.Go.ChangeSpec) : _root_.Go.OpenSpec := { _root_.Go.OpenSpec.ofChange s with cond := some uptoSmall }

/-- 'thimbleriglaw13.HarmDoes', WHERE WHAT IT READS IS OF BULK AT MOST 1048576: true; the input reads as it did. -/
def harmDoesUptoRow : OpenClaim := { program := "ytelfpkegpffajaa", sum := "9182a55891f096d482509ce288fc611634dc337476be319fccdea9fae3c80470", func := "thimblerig/thimbleriglaw13.HarmDoes", spec := "harmDoes", inPlace := ["slices.overlaps[[]byte]"], unfollowed := true, recurses := true, apart := false, narrowed := true }
def HarmDoesUptoSaid : Prop := harmDoesUptoRow.holds Try.pinned (OpenSpec.upto harmDoesSpec)

/-- 'thimbleriglaw13.HarmNames', WHERE WHAT IT READS IS OF BULK AT MOST 1048576: true; the input reads as it did. -/
def harmNamesUptoRow : OpenClaim := { program := "ytelfpkegpffajaa", sum := "9182a55891f096d482509ce288fc611634dc337476be319fccdea9fae3c80470", func := "thimblerig/thimbleriglaw13.HarmNames", spec := "harmNames", inPlace := ["slices.overlaps[[]byte]"], unfollowed := true, recurses := true, apart := false, narrowed := true }
def HarmNamesUptoSaid : Prop := harmNamesUptoRow.holds Try.pinned (OpenSpec.upto harmNamesSpec)

/-- 'thimbleriglaw13.HarmTwice', WHERE WHAT IT READS IS OF BULK AT MOST 1048576: true; the input reads as it did. -/
def harmTwiceUptoRow : OpenClaim := { program := "ytelfpkegpffajaa", sum := "9182a55891f096d482509ce288fc611634dc337476be319fccdea9fae3c80470", func := "thimblerig/thimbleriglaw13.HarmTwice", spec := "harmTwice", inPlace := ["slices.overlaps[[]byte]"], unfollowed := true, recurses := true, apart := false, narrowed := true }
def HarmTwiceUptoSaid : Prop := harmTwiceUptoRow.holds Try.pinned (OpenSpec.upto harmTwiceSpec)

/-- 'thimbleriglaw13.HarmCrashes', WHERE WHAT IT READS IS OF BULK AT MOST 1048576: true; the input reads as it did. -/
def harmCrashesUptoRow : OpenClaim := { program := "ytelfpkegpffajaa", sum := "9182a55891f096d482509ce288fc611634dc337476be319fccdea9fae3c80470", func := "thimblerig/thimbleriglaw13.HarmCrashes", spec := "harmCrashes", inPlace := ["slices.overlaps[[]byte]"], unfollowed := true, recurses := true, apart := false, narrowed := true }
def HarmCrashesUptoSaid : Prop := harmCrashesUptoRow.holds Try.pinned (OpenSpec.upto harmCrashesSpec)

end Rows
end Go.Proofs.Ytelfpkegpffajaa
