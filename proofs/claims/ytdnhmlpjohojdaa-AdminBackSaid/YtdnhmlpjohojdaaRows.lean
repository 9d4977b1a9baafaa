/-
  No cell of these rows narrows 'for every input' (looked for: loops, veiled, ifaces, maps, wideKeys, modest, calm, conditions, laid).
  DERIVED. THE GIVEN ROWS OF THIS SEAT. 5 by the template 'for every input the law returns true; each argument reads behind the call as it read before'; 0 by the template 'total and deterministic' (their statements: YtdnhmlpjohojdaaTotals.lean).
  GIVEN WITH THE SEED: the statements are not yours to turn. If you find one false, say at which input.
  Laid BY PROGRAM, IN A SANDBOX (cutbox-rows.mjs): the forced cells as the released guide's own fill.sh prints them over the translation 6d15f544d5be0796… (all of the seat's roots in one cut). By AI agents, Wed Nov 11 2026. No macro, syntax, notation, axiom, sorry.
-/
import Derived.Test.YtdnhmlpjohojdaaChecked
import GoSem.Claim
import GoSem.ClaimJoined
import GoSem.ClaimMapViews
import Derived.JoinedTies
import Derived.KernelRfl
namespace Go.Proofs.Ytdnhmlpjohojdaa
/- THE CELL 'sum', in the pinned program and in every row, IS THE sha256 OF THE DUMP (.gsa) THAT YtdnhmlpjohojdaaProg.lean LOADS. Nothing in Lean hashes anything: it is a label: what it is worth is what the hold of that sum in a sandbox is worth. -/
noncomputable def Try.pinned : Pinned := { name := "ytdnhmlpjohojdaa", sum := "6d15f544d5be0796f654022957172f01b0143c27c68851126cfc464e79975863", checked := Try.checked }
namespace Rows
def none {H : Type} : Left H := { results := [], args := [] }

/-- 'concourselaw41.AdminBytes': WHATEVER THE INPUT: true; the input reads as it did. -/
def adminBytesSpec : ChangeSpec := { name := "adminBytes", fn := fun _ => fun
  | [d1, d2] => { results := [.lit (.bool true)], args := [d1, d2] }
  | _ => none }
def adminBytesRow : OpenClaim := { program := "ytdnhmlpjohojdaa", sum := "6d15f544d5be0796f654022957172f01b0143c27c68851126cfc464e79975863", func := "concourse/concourselaw41.AdminBytes", spec := "adminBytes", inPlace := ["internal/abi.NoEscape"], unfollowed := true, recurses := true, apart := false }
def AdminBytesSaid : Prop := adminBytesRow.holds Try.pinned (OpenSpec.ofChange adminBytesSpec)

/-- ITS FALSE NEIGHBOUR: 'it returns false'. Refute it at one input. -/
def adminBytesWrong : ChangeSpec := { name := "adminBytes", fn := fun _ => fun
  | [d1, d2] => { results := [.lit (.bool false)], args := [d1, d2] }
  | _ => none }
def AdminBytesWrongFalsely : Prop := adminBytesRow.holds Try.pinned (OpenSpec.ofChange adminBytesWrong)

/-- 'concourselaw41.AdminBack': WHATEVER THE INPUT: true; the input reads as it did. -/
def adminBackSpec : ChangeSpec := { name := "adminBack", fn := fun _ => fun
  | [d1, d2] => { results := [.lit (.bool true)], args := [d1, d2] }
  | _ => none }
def adminBackRow : OpenClaim := { program := "ytdnhmlpjohojdaa", sum := "6d15f544d5be0796f654022957172f01b0143c27c68851126cfc464e79975863", func := "concourse/concourselaw41.AdminBack", spec := "adminBack", inPlace := ["internal/abi.NoEscape"], unfollowed := true, recurses := true, apart := false }
def AdminBackSaid : Prop := adminBackRow.holds Try.pinned (OpenSpec.ofChange adminBackSpec)

/-- ITS FALSE NEIGHBOUR: 'it returns false'. Refute it at one input. -/
def adminBackWrong : ChangeSpec := { name := "adminBack", fn := fun _ => fun
  | [d1, d2] => { results := [.lit (.bool false)], args := [d1, d2] }
  | _ => none }
def AdminBackWrongFalsely : Prop := adminBackRow.holds Try.pinned (OpenSpec.ofChange adminBackWrong)

/-- 'concourselaw41.AdminDoes': WHATEVER THE INPUT: true; the input reads as it did. -/
def adminDoesSpec : ChangeSpec := { name := "adminDoes", fn := fun _ => fun
  | [d] => { results := [.lit (.bool true)], args := [d] }
  | _ => none }
def adminDoesRow : OpenClaim := { program := "ytdnhmlpjohojdaa", sum := "6d15f544d5be0796f654022957172f01b0143c27c68851126cfc464e79975863", func := "concourse/concourselaw41.AdminDoes", spec := "adminDoes", inPlace := ["internal/abi.NoEscape"], unfollowed := true, recurses := true, apart := false }
def AdminDoesSaid : Prop := adminDoesRow.holds Try.pinned (OpenSpec.ofChange adminDoesSpec)

/-- ITS FALSE NEIGHBOUR: 'it returns false'. Refute it at one input. -/
def adminDoesWrong : ChangeSpec := { name := "adminDoes", fn := fun _ => fun
  | [d] => { results := [.lit (.bool false)], args := [d] }
  | _ => none }
def AdminDoesWrongFalsely : Prop := adminDoesRow.holds Try.pinned (OpenSpec.ofChange adminDoesWrong)

/-- 'concourselaw41.AdminLives': WHATEVER THE INPUT: true; the input reads as it did. -/
def adminLivesSpec : ChangeSpec := { name := "adminLives", fn := fun _ => fun
  | [d] => { results := [.lit (.bool true)], args := [d] }
  | _ => none }
def adminLivesRow : OpenClaim := { program := "ytdnhmlpjohojdaa", sum := "6d15f544d5be0796f654022957172f01b0143c27c68851126cfc464e79975863", func := "concourse/concourselaw41.AdminLives", spec := "adminLives", inPlace := ["internal/abi.NoEscape"], unfollowed := true, recurses := true, apart := false }
def AdminLivesSaid : Prop := adminLivesRow.holds Try.pinned (OpenSpec.ofChange adminLivesSpec)

/-- ITS FALSE NEIGHBOUR: 'it returns false'. Refute it at one input. -/
def adminLivesWrong : ChangeSpec := { name := "adminLives", fn := fun _ => fun
  | [d] => { results := [.lit (.bool false)], args := [d] }
  | _ => none }
def AdminLivesWrongFalsely : Prop := adminLivesRow.holds Try.pinned (OpenSpec.ofChange adminLivesWrong)

/-- 'concourselaw41.AdminNone': WHATEVER THE INPUT: true; the input reads as it did. -/
def adminNoneSpec : ChangeSpec := { name := "adminNone", fn := fun _ => fun
  | [d] => { results := [.lit (.bool true)], args := [d] }
  | _ => none }
def adminNoneRow : OpenClaim := { program := "ytdnhmlpjohojdaa", sum := "6d15f544d5be0796f654022957172f01b0143c27c68851126cfc464e79975863", func := "concourse/concourselaw41.AdminNone", spec := "adminNone", inPlace := ["internal/abi.NoEscape"], unfollowed := true, recurses := true, apart := false }
def AdminNoneSaid : Prop := adminNoneRow.holds Try.pinned (OpenSpec.ofChange adminNoneSpec)

/-- ITS FALSE NEIGHBOUR: 'it returns false'. Refute it at one input. -/
def adminNoneWrong : ChangeSpec := { name := "adminNone", fn := fun _ => fun
  | [d] => { results := [.lit (.bool false)], args := [d] }
  | _ => none }
def AdminNoneWrongFalsely : Prop := adminNoneRow.holds Try.pinned (OpenSpec.ofChange adminNoneWrong)

/- THE SECOND FORM. 'bulk': how many values and letters a reading holds, each counted each time it is reached (what is shared counts as often as it is met; a slice's spare places count too). A statement '..UptoSaid' is the law's where the arguments, and the package variables that the reading takes, are together of bulk at most 1048576: NARROWER than '..Said'. Prove '..Said' where nothing that the law and all that it calls make is longer than what came in: it says more and counts as full. Else prove '..UptoSaid'. A law counts once. -/
mutual
def uptoBulk {H : Type} : DataW H → Nat
  | .lit (.string bytes) => bytes.length + 1
  | .lit _ => 1
  | .nil => 1
  | .ptr d => uptoBulk d + 1
  | .slice elems spare => uptoBulkAll elems + uptoBulkAll spare + 1
  | .agg parts => uptoBulkAll parts + 1
  | .iface _ d => uptoBulk d + 1
  | .map entries => uptoBulkEntries entries + 1
  | .held _ => 1
def uptoBulkAll {H : Type} : List (DataW H) → Nat
  | [] => 0
  | d :: r => uptoBulk d + uptoBulkAll r
def uptoBulkEntries {H : Type} : List (Lit × DataW H) → Nat
  | [] => 0
  | x :: r => uptoBulkEntry x + uptoBulkEntries r
def uptoBulkEntry {H : Type} : Lit × DataW H → Nat
  | (.string bytes, d) => bytes.length + uptoBulk d + 1
  | (_, d) => uptoBulk d + 1
 end
def uptoSmall : (H : Type) → List (DataW H) → Bool := fun _ ds => decide (uptoBulkAll ds ≤ 1048576)
def OpenSpec.upto (s : _root_.Go.ChangeSpec) : _root_.Go.OpenSpec := { _root_.Go.OpenSpec.ofChange s with cond := some uptoSmall }

/-- 'concourselaw41.AdminBytes', WHERE WHAT IT READS IS OF BULK AT MOST 1048576: true; the input reads as it did. -/
def adminBytesUptoRow : OpenClaim := { program := "ytdnhmlpjohojdaa", sum := "6d15f544d5be0796f654022957172f01b0143c27c68851126cfc464e79975863", func := "concourse/concourselaw41.AdminBytes", spec := "adminBytes", inPlace := ["internal/abi.NoEscape"], unfollowed := true, recurses := true, apart := false, narrowed := true }
def AdminBytesUptoSaid : Prop := adminBytesUptoRow.holds Try.pinned (OpenSpec.upto adminBytesSpec)

/-- 'concourselaw41.AdminBack', WHERE WHAT IT READS IS OF BULK AT MOST 1048576: true; the input reads as it did. -/
def adminBackUptoRow : OpenClaim := { program := "ytdnhmlpjohojdaa", sum := "6d15f544d5be0796f654022957172f01b0143c27c68851126cfc464e79975863", func := "concourse/concourselaw41.AdminBack", spec := "adminBack", inPlace := ["internal/abi.NoEscape"], unfollowed := true, recurses := true, apart := false, narrowed := true }
def AdminBackUptoSaid : Prop := adminBackUptoRow.holds Try.pinned (OpenSpec.upto adminBackSpec)

/-- 'concourselaw41.AdminDoes', WHERE WHAT IT READS IS OF BULK AT MOST 1048576: true; the input reads as it did. -/
def adminDoesUptoRow : OpenClaim := { program := "ytdnhmlpjohojdaa", sum := "6d15f544d5be0796f654022957172f01b0143c27c68851126cfc464e79975863", func := "concourse/concourselaw41.AdminDoes", spec := "adminDoes", inPlace := ["internal/abi.NoEscape"], unfollowed := true, recurses := true, apart := false, narrowed := true }
def AdminDoesUptoSaid : Prop := adminDoesUptoRow.holds Try.pinned (OpenSpec.upto adminDoesSpec)

/-- 'concourselaw41.AdminLives', WHERE WHAT IT READS IS OF BULK AT MOST 1048576: true; the input reads as it did. -/
def adminLivesUptoRow : OpenClaim := { program := "ytdnhmlpjohojdaa", sum := "6d15f544d5be0796f654022957172f01b0143c27c68851126cfc464e79975863", func := "concourse/concourselaw41.AdminLives", spec := "adminLives", inPlace := ["internal/abi.NoEscape"], unfollowed := true, recurses := true, apart := false, narrowed := true }
def AdminLivesUptoSaid : Prop := adminLivesUptoRow.holds Try.pinned (OpenSpec.upto adminLivesSpec)

/-- 'concourselaw41.AdminNone', WHERE WHAT IT READS IS OF BULK AT MOST 1048576: true; the input reads as it did. -/
def adminNoneUptoRow : OpenClaim := { program := "ytdnhmlpjohojdaa", sum := "6d15f544d5be0796f654022957172f01b0143c27c68851126cfc464e79975863", func := "concourse/concourselaw41.AdminNone", spec := "adminNone", inPlace := ["internal/abi.NoEscape"], unfollowed := true, recurses := true, apart := false, narrowed := true }
def AdminNoneUptoSaid : Prop := adminNoneUptoRow.holds Try.pinned (OpenSpec.upto adminNoneSpec)

end Rows
end Go.Proofs.Ytdnhmlpjohojdaa
