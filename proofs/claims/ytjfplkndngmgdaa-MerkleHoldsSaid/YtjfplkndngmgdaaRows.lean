/-
  No cell of these rows narrows 'for every input' (looked for: loops, veiled, ifaces, maps, wideKeys, modest, calm, conditions, laid).
  DERIVED. THE GIVEN ROWS OF THIS SEAT. 10 by the template 'for every input the law returns true; each argument reads behind the call as it read before'; 0 by the template 'total and deterministic' (their statements: YtjfplkndngmgdaaTotals.lean).
  GIVEN WITH THE SEED: the statements are not yours to turn. If you find one false, say at which input.
  Laid BY PROGRAM, IN A SANDBOX (cutbox-rows.mjs): the forced cells as the released guide's own fill.sh prints them over the translation 4933a8026b2895be… (all of the seat's roots in one cut). By AI agents, Wed Nov 11 2026. No macro, syntax, notation, axiom, sorry.
-/
import Derived.Test.YtjfplkndngmgdaaChecked
import GoSem.Claim
import GoSem.ClaimJoined
import GoSem.ClaimMapViews
import Derived.JoinedTies
import Derived.KernelRfl
namespace Go.Proofs.Ytjfplkndngmgdaa
/- THE CELL 'sum', in the pinned program and in every row, IS THE sha256 OF THE DUMP (.gsa) THAT YtjfplkndngmgdaaProg.lean LOADS. Nothing in Lean hashes anything: it is a label: what it is worth is what the hold of that sum in a sandbox is worth. -/
noncomputable def Try.pinned : Pinned := { name := "ytjfplkndngmgdaa", sum := "4933a8026b2895bed47adf0ab68699ba41523c877291e638f926021e74a7259c", checked := Try.checked }
namespace Rows
def none {H : Type} : Left H := { results := [], args := [] }

/-- 'cachetlaw04.MerkleSteps': WHATEVER THE INPUT: true; the input reads as it did. -/
def merkleStepsSpec : ChangeSpec := { name := "merkleSteps", fn := fun _ => fun
  | [d1, d2] => { results := [.lit (.bool true)], args := [d1, d2] }
  | _ => none }
def merkleStepsRow : OpenClaim := { program := "ytjfplkndngmgdaa", sum := "4933a8026b2895bed47adf0ab68699ba41523c877291e638f926021e74a7259c", func := "cachet/cachetlaw04.MerkleSteps", spec := "merkleSteps", unfollowed := true, recurses := true, apart := false }
def MerkleStepsSaid : Prop := merkleStepsRow.holds Try.pinned (OpenSpec.ofChange merkleStepsSpec)

/-- ITS FALSE NEIGHBOUR: 'it returns false'. Refute it at one input. -/
def merkleStepsWrong : ChangeSpec := { name := "merkleSteps", fn := fun _ => fun
  | [d1, d2] => { results := [.lit (.bool false)], args := [d1, d2] }
  | _ => none }
def MerkleStepsWrongFalsely : Prop := merkleStepsRow.holds Try.pinned (OpenSpec.ofChange merkleStepsWrong)

/-- 'cachetlaw04.MerkleLengths': WHATEVER THE INPUT: true; the input reads as it did. -/
def merkleLengthsSpec : ChangeSpec := { name := "merkleLengths", fn := fun _ => fun
  | [] => { results := [.lit (.bool true)], args := [] }
  | _ => none }
def merkleLengthsRow : OpenClaim := { program := "ytjfplkndngmgdaa", sum := "4933a8026b2895bed47adf0ab68699ba41523c877291e638f926021e74a7259c", func := "cachet/cachetlaw04.MerkleLengths", spec := "merkleLengths", unfollowed := true, recurses := true, apart := false }
def MerkleLengthsSaid : Prop := merkleLengthsRow.holds Try.pinned (OpenSpec.ofChange merkleLengthsSpec)

/-- ITS FALSE NEIGHBOUR: 'it returns false'. Refute it at one input. -/
def merkleLengthsWrong : ChangeSpec := { name := "merkleLengths", fn := fun _ => fun
  | [] => { results := [.lit (.bool false)], args := [] }
  | _ => none }
def MerkleLengthsWrongFalsely : Prop := merkleLengthsRow.holds Try.pinned (OpenSpec.ofChange merkleLengthsWrong)

/-- 'cachetlaw04.MerkleHolds': WHATEVER THE INPUT: true; the input reads as it did. -/
def merkleHoldsSpec : ChangeSpec := { name := "merkleHolds", fn := fun _ => fun
  | [d] => { results := [.lit (.bool true)], args := [d] }
  | _ => none }
def merkleHoldsRow : OpenClaim := { program := "ytjfplkndngmgdaa", sum := "4933a8026b2895bed47adf0ab68699ba41523c877291e638f926021e74a7259c", func := "cachet/cachetlaw04.MerkleHolds", spec := "merkleHolds", unfollowed := true, recurses := true, apart := false }
def MerkleHoldsSaid : Prop := merkleHoldsRow.holds Try.pinned (OpenSpec.ofChange merkleHoldsSpec)

/-- ITS FALSE NEIGHBOUR: 'it returns false'. Refute it at one input. -/
def merkleHoldsWrong : ChangeSpec := { name := "merkleHolds", fn := fun _ => fun
  | [d] => { results := [.lit (.bool false)], args := [d] }
  | _ => none }
def MerkleHoldsWrongFalsely : Prop := merkleHoldsRow.holds Try.pinned (OpenSpec.ofChange merkleHoldsWrong)

/-- 'cachetlaw04.MerklePaths': WHATEVER THE INPUT: true; the input reads as it did. -/
def merklePathsSpec : ChangeSpec := { name := "merklePaths", fn := fun _ => fun
  | [d1, d2] => { results := [.lit (.bool true)], args := [d1, d2] }
  | _ => none }
def merklePathsRow : OpenClaim := { program := "ytjfplkndngmgdaa", sum := "4933a8026b2895bed47adf0ab68699ba41523c877291e638f926021e74a7259c", func := "cachet/cachetlaw04.MerklePaths", spec := "merklePaths", unfollowed := true, recurses := true, apart := false }
def MerklePathsSaid : Prop := merklePathsRow.holds Try.pinned (OpenSpec.ofChange merklePathsSpec)

/-- ITS FALSE NEIGHBOUR: 'it returns false'. Refute it at one input. -/
def merklePathsWrong : ChangeSpec := { name := "merklePaths", fn := fun _ => fun
  | [d1, d2] => { results := [.lit (.bool false)], args := [d1, d2] }
  | _ => none }
def MerklePathsWrongFalsely : Prop := merklePathsRow.holds Try.pinned (OpenSpec.ofChange merklePathsWrong)

/-- 'cachetlaw04.MerkleUps': WHATEVER THE INPUT: true; the input reads as it did. -/
def merkleUpsSpec : ChangeSpec := { name := "merkleUps", fn := fun _ => fun
  | [d1, d2, d3, d4, d5] => { results := [.lit (.bool true)], args := [d1, d2, d3, d4, d5] }
  | _ => none }
def merkleUpsRow : OpenClaim := { program := "ytjfplkndngmgdaa", sum := "4933a8026b2895bed47adf0ab68699ba41523c877291e638f926021e74a7259c", func := "cachet/cachetlaw04.MerkleUps", spec := "merkleUps", unfollowed := true, recurses := true, apart := false }
def MerkleUpsSaid : Prop := merkleUpsRow.holds Try.pinned (OpenSpec.ofChange merkleUpsSpec)

/-- ITS FALSE NEIGHBOUR: 'it returns false'. Refute it at one input. -/
def merkleUpsWrong : ChangeSpec := { name := "merkleUps", fn := fun _ => fun
  | [d1, d2, d3, d4, d5] => { results := [.lit (.bool false)], args := [d1, d2, d3, d4, d5] }
  | _ => none }
def MerkleUpsWrongFalsely : Prop := merkleUpsRow.holds Try.pinned (OpenSpec.ofChange merkleUpsWrong)

/-- 'cachetlaw04.MerkleEach': WHATEVER THE INPUT: true; the input reads as it did. -/
def merkleEachSpec : ChangeSpec := { name := "merkleEach", fn := fun _ => fun
  | [d1, d2] => { results := [.lit (.bool true)], args := [d1, d2] }
  | _ => none }
def merkleEachRow : OpenClaim := { program := "ytjfplkndngmgdaa", sum := "4933a8026b2895bed47adf0ab68699ba41523c877291e638f926021e74a7259c", func := "cachet/cachetlaw04.MerkleEach", spec := "merkleEach", unfollowed := true, recurses := true, apart := false }
def MerkleEachSaid : Prop := merkleEachRow.holds Try.pinned (OpenSpec.ofChange merkleEachSpec)

/-- ITS FALSE NEIGHBOUR: 'it returns false'. Refute it at one input. -/
def merkleEachWrong : ChangeSpec := { name := "merkleEach", fn := fun _ => fun
  | [d1, d2] => { results := [.lit (.bool false)], args := [d1, d2] }
  | _ => none }
def MerkleEachWrongFalsely : Prop := merkleEachRow.holds Try.pinned (OpenSpec.ofChange merkleEachWrong)

/-- 'cachetlaw04.MerkleBent': WHATEVER THE INPUT: true; the input reads as it did. -/
def merkleBentSpec : ChangeSpec := { name := "merkleBent", fn := fun _ => fun
  | [d1, d2, d3, d4, d5] => { results := [.lit (.bool true)], args := [d1, d2, d3, d4, d5] }
  | _ => none }
def merkleBentRow : OpenClaim := { program := "ytjfplkndngmgdaa", sum := "4933a8026b2895bed47adf0ab68699ba41523c877291e638f926021e74a7259c", func := "cachet/cachetlaw04.MerkleBent", spec := "merkleBent", unfollowed := true, recurses := true, apart := false }
def MerkleBentSaid : Prop := merkleBentRow.holds Try.pinned (OpenSpec.ofChange merkleBentSpec)

/-- ITS FALSE NEIGHBOUR: 'it returns false'. Refute it at one input. -/
def merkleBentWrong : ChangeSpec := { name := "merkleBent", fn := fun _ => fun
  | [d1, d2, d3, d4, d5] => { results := [.lit (.bool false)], args := [d1, d2, d3, d4, d5] }
  | _ => none }
def MerkleBentWrongFalsely : Prop := merkleBentRow.holds Try.pinned (OpenSpec.ofChange merkleBentWrong)

/-- 'cachetlaw04.MerkleLike': WHATEVER THE INPUT: true; the input reads as it did. -/
def merkleLikeSpec : ChangeSpec := { name := "merkleLike", fn := fun _ => fun
  | [d1, d2] => { results := [.lit (.bool true)], args := [d1, d2] }
  | _ => none }
def merkleLikeRow : OpenClaim := { program := "ytjfplkndngmgdaa", sum := "4933a8026b2895bed47adf0ab68699ba41523c877291e638f926021e74a7259c", func := "cachet/cachetlaw04.MerkleLike", spec := "merkleLike", unfollowed := true, recurses := true, apart := false }
def MerkleLikeSaid : Prop := merkleLikeRow.holds Try.pinned (OpenSpec.ofChange merkleLikeSpec)

/-- ITS FALSE NEIGHBOUR: 'it returns false'. Refute it at one input. -/
def merkleLikeWrong : ChangeSpec := { name := "merkleLike", fn := fun _ => fun
  | [d1, d2] => { results := [.lit (.bool false)], args := [d1, d2] }
  | _ => none }
def MerkleLikeWrongFalsely : Prop := merkleLikeRow.holds Try.pinned (OpenSpec.ofChange merkleLikeWrong)

/-- 'cachetlaw04.MerkleRows': WHATEVER THE INPUT: true; the input reads as it did. -/
def merkleRowsSpec : ChangeSpec := { name := "merkleRows", fn := fun _ => fun
  | [d1, d2] => { results := [.lit (.bool true)], args := [d1, d2] }
  | _ => none }
def merkleRowsRow : OpenClaim := { program := "ytjfplkndngmgdaa", sum := "4933a8026b2895bed47adf0ab68699ba41523c877291e638f926021e74a7259c", func := "cachet/cachetlaw04.MerkleRows", spec := "merkleRows", unfollowed := true, recurses := true, apart := false }
def MerkleRowsSaid : Prop := merkleRowsRow.holds Try.pinned (OpenSpec.ofChange merkleRowsSpec)

/-- ITS FALSE NEIGHBOUR: 'it returns false'. Refute it at one input. -/
def merkleRowsWrong : ChangeSpec := { name := "merkleRows", fn := fun _ => fun
  | [d1, d2] => { results := [.lit (.bool false)], args := [d1, d2] }
  | _ => none }
def MerkleRowsWrongFalsely : Prop := merkleRowsRow.holds Try.pinned (OpenSpec.ofChange merkleRowsWrong)

/-- 'cachetlaw04.MerkleRoots': WHATEVER THE INPUT: true; the input reads as it did. -/
def merkleRootsSpec : ChangeSpec := { name := "merkleRoots", fn := fun _ => fun
  | [d] => { results := [.lit (.bool true)], args := [d] }
  | _ => none }
def merkleRootsRow : OpenClaim := { program := "ytjfplkndngmgdaa", sum := "4933a8026b2895bed47adf0ab68699ba41523c877291e638f926021e74a7259c", func := "cachet/cachetlaw04.MerkleRoots", spec := "merkleRoots", unfollowed := true, recurses := true, apart := false }
def MerkleRootsSaid : Prop := merkleRootsRow.holds Try.pinned (OpenSpec.ofChange merkleRootsSpec)

/-- ITS FALSE NEIGHBOUR: 'it returns false'. Refute it at one input. -/
def merkleRootsWrong : ChangeSpec := { name := "merkleRoots", fn := fun _ => fun
  | [d] => { results := [.lit (.bool false)], args := [d] }
  | _ => none }
def MerkleRootsWrongFalsely : Prop := merkleRootsRow.holds Try.pinned (OpenSpec.ofChange merkleRootsWrong)

/- THE SECOND FORM. 'bulk': how many values and letters a reading holds, each counted each time it is reached (what is shared counts as often as it is met; a slice's spare places count too). A statement '..UptoSaid' is the law's where the arguments, and the package variables that the reading takes, are together of bulk at most 1048576: NARROWER than '..Said'. Prove '..Said' where nothing that the law and all that it calls make is longer than what came in: it says more and counts as full. Else prove '..UptoSaid'. A law counts once. -/
mutual
def uptoBulk {H : Type} : DataW H → Nat
  | .lit (.string bytes) => bytes.length + 1
  | .lit _ => 1
  | .nil => 1
  | .ptr d => uptoBulk d + 1
  | .slice elems spare => uptoBulkAll elems + uptoBulkAll spare + 1
  | .agg parts => uptoBulkAll parts + 1
  | .iface _ d => uptoBulk d + 1
  | .map entries => uptoBulkEntries entries + 1
  | .held _ => 1
def uptoBulkAll {H : Type} : List (DataW H) → Nat
  | [] => 0
  | d :: r => uptoBulk d + uptoBulkAll r
def uptoBulkEntries {H : Type} : List (Lit × DataW H) → Nat
  | [] => 0
  | x :: r => uptoBulkEntry x + uptoBulkEntries r
def uptoBulkEntry {H : Type} : Lit × DataW H → Nat
  | (.string bytes, d) => bytes.length + uptoBulk d + 1
  | (_, d) => uptoBulk d + 1
 end
def uptoSmall : (H : Type) → List (DataW H) → Bool := fun _ ds => decide (uptoBulkAll ds ≤ 1048576)
def OpenSpec.upto (s : _root_.Go.ChangeSpec) : _root_.Go.OpenSpec := { _root_.Go.OpenSpec.ofChange s with cond := some uptoSmall }

/-- 'cachetlaw04.MerkleSteps', WHERE WHAT IT READS IS OF BULK AT MOST 1048576: true; the input reads as it did. -/
def merkleStepsUptoRow : OpenClaim := { program := "ytjfplkndngmgdaa", sum := "4933a8026b2895bed47adf0ab68699ba41523c877291e638f926021e74a7259c", func := "cachet/cachetlaw04.MerkleSteps", spec := "merkleSteps", unfollowed := true, recurses := true, apart := false, narrowed := true }
def MerkleStepsUptoSaid : Prop := merkleStepsUptoRow.holds Try.pinned (OpenSpec.upto merkleStepsSpec)

/-- 'cachetlaw04.MerkleLengths', WHERE WHAT IT READS IS OF BULK AT MOST 1048576: true; the input reads as it did. -/
def merkleLengthsUptoRow : OpenClaim := { program := "ytjfplkndngmgdaa", sum := "4933a8026b2895bed47adf0ab68699ba41523c877291e638f926021e74a7259c", func := "cachet/cachetlaw04.MerkleLengths", spec := "merkleLengths", unfollowed := true, recurses := true, apart := false, narrowed := true }
def MerkleLengthsUptoSaid : Prop := merkleLengthsUptoRow.holds Try.pinned (OpenSpec.upto merkleLengthsSpec)

/-- 'cachetlaw04.MerkleHolds', WHERE WHAT IT READS IS OF BULK AT MOST 1048576: true; the input reads as it did. -/
def merkleHoldsUptoRow : OpenClaim := { program := "ytjfplkndngmgdaa", sum := "4933a8026b2895bed47adf0ab68699ba41523c877291e638f926021e74a7259c", func := "cachet/cachetlaw04.MerkleHolds", spec := "merkleHolds", unfollowed := true, recurses := true, apart := false, narrowed := true }
def MerkleHoldsUptoSaid : Prop := merkleHoldsUptoRow.holds Try.pinned (OpenSpec.upto merkleHoldsSpec)

/-- 'cachetlaw04.MerklePaths', WHERE WHAT IT READS IS OF BULK AT MOST 1048576: true; the input reads as it did. -/
def merklePathsUptoRow : OpenClaim := { program := "ytjfplkndngmgdaa", sum := "4933a8026b2895bed47adf0ab68699ba41523c877291e638f926021e74a7259c", func := "cachet/cachetlaw04.MerklePaths", spec := "merklePaths", unfollowed := true, recurses := true, apart := false, narrowed := true }
def MerklePathsUptoSaid : Prop := merklePathsUptoRow.holds Try.pinned (OpenSpec.upto merklePathsSpec)

/-- 'cachetlaw04.MerkleUps', WHERE WHAT IT READS IS OF BULK AT MOST 1048576: true; the input reads as it did. -/
def merkleUpsUptoRow : OpenClaim := { program := "ytjfplkndngmgdaa", sum := "4933a8026b2895bed47adf0ab68699ba41523c877291e638f926021e74a7259c", func := "cachet/cachetlaw04.MerkleUps", spec := "merkleUps", unfollowed := true, recurses := true, apart := false, narrowed := true }
def MerkleUpsUptoSaid : Prop := merkleUpsUptoRow.holds Try.pinned (OpenSpec.upto merkleUpsSpec)

/-- 'cachetlaw04.MerkleEach', WHERE WHAT IT READS IS OF BULK AT MOST 1048576: true; the input reads as it did. -/
def merkleEachUptoRow : OpenClaim := { program := "ytjfplkndngmgdaa", sum := "4933a8026b2895bed47adf0ab68699ba41523c877291e638f926021e74a7259c", func := "cachet/cachetlaw04.MerkleEach", spec := "merkleEach", unfollowed := true, recurses := true, apart := false, narrowed := true }
def MerkleEachUptoSaid : Prop := merkleEachUptoRow.holds Try.pinned (OpenSpec.upto merkleEachSpec)

/-- 'cachetlaw04.MerkleBent', WHERE WHAT IT READS IS OF BULK AT MOST 1048576: true; the input reads as it did. -/
def merkleBentUptoRow : OpenClaim := { program := "ytjfplkndngmgdaa", sum := "4933a8026b2895bed47adf0ab68699ba41523c877291e638f926021e74a7259c", func := "cachet/cachetlaw04.MerkleBent", spec := "merkleBent", unfollowed := true, recurses := true, apart := false, narrowed := true }
def MerkleBentUptoSaid : Prop := merkleBentUptoRow.holds Try.pinned (OpenSpec.upto merkleBentSpec)

/-- 'cachetlaw04.MerkleLike', WHERE WHAT IT READS IS OF BULK AT MOST 1048576: true; the input reads as it did. -/
def merkleLikeUptoRow : OpenClaim := { program := "ytjfplkndngmgdaa", sum := "4933a8026b2895bed47adf0ab68699ba41523c877291e638f926021e74a7259c", func := "cachet/cachetlaw04.MerkleLike", spec := "merkleLike", unfollowed := true, recurses := true, apart := false, narrowed := true }
def MerkleLikeUptoSaid : Prop := merkleLikeUptoRow.holds Try.pinned (OpenSpec.upto merkleLikeSpec)

/-- 'cachetlaw04.MerkleRows', WHERE WHAT IT READS IS OF BULK AT MOST 1048576: true; the input reads as it did. -/
def merkleRowsUptoRow : OpenClaim := { program := "ytjfplkndngmgdaa", sum := "4933a8026b2895bed47adf0ab68699ba41523c877291e638f926021e74a7259c", func := "cachet/cachetlaw04.MerkleRows", spec := "merkleRows", unfollowed := true, recurses := true, apart := false, narrowed := true }
def MerkleRowsUptoSaid : Prop := merkleRowsUptoRow.holds Try.pinned (OpenSpec.upto merkleRowsSpec)

/-- 'cachetlaw04.MerkleRoots', WHERE WHAT IT READS IS OF BULK AT MOST 1048576: true; the input reads as it did. -/
def merkleRootsUptoRow : OpenClaim := { program := "ytjfplkndngmgdaa", sum := "4933a8026b2895bed47adf0ab68699ba41523c877291e638f926021e74a7259c", func := "cachet/cachetlaw04.MerkleRoots", spec := "merkleRoots", unfollowed := true, recurses := true, apart := false, narrowed := true }
def MerkleRootsUptoSaid : Prop := merkleRootsUptoRow.holds Try.pinned (OpenSpec.upto merkleRootsSpec)

end Rows
end Go.Proofs.Ytjfplkndngmgdaa
