/-
  No cell of these rows narrows 'for every input' (looked for: loops, veiled, ifaces, maps, wideKeys, modest, calm, conditions, laid).
  DERIVED. THE GIVEN ROWS OF THIS SEAT. 8 by the template 'for every input the law returns true; each argument reads behind the call as it read before'; 0 by the template 'total and deterministic' (their statements: YtgdmejkneabclaaTotals.lean).
  GIVEN WITH THE SEED: the statements are not yours to turn. If you find one false, say at which input.
  Laid BY PROGRAM, IN A SANDBOX (cutbox-rows.mjs): the forced cells as the released guide's own fill.sh prints them over the translation f735736ac0c061b3… (all of the seat's roots in one cut). By AI agents, Wed Nov 11 2026. No macro, syntax, notation, axiom, sorry.
-/
import Derived.Test.YtgdmejkneabclaaChecked
import GoSem.Claim
import GoSem.ClaimJoined
import GoSem.ClaimMapViews
import Derived.JoinedTies
import Derived.KernelRfl
namespace Go.Proofs.Ytgdmejkneabclaa
/- THE CELL 'sum', in the pinned program and in every row, IS THE sha256 OF THE DUMP (.gsa) THAT YtgdmejkneabclaaProg.lean LOADS. Nothing in Lean hashes anything: it is a label: what it is worth is what the hold of that sum in a sandbox is worth. -/
noncomputable def Try.pinned : Pinned := { name := "ytgdmejkneabclaa", sum := "f735736ac0c061b307c485e0ad9dd39db75f715f8fe4229031cf9b78e01d0756", checked := Try.checked }
namespace Rows
def none {H : Type} : Left H := { results := [], args := [] }

/-- 'catenarylaw21.MoveParts': WHATEVER THE INPUT: true; the input reads as it did. -/
def movePartsSpec : ChangeSpec := { name := "moveParts", fn := fun _ => fun
  | [d1, d2, d3] => { results := [.lit (.bool true)], args := [d1, d2, d3] }
  | _ => none }
def movePartsRow : OpenClaim := { program := "ytgdmejkneabclaa", sum := "f735736ac0c061b307c485e0ad9dd39db75f715f8fe4229031cf9b78e01d0756", func := "catenary/catenarylaw21.MoveParts", spec := "moveParts", unfollowed := true, recurses := true, apart := false }
def MovePartsSaid : Prop := movePartsRow.holds Try.pinned (OpenSpec.ofChange movePartsSpec)

/-- ITS FALSE NEIGHBOUR: 'it returns false'. Refute it at one input. -/
def movePartsWrong : ChangeSpec := { name := "moveParts", fn := fun _ => fun
  | [d1, d2, d3] => { results := [.lit (.bool false)], args := [d1, d2, d3] }
  | _ => none }
def MovePartsWrongFalsely : Prop := movePartsRow.holds Try.pinned (OpenSpec.ofChange movePartsWrong)

/-- 'catenarylaw21.MoveBig': WHATEVER THE INPUT: true; the input reads as it did. -/
def moveBigSpec : ChangeSpec := { name := "moveBig", fn := fun _ => fun
  | [d] => { results := [.lit (.bool true)], args := [d] }
  | _ => none }
def moveBigRow : OpenClaim := { program := "ytgdmejkneabclaa", sum := "f735736ac0c061b307c485e0ad9dd39db75f715f8fe4229031cf9b78e01d0756", func := "catenary/catenarylaw21.MoveBig", spec := "moveBig", unfollowed := true, recurses := true, apart := false }
def MoveBigSaid : Prop := moveBigRow.holds Try.pinned (OpenSpec.ofChange moveBigSpec)

/-- ITS FALSE NEIGHBOUR: 'it returns false'. Refute it at one input. -/
def moveBigWrong : ChangeSpec := { name := "moveBig", fn := fun _ => fun
  | [d] => { results := [.lit (.bool false)], args := [d] }
  | _ => none }
def MoveBigWrongFalsely : Prop := moveBigRow.holds Try.pinned (OpenSpec.ofChange moveBigWrong)

/-- 'catenarylaw15.VersTrims': WHATEVER THE INPUT: true; the input reads as it did. -/
def versTrimsSpec : ChangeSpec := { name := "versTrims", fn := fun _ => fun
  | [d1, d2, d3] => { results := [.lit (.bool true)], args := [d1, d2, d3] }
  | _ => none }
def versTrimsRow : OpenClaim := { program := "ytgdmejkneabclaa", sum := "f735736ac0c061b307c485e0ad9dd39db75f715f8fe4229031cf9b78e01d0756", func := "catenary/catenarylaw15.VersTrims", spec := "versTrims", unfollowed := true, recurses := true, apart := false }
def VersTrimsSaid : Prop := versTrimsRow.holds Try.pinned (OpenSpec.ofChange versTrimsSpec)

/-- ITS FALSE NEIGHBOUR: 'it returns false'. Refute it at one input. -/
def versTrimsWrong : ChangeSpec := { name := "versTrims", fn := fun _ => fun
  | [d1, d2, d3] => { results := [.lit (.bool false)], args := [d1, d2, d3] }
  | _ => none }
def VersTrimsWrongFalsely : Prop := versTrimsRow.holds Try.pinned (OpenSpec.ofChange versTrimsWrong)

/-- 'catenarylaw21.MoveTakes': WHATEVER THE INPUT: true; the input reads as it did. -/
def moveTakesSpec : ChangeSpec := { name := "moveTakes", fn := fun _ => fun
  | [d] => { results := [.lit (.bool true)], args := [d] }
  | _ => none }
def moveTakesRow : OpenClaim := { program := "ytgdmejkneabclaa", sum := "f735736ac0c061b307c485e0ad9dd39db75f715f8fe4229031cf9b78e01d0756", func := "catenary/catenarylaw21.MoveTakes", spec := "moveTakes", unfollowed := true, recurses := true, apart := false }
def MoveTakesSaid : Prop := moveTakesRow.holds Try.pinned (OpenSpec.ofChange moveTakesSpec)

/-- ITS FALSE NEIGHBOUR: 'it returns false'. Refute it at one input. -/
def moveTakesWrong : ChangeSpec := { name := "moveTakes", fn := fun _ => fun
  | [d] => { results := [.lit (.bool false)], args := [d] }
  | _ => none }
def MoveTakesWrongFalsely : Prop := moveTakesRow.holds Try.pinned (OpenSpec.ofChange moveTakesWrong)

/-- 'catenarylaw21.MoveOwn': WHATEVER THE INPUT: true; the input reads as it did. -/
def moveOwnSpec : ChangeSpec := { name := "moveOwn", fn := fun _ => fun
  | [d] => { results := [.lit (.bool true)], args := [d] }
  | _ => none }
def moveOwnRow : OpenClaim := { program := "ytgdmejkneabclaa", sum := "f735736ac0c061b307c485e0ad9dd39db75f715f8fe4229031cf9b78e01d0756", func := "catenary/catenarylaw21.MoveOwn", spec := "moveOwn", unfollowed := true, recurses := true, apart := false }
def MoveOwnSaid : Prop := moveOwnRow.holds Try.pinned (OpenSpec.ofChange moveOwnSpec)

/-- ITS FALSE NEIGHBOUR: 'it returns false'. Refute it at one input. -/
def moveOwnWrong : ChangeSpec := { name := "moveOwn", fn := fun _ => fun
  | [d] => { results := [.lit (.bool false)], args := [d] }
  | _ => none }
def MoveOwnWrongFalsely : Prop := moveOwnRow.holds Try.pinned (OpenSpec.ofChange moveOwnWrong)

/-- 'catenarylaw15.VersPlays': WHATEVER THE INPUT: true; the input reads as it did. -/
def versPlaysSpec : ChangeSpec := { name := "versPlays", fn := fun _ => fun
  | [d] => { results := [.lit (.bool true)], args := [d] }
  | _ => none }
def versPlaysRow : OpenClaim := { program := "ytgdmejkneabclaa", sum := "f735736ac0c061b307c485e0ad9dd39db75f715f8fe4229031cf9b78e01d0756", func := "catenary/catenarylaw15.VersPlays", spec := "versPlays", unfollowed := true, recurses := true, apart := false }
def VersPlaysSaid : Prop := versPlaysRow.holds Try.pinned (OpenSpec.ofChange versPlaysSpec)

/-- ITS FALSE NEIGHBOUR: 'it returns false'. Refute it at one input. -/
def versPlaysWrong : ChangeSpec := { name := "versPlays", fn := fun _ => fun
  | [d] => { results := [.lit (.bool false)], args := [d] }
  | _ => none }
def VersPlaysWrongFalsely : Prop := versPlaysRow.holds Try.pinned (OpenSpec.ofChange versPlaysWrong)

/-- 'catenarylaw15.VersOwn': WHATEVER THE INPUT: true; the input reads as it did. -/
def versOwnSpec : ChangeSpec := { name := "versOwn", fn := fun _ => fun
  | [d1, d2] => { results := [.lit (.bool true)], args := [d1, d2] }
  | _ => none }
def versOwnRow : OpenClaim := { program := "ytgdmejkneabclaa", sum := "f735736ac0c061b307c485e0ad9dd39db75f715f8fe4229031cf9b78e01d0756", func := "catenary/catenarylaw15.VersOwn", spec := "versOwn", unfollowed := true, recurses := true, apart := false }
def VersOwnSaid : Prop := versOwnRow.holds Try.pinned (OpenSpec.ofChange versOwnSpec)

/-- ITS FALSE NEIGHBOUR: 'it returns false'. Refute it at one input. -/
def versOwnWrong : ChangeSpec := { name := "versOwn", fn := fun _ => fun
  | [d1, d2] => { results := [.lit (.bool false)], args := [d1, d2] }
  | _ => none }
def VersOwnWrongFalsely : Prop := versOwnRow.holds Try.pinned (OpenSpec.ofChange versOwnWrong)

/-- 'catenarylaw15.VersNil': WHATEVER THE INPUT: true; the input reads as it did. -/
def versNilSpec : ChangeSpec := { name := "versNil", fn := fun _ => fun
  | [d] => { results := [.lit (.bool true)], args := [d] }
  | _ => none }
def versNilRow : OpenClaim := { program := "ytgdmejkneabclaa", sum := "f735736ac0c061b307c485e0ad9dd39db75f715f8fe4229031cf9b78e01d0756", func := "catenary/catenarylaw15.VersNil", spec := "versNil", unfollowed := true, recurses := true, apart := false }
def VersNilSaid : Prop := versNilRow.holds Try.pinned (OpenSpec.ofChange versNilSpec)

/-- ITS FALSE NEIGHBOUR: 'it returns false'. Refute it at one input. -/
def versNilWrong : ChangeSpec := { name := "versNil", fn := fun _ => fun
  | [d] => { results := [.lit (.bool false)], args := [d] }
  | _ => none }
def VersNilWrongFalsely : Prop := versNilRow.holds Try.pinned (OpenSpec.ofChange versNilWrong)

/- THE SECOND FORM. 'bulk': how many values and letters a reading holds, each counted each time it is reached (what is shared counts as often as it is met; a slice's spare places count too). A statement '..UptoSaid' is the law's where the arguments, and the package variables that the reading takes, are together of bulk at most 1048576: NARROWER than '..Said'. Prove '..Said' where nothing that the law and all that it calls make is longer than what came in: it says more and counts as full. Else prove '..UptoSaid'. A law counts once. -/
mutual
def uptoBulk {H : Type} : DataW H → Nat
  | .lit (.string bytes) => bytes.length + 1
  | .lit _ => 1
  | .nil => 1
  | .ptr d => uptoBulk d + 1
  | .slice elems spare => uptoBulkAll elems + uptoBulkAll spare + 1
  | .agg parts => uptoBulkAll parts + 1
  | .iface _ d => uptoBulk d + 1
  | .map entries => uptoBulkEntries entries + 1
  | .held _ => 1
def uptoBulkAll {H : Type} : List (DataW H) → Nat
  | [] => 0
  | d :: r => uptoBulk d + uptoBulkAll r
def uptoBulkEntries {H : Type} : List (Lit × DataW H) → Nat
  | [] => 0
  | x :: r => uptoBulkEntry x + uptoBulkEntries r
def uptoBulkEntry {H : Type} : Lit × DataW H → Nat
  | (.string bytes, d) => bytes.length + uptoBulk d + 1
  | (_, d) => uptoBulk d + 1
 end
def uptoSmall : (H : Type) → List (DataW H) → Bool := fun _ ds => decide (uptoBulkAll ds ≤ 1048576)
def OpenSpec.upto (s : _root_.Go.ChangeSpec) : _root_.Go.OpenSpec := { _root_.Go.OpenSpec.ofChange s with cond := some uptoSmall }

/-- 'catenarylaw21.MoveParts', WHERE WHAT IT READS IS OF BULK AT MOST 1048576: true; the input reads as it did. -/
def movePartsUptoRow : OpenClaim := { program := "ytgdmejkneabclaa", sum := "f735736ac0c061b307c485e0ad9dd39db75f715f8fe4229031cf9b78e01d0756", func := "catenary/catenarylaw21.MoveParts", spec := "moveParts", unfollowed := true, recurses := true, apart := false, narrowed := true }
def MovePartsUptoSaid : Prop := movePartsUptoRow.holds Try.pinned (OpenSpec.upto movePartsSpec)

/-- 'catenarylaw21.MoveBig', WHERE WHAT IT READS IS OF BULK AT MOST 1048576: true; the input reads as it did. -/
def moveBigUptoRow : OpenClaim := { program := "ytgdmejkneabclaa", sum := "f735736ac0c061b307c485e0ad9dd39db75f715f8fe4229031cf9b78e01d0756", func := "catenary/catenarylaw21.MoveBig", spec := "moveBig", unfollowed := true, recurses := true, apart := false, narrowed := true }
def MoveBigUptoSaid : Prop := moveBigUptoRow.holds Try.pinned (OpenSpec.upto moveBigSpec)

/-- 'catenarylaw15.VersTrims', WHERE WHAT IT READS IS OF BULK AT MOST 1048576: true; the input reads as it did. -/
def versTrimsUptoRow : OpenClaim := { program := "ytgdmejkneabclaa", sum := "f735736ac0c061b307c485e0ad9dd39db75f715f8fe4229031cf9b78e01d0756", func := "catenary/catenarylaw15.VersTrims", spec := "versTrims", unfollowed := true, recurses := true, apart := false, narrowed := true }
def VersTrimsUptoSaid : Prop := versTrimsUptoRow.holds Try.pinned (OpenSpec.upto versTrimsSpec)

/-- 'catenarylaw21.MoveTakes', WHERE WHAT IT READS IS OF BULK AT MOST 1048576: true; the input reads as it did. -/
def moveTakesUptoRow : OpenClaim := { program := "ytgdmejkneabclaa", sum := "f735736ac0c061b307c485e0ad9dd39db75f715f8fe4229031cf9b78e01d0756", func := "catenary/catenarylaw21.MoveTakes", spec := "moveTakes", unfollowed := true, recurses := true, apart := false, narrowed := true }
def MoveTakesUptoSaid : Prop := moveTakesUptoRow.holds Try.pinned (OpenSpec.upto moveTakesSpec)

/-- 'catenarylaw21.MoveOwn', WHERE WHAT IT READS IS OF BULK AT MOST 1048576: true; the input reads as it did. -/
def moveOwnUptoRow : OpenClaim := { program := "ytgdmejkneabclaa", sum := "f735736ac0c061b307c485e0ad9dd39db75f715f8fe4229031cf9b78e01d0756", func := "catenary/catenarylaw21.MoveOwn", spec := "moveOwn", unfollowed := true, recurses := true, apart := false, narrowed := true }
def MoveOwnUptoSaid : Prop := moveOwnUptoRow.holds Try.pinned (OpenSpec.upto moveOwnSpec)

/-- 'catenarylaw15.VersPlays', WHERE WHAT IT READS IS OF BULK AT MOST 1048576: true; the input reads as it did. -/
def versPlaysUptoRow : OpenClaim := { program := "ytgdmejkneabclaa", sum := "f735736ac0c061b307c485e0ad9dd39db75f715f8fe4229031cf9b78e01d0756", func := "catenary/catenarylaw15.VersPlays", spec := "versPlays", unfollowed := true, recurses := true, apart := false, narrowed := true }
def VersPlaysUptoSaid : Prop := versPlaysUptoRow.holds Try.pinned (OpenSpec.upto versPlaysSpec)

/-- 'catenarylaw15.VersOwn', WHERE WHAT IT READS IS OF BULK AT MOST 1048576: true; the input reads as it did. -/
def versOwnUptoRow : OpenClaim := { program := "ytgdmejkneabclaa", sum := "f735736ac0c061b307c485e0ad9dd39db75f715f8fe4229031cf9b78e01d0756", func := "catenary/catenarylaw15.VersOwn", spec := "versOwn", unfollowed := true, recurses := true, apart := false, narrowed := true }
def VersOwnUptoSaid : Prop := versOwnUptoRow.holds Try.pinned (OpenSpec.upto versOwnSpec)

/-- 'catenarylaw15.VersNil', WHERE WHAT IT READS IS OF BULK AT MOST 1048576: true; the input reads as it did. -/
def versNilUptoRow : OpenClaim := { program := "ytgdmejkneabclaa", sum := "f735736ac0c061b307c485e0ad9dd39db75f715f8fe4229031cf9b78e01d0756", func := "catenary/catenarylaw15.VersNil", spec := "versNil", unfollowed := true, recurses := true, apart := false, narrowed := true }
def VersNilUptoSaid : Prop := versNilUptoRow.holds Try.pinned (OpenSpec.upto versNilSpec)

end Rows
end Go.Proofs.Ytgdmejkneabclaa
