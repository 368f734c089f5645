/-
  No cell of these rows narrows 'for every input' (looked for: loops, veiled, ifaces, maps, wideKeys, modest, calm, conditions, laid).
  DERIVED. THE GIVEN ROWS OF THIS SEAT. 9 by the template 'for every input the law returns true; each argument reads behind the call as it read before'; 0 by the template 'total and deterministic' (their statements: YtehfddafjemedaaTotals.lean).
  GIVEN WITH THE SEED: the statements are not yours to turn. If you find one false, say at which input.
  Laid BY PROGRAM, IN A SANDBOX (cutbox-rows.mjs): the forced cells as the released guide's own fill.sh prints them over the translation 401898d65494fe13… (all of the seat's roots in one cut). By AI agents, Wed Nov 11 2026. No macro, syntax, notation, axiom, sorry.
-/
import Derived.Test.YtehfddafjemedaaChecked
import GoSem.Claim
import GoSem.ClaimJoined
import GoSem.ClaimMapViews
import Derived.JoinedTies
import Derived.KernelRfl
namespace Go.Proofs.Ytehfddafjemedaa
/- THE CELL 'sum', in the pinned program and in every row, IS THE sha256 OF THE DUMP (.gsa) THAT YtehfddafjemedaaProg.lean LOADS. Nothing in Lean hashes anything: it is a label: what it is worth is what the hold of that sum in a sandbox is worth. -/
noncomputable def Try.pinned : Pinned := { name := "ytehfddafjemedaa", sum := "401898d65494fe13a3a202f87deb8a48f69a7b27d10f0f070688e322bac8ac12", checked := Try.checked }
namespace Rows
def none {H : Type} : Left H := { results := [], args := [] }

/-- 'catenarylaw16.SessRises': WHATEVER THE INPUT: true; the input reads as it did. -/
def sessRisesSpec : ChangeSpec := { name := "sessRises", fn := fun _ => fun
  | [d] => { results := [.lit (.bool true)], args := [d] }
  | _ => none }
def sessRisesRow : OpenClaim := { program := "ytehfddafjemedaa", sum := "401898d65494fe13a3a202f87deb8a48f69a7b27d10f0f070688e322bac8ac12", func := "catenary/catenarylaw16.SessRises", spec := "sessRises", apart := false }
def SessRisesSaid : Prop := sessRisesRow.holds Try.pinned (OpenSpec.ofChange sessRisesSpec)

/-- ITS FALSE NEIGHBOUR: 'it returns false'. Refute it at one input. -/
def sessRisesWrong : ChangeSpec := { name := "sessRises", fn := fun _ => fun
  | [d] => { results := [.lit (.bool false)], args := [d] }
  | _ => none }
def SessRisesWrongFalsely : Prop := sessRisesRow.holds Try.pinned (OpenSpec.ofChange sessRisesWrong)

/-- 'catenarylaw16.SessPlays': WHATEVER THE INPUT: true; the input reads as it did. -/
def sessPlaysSpec : ChangeSpec := { name := "sessPlays", fn := fun _ => fun
  | [d1, d2, d3] => { results := [.lit (.bool true)], args := [d1, d2, d3] }
  | _ => none }
def sessPlaysRow : OpenClaim := { program := "ytehfddafjemedaa", sum := "401898d65494fe13a3a202f87deb8a48f69a7b27d10f0f070688e322bac8ac12", func := "catenary/catenarylaw16.SessPlays", spec := "sessPlays", apart := false }
def SessPlaysSaid : Prop := sessPlaysRow.holds Try.pinned (OpenSpec.ofChange sessPlaysSpec)

/-- ITS FALSE NEIGHBOUR: 'it returns false'. Refute it at one input. -/
def sessPlaysWrong : ChangeSpec := { name := "sessPlays", fn := fun _ => fun
  | [d1, d2, d3] => { results := [.lit (.bool false)], args := [d1, d2, d3] }
  | _ => none }
def SessPlaysWrongFalsely : Prop := sessPlaysRow.holds Try.pinned (OpenSpec.ofChange sessPlaysWrong)

/-- 'catenarylaw16.SessNil': WHATEVER THE INPUT: true; the input reads as it did. -/
def sessNilSpec : ChangeSpec := { name := "sessNil", fn := fun _ => fun
  | [d1, d2, d3] => { results := [.lit (.bool true)], args := [d1, d2, d3] }
  | _ => none }
def sessNilRow : OpenClaim := { program := "ytehfddafjemedaa", sum := "401898d65494fe13a3a202f87deb8a48f69a7b27d10f0f070688e322bac8ac12", func := "catenary/catenarylaw16.SessNil", spec := "sessNil", apart := false }
def SessNilSaid : Prop := sessNilRow.holds Try.pinned (OpenSpec.ofChange sessNilSpec)

/-- ITS FALSE NEIGHBOUR: 'it returns false'. Refute it at one input. -/
def sessNilWrong : ChangeSpec := { name := "sessNil", fn := fun _ => fun
  | [d1, d2, d3] => { results := [.lit (.bool false)], args := [d1, d2, d3] }
  | _ => none }
def SessNilWrongFalsely : Prop := sessNilRow.holds Try.pinned (OpenSpec.ofChange sessNilWrong)

/-- 'catenarylaw01.FixPuts': WHATEVER THE INPUT: true; the input reads as it did. -/
def fixPutsSpec : ChangeSpec := { name := "fixPuts", fn := fun _ => fun
  | [d1, d2] => { results := [.lit (.bool true)], args := [d1, d2] }
  | _ => none }
def fixPutsRow : OpenClaim := { program := "ytehfddafjemedaa", sum := "401898d65494fe13a3a202f87deb8a48f69a7b27d10f0f070688e322bac8ac12", func := "catenary/catenarylaw01.FixPuts", spec := "fixPuts", apart := false }
def FixPutsSaid : Prop := fixPutsRow.holds Try.pinned (OpenSpec.ofChange fixPutsSpec)

/-- ITS FALSE NEIGHBOUR: 'it returns false'. Refute it at one input. -/
def fixPutsWrong : ChangeSpec := { name := "fixPuts", fn := fun _ => fun
  | [d1, d2] => { results := [.lit (.bool false)], args := [d1, d2] }
  | _ => none }
def FixPutsWrongFalsely : Prop := fixPutsRow.holds Try.pinned (OpenSpec.ofChange fixPutsWrong)

/-- 'catenarylaw01.FixOnce': WHATEVER THE INPUT: true; the input reads as it did. -/
def fixOnceSpec : ChangeSpec := { name := "fixOnce", fn := fun _ => fun
  | [d1, d2] => { results := [.lit (.bool true)], args := [d1, d2] }
  | _ => none }
def fixOnceRow : OpenClaim := { program := "ytehfddafjemedaa", sum := "401898d65494fe13a3a202f87deb8a48f69a7b27d10f0f070688e322bac8ac12", func := "catenary/catenarylaw01.FixOnce", spec := "fixOnce", apart := false }
def FixOnceSaid : Prop := fixOnceRow.holds Try.pinned (OpenSpec.ofChange fixOnceSpec)

/-- ITS FALSE NEIGHBOUR: 'it returns false'. Refute it at one input. -/
def fixOnceWrong : ChangeSpec := { name := "fixOnce", fn := fun _ => fun
  | [d1, d2] => { results := [.lit (.bool false)], args := [d1, d2] }
  | _ => none }
def FixOnceWrongFalsely : Prop := fixOnceRow.holds Try.pinned (OpenSpec.ofChange fixOnceWrong)

/-- 'catenarylaw01.FixBack': WHATEVER THE INPUT: true; the input reads as it did. -/
def fixBackSpec : ChangeSpec := { name := "fixBack", fn := fun _ => fun
  | [d] => { results := [.lit (.bool true)], args := [d] }
  | _ => none }
def fixBackRow : OpenClaim := { program := "ytehfddafjemedaa", sum := "401898d65494fe13a3a202f87deb8a48f69a7b27d10f0f070688e322bac8ac12", func := "catenary/catenarylaw01.FixBack", spec := "fixBack", apart := false }
def FixBackSaid : Prop := fixBackRow.holds Try.pinned (OpenSpec.ofChange fixBackSpec)

/-- ITS FALSE NEIGHBOUR: 'it returns false'. Refute it at one input. -/
def fixBackWrong : ChangeSpec := { name := "fixBack", fn := fun _ => fun
  | [d] => { results := [.lit (.bool false)], args := [d] }
  | _ => none }
def FixBackWrongFalsely : Prop := fixBackRow.holds Try.pinned (OpenSpec.ofChange fixBackWrong)

/-- 'catenarylaw16.SessBytes': WHATEVER THE INPUT: true; the input reads as it did. -/
def sessBytesSpec : ChangeSpec := { name := "sessBytes", fn := fun _ => fun
  | [d1, d2] => { results := [.lit (.bool true)], args := [d1, d2] }
  | _ => none }
def sessBytesRow : OpenClaim := { program := "ytehfddafjemedaa", sum := "401898d65494fe13a3a202f87deb8a48f69a7b27d10f0f070688e322bac8ac12", func := "catenary/catenarylaw16.SessBytes", spec := "sessBytes", apart := false }
def SessBytesSaid : Prop := sessBytesRow.holds Try.pinned (OpenSpec.ofChange sessBytesSpec)

/-- ITS FALSE NEIGHBOUR: 'it returns false'. Refute it at one input. -/
def sessBytesWrong : ChangeSpec := { name := "sessBytes", fn := fun _ => fun
  | [d1, d2] => { results := [.lit (.bool false)], args := [d1, d2] }
  | _ => none }
def SessBytesWrongFalsely : Prop := sessBytesRow.holds Try.pinned (OpenSpec.ofChange sessBytesWrong)

/-- 'catenarylaw01.FixReads': WHATEVER THE INPUT: true; the input reads as it did. -/
def fixReadsSpec : ChangeSpec := { name := "fixReads", fn := fun _ => fun
  | [d1, d2] => { results := [.lit (.bool true)], args := [d1, d2] }
  | _ => none }
def fixReadsRow : OpenClaim := { program := "ytehfddafjemedaa", sum := "401898d65494fe13a3a202f87deb8a48f69a7b27d10f0f070688e322bac8ac12", func := "catenary/catenarylaw01.FixReads", spec := "fixReads", apart := false }
def FixReadsSaid : Prop := fixReadsRow.holds Try.pinned (OpenSpec.ofChange fixReadsSpec)

/-- ITS FALSE NEIGHBOUR: 'it returns false'. Refute it at one input. -/
def fixReadsWrong : ChangeSpec := { name := "fixReads", fn := fun _ => fun
  | [d1, d2] => { results := [.lit (.bool false)], args := [d1, d2] }
  | _ => none }
def FixReadsWrongFalsely : Prop := fixReadsRow.holds Try.pinned (OpenSpec.ofChange fixReadsWrong)

/-- 'catenarylaw01.FixNil': WHATEVER THE INPUT: true; the input reads as it did. -/
def fixNilSpec : ChangeSpec := { name := "fixNil", fn := fun _ => fun
  | [d1, d2] => { results := [.lit (.bool true)], args := [d1, d2] }
  | _ => none }
def fixNilRow : OpenClaim := { program := "ytehfddafjemedaa", sum := "401898d65494fe13a3a202f87deb8a48f69a7b27d10f0f070688e322bac8ac12", func := "catenary/catenarylaw01.FixNil", spec := "fixNil", apart := false }
def FixNilSaid : Prop := fixNilRow.holds Try.pinned (OpenSpec.ofChange fixNilSpec)

/-- ITS FALSE NEIGHBOUR: 'it returns false'. Refute it at one input. -/
def fixNilWrong : ChangeSpec := { name := "fixNil", fn := fun _ => fun
  | [d1, d2] => { results := [.lit (.bool false)], args := [d1, d2] }
  | _ => none }
def FixNilWrongFalsely : Prop := fixNilRow.holds Try.pinned (OpenSpec.ofChange fixNilWrong)

/- THE SECOND FORM. 'bulk': how many values and letters a reading holds, each counted each time it is reached (what is shared counts as often as it is met; a slice's spare places count too). A statement '..UptoSaid' is the law's where the arguments, and the package variables that the reading takes, are together of bulk at most 1048576: NARROWER than '..Said'. Prove '..Said' where nothing that the law and all that it calls make is longer than what came in: it says more and counts as full. Else prove '..UptoSaid'. A law counts once. -/
mutual
def uptoBulk {H : Type} : DataW H → Nat
  | .lit (.string bytes) => bytes.length + 1
  | .lit _ => 1
  | .nil => 1
  | .ptr d => uptoBulk d + 1
  | .slice elems spare => uptoBulkAll elems + uptoBulkAll spare + 1
  | .agg parts => uptoBulkAll parts + 1
  | .iface _ d => uptoBulk d + 1
  | .map entries => uptoBulkEntries entries + 1
  | .held _ => 1
def uptoBulkAll {H : Type} : List (DataW H) → Nat
  | [] => 0
  | d :: r => uptoBulk d + uptoBulkAll r
def uptoBulkEntries {H : Type} : List (Lit × DataW H) → Nat
  | [] => 0
  | x :: r => uptoBulkEntry x + uptoBulkEntries r
def uptoBulkEntry {H : Type} : Lit × DataW H → Nat
  | (.string bytes, d) => bytes.length + uptoBulk d + 1
  | (_, d) => uptoBulk d + 1
 end
def uptoSmall : (H : Type) → List (DataW H) → Bool := fun _ ds => decide (uptoBulkAll ds ≤ 1048576)
def OpenSpec.upto (s : _root_.Go.ChangeSpec) : _root_.Go.OpenSpec := { _root_.Go.OpenSpec.ofChange s with cond := some uptoSmall }

/-- 'catenarylaw16.SessRises', WHERE WHAT IT READS IS OF BULK AT MOST 1048576: true; the input reads as it did. -/
def sessRisesUptoRow : OpenClaim := { program := "ytehfddafjemedaa", sum := "401898d65494fe13a3a202f87deb8a48f69a7b27d10f0f070688e322bac8ac12", func := "catenary/catenarylaw16.SessRises", spec := "sessRises", apart := false, narrowed := true }
def SessRisesUptoSaid : Prop := sessRisesUptoRow.holds Try.pinned (OpenSpec.upto sessRisesSpec)

/-- 'catenarylaw16.SessPlays', WHERE WHAT IT READS IS OF BULK AT MOST 1048576: true; the input reads as it did. -/
def sessPlaysUptoRow : OpenClaim := { program := "ytehfddafjemedaa", sum := "401898d65494fe13a3a202f87deb8a48f69a7b27d10f0f070688e322bac8ac12", func := "catenary/catenarylaw16.SessPlays", spec := "sessPlays", apart := false, narrowed := true }
def SessPlaysUptoSaid : Prop := sessPlaysUptoRow.holds Try.pinned (OpenSpec.upto sessPlaysSpec)

/-- 'catenarylaw16.SessNil', WHERE WHAT IT READS IS OF BULK AT MOST 1048576: true; the input reads as it did. -/
def sessNilUptoRow : OpenClaim := { program := "ytehfddafjemedaa", sum := "401898d65494fe13a3a202f87deb8a48f69a7b27d10f0f070688e322bac8ac12", func := "catenary/catenarylaw16.SessNil", spec := "sessNil", apart := false, narrowed := true }
def SessNilUptoSaid : Prop := sessNilUptoRow.holds Try.pinned (OpenSpec.upto sessNilSpec)

/-- 'catenarylaw01.FixPuts', WHERE WHAT IT READS IS OF BULK AT MOST 1048576: true; the input reads as it did. -/
def fixPutsUptoRow : OpenClaim := { program := "ytehfddafjemedaa", sum := "401898d65494fe13a3a202f87deb8a48f69a7b27d10f0f070688e322bac8ac12", func := "catenary/catenarylaw01.FixPuts", spec := "fixPuts", apart := false, narrowed := true }
def FixPutsUptoSaid : Prop := fixPutsUptoRow.holds Try.pinned (OpenSpec.upto fixPutsSpec)

/-- 'catenarylaw01.FixOnce', WHERE WHAT IT READS IS OF BULK AT MOST 1048576: true; the input reads as it did. -/
def fixOnceUptoRow : OpenClaim := { program := "ytehfddafjemedaa", sum := "401898d65494fe13a3a202f87deb8a48f69a7b27d10f0f070688e322bac8ac12", func := "catenary/catenarylaw01.FixOnce", spec := "fixOnce", apart := false, narrowed := true }
def FixOnceUptoSaid : Prop := fixOnceUptoRow.holds Try.pinned (OpenSpec.upto fixOnceSpec)

/-- 'catenarylaw01.FixBack', WHERE WHAT IT READS IS OF BULK AT MOST 1048576: true; the input reads as it did. -/
def fixBackUptoRow : OpenClaim := { program := "ytehfddafjemedaa", sum := "401898d65494fe13a3a202f87deb8a48f69a7b27d10f0f070688e322bac8ac12", func := "catenary/catenarylaw01.FixBack", spec := "fixBack", apart := false, narrowed := true }
def FixBackUptoSaid : Prop := fixBackUptoRow.holds Try.pinned (OpenSpec.upto fixBackSpec)

/-- 'catenarylaw16.SessBytes', WHERE WHAT IT READS IS OF BULK AT MOST 1048576: true; the input reads as it did. -/
def sessBytesUptoRow : OpenClaim := { program := "ytehfddafjemedaa", sum := "401898d65494fe13a3a202f87deb8a48f69a7b27d10f0f070688e322bac8ac12", func := "catenary/catenarylaw16.SessBytes", spec := "sessBytes", apart := false, narrowed := true }
def SessBytesUptoSaid : Prop := sessBytesUptoRow.holds Try.pinned (OpenSpec.upto sessBytesSpec)

/-- 'catenarylaw01.FixReads', WHERE WHAT IT READS IS OF BULK AT MOST 1048576: true; the input reads as it did. -/
def fixReadsUptoRow : OpenClaim := { program := "ytehfddafjemedaa", sum := "401898d65494fe13a3a202f87deb8a48f69a7b27d10f0f070688e322bac8ac12", func := "catenary/catenarylaw01.FixReads", spec := "fixReads", apart := false, narrowed := true }
def FixReadsUptoSaid : Prop := fixReadsUptoRow.holds Try.pinned (OpenSpec.upto fixReadsSpec)

/-- 'catenarylaw01.FixNil', WHERE WHAT IT READS IS OF BULK AT MOST 1048576: true; the input reads as it did. -/
def fixNilUptoRow : OpenClaim := { program := "ytehfddafjemedaa", sum := "401898d65494fe13a3a202f87deb8a48f69a7b27d10f0f070688e322bac8ac12", func := "catenary/catenarylaw01.FixNil", spec := "fixNil", apart := false, narrowed := true }
def FixNilUptoSaid : Prop := fixNilUptoRow.holds Try.pinned (OpenSpec.upto fixNilSpec)

end Rows
end Go.Proofs.Ytehfddafjemedaa
