/-
  No cell of these rows narrows 'for every input' (looked for: loops, veiled, ifaces, maps, wideKeys, modest, calm, conditions, laid).
  DERIVED. THE GIVEN ROWS OF THIS SEAT. 5 by the template 'for every input the law returns true; each argument reads behind the call as it read before'; 0 by the template 'total and deterministic' (their statements: YtafkifjebimdaaaGreatTotals.lean).
  GIVEN WITH THE SEED: the statements are not yours to turn. If you find one false, say at which input.
  Laid BY PROGRAM, IN A SANDBOX (cutbox-rows.mjs): the forced cells as the released guide's own fill.sh prints them over the translation e209d9926a730b8c… (all of the seat's roots in one cut). By AI agents, Wed Nov 11 2026. No macro, syntax, notation, axiom, sorry.
-/
import Derived.Test.YtafkifjebimdaaaGreatChecked
import GoSem.Claim
import GoSem.ClaimJoined
import GoSem.ClaimMapViews
import Derived.JoinedTies
import Derived.KernelRfl
namespace Go.Proofs.YtafkifjebimdaaaGreat
/- THE CELL 'sum', in the pinned program and in every row, IS THE sha256 OF THE DUMP (.gsa) THAT YtafkifjebimdaaaGreatProg.lean LOADS. Nothing in Lean hashes anything: it is a label: what it is worth is what the hold of that sum in a sandbox is worth. -/
noncomputable def Tryz.pinned : Pinned := { name := "ytafkifjebimdaaagreat", sum := "e209d9926a730b8cd0237d733a2f1c3f0a0e44e2bff6cac2936f58e2f8f42d70", checked := Tryz.checked }
namespace Rows
def none {H : Type} : Left H := { results := [], args := [] }

/-- 'swashplatelaw06.DeckSmaller': WHATEVER THE INPUT: true; the input reads as it did. -/
def deckSmallerSpec : ChangeSpec := { name := "deckSmaller", fn := fun _ => fun
  | [d1, d2, d3] => { results := [.lit (.bool true)], args := [d1, d2, d3] }
  | _ => none }
def deckSmallerRow : OpenClaim := { program := "ytafkifjebimdaaagreat", sum := "e209d9926a730b8cd0237d733a2f1c3f0a0e44e2bff6cac2936f58e2f8f42d70", func := "swashplate/swashplatelaw06.DeckSmaller", spec := "deckSmaller", unfollowed := true, recurses := true, apart := false }
def DeckSmallerSaid : Prop := deckSmallerRow.holds Tryz.pinned (OpenSpec.ofChange deckSmallerSpec)

/-- ITS FALSE NEIGHBOUR: 'it returns false'. Refute it at one input. -/
def deckSmallerWrong : ChangeSpec := { name := "deckSmaller", fn := fun _ => fun
  | [d1, d2, d3] => { results := [.lit (.bool false)], args := [d1, d2, d3] }
  | _ => none }
def DeckSmallerWrongFalsely : Prop := deckSmallerRow.holds Tryz.pinned (OpenSpec.ofChange deckSmallerWrong)

/-- 'swashplatelaw06.DeckParts': WHATEVER THE INPUT: true; the input reads as it did. -/
def deckPartsSpec : ChangeSpec := { name := "deckParts", fn := fun _ => fun
  | [d1, d2, d3] => { results := [.lit (.bool true)], args := [d1, d2, d3] }
  | _ => none }
def deckPartsRow : OpenClaim := { program := "ytafkifjebimdaaagreat", sum := "e209d9926a730b8cd0237d733a2f1c3f0a0e44e2bff6cac2936f58e2f8f42d70", func := "swashplate/swashplatelaw06.DeckParts", spec := "deckParts", unfollowed := true, recurses := true, apart := false }
def DeckPartsSaid : Prop := deckPartsRow.holds Tryz.pinned (OpenSpec.ofChange deckPartsSpec)

/-- ITS FALSE NEIGHBOUR: 'it returns false'. Refute it at one input. -/
def deckPartsWrong : ChangeSpec := { name := "deckParts", fn := fun _ => fun
  | [d1, d2, d3] => { results := [.lit (.bool false)], args := [d1, d2, d3] }
  | _ => none }
def DeckPartsWrongFalsely : Prop := deckPartsRow.holds Tryz.pinned (OpenSpec.ofChange deckPartsWrong)

/-- 'swashplatelaw06.DeckAgrees': WHATEVER THE INPUT: true; the input reads as it did. -/
def deckAgreesSpec : ChangeSpec := { name := "deckAgrees", fn := fun _ => fun
  | [d1, d2, d3] => { results := [.lit (.bool true)], args := [d1, d2, d3] }
  | _ => none }
def deckAgreesRow : OpenClaim := { program := "ytafkifjebimdaaagreat", sum := "e209d9926a730b8cd0237d733a2f1c3f0a0e44e2bff6cac2936f58e2f8f42d70", func := "swashplate/swashplatelaw06.DeckAgrees", spec := "deckAgrees", unfollowed := true, recurses := true, apart := false }
def DeckAgreesSaid : Prop := deckAgreesRow.holds Tryz.pinned (OpenSpec.ofChange deckAgreesSpec)

/-- ITS FALSE NEIGHBOUR: 'it returns false'. Refute it at one input. -/
def deckAgreesWrong : ChangeSpec := { name := "deckAgrees", fn := fun _ => fun
  | [d1, d2, d3] => { results := [.lit (.bool false)], args := [d1, d2, d3] }
  | _ => none }
def DeckAgreesWrongFalsely : Prop := deckAgreesRow.holds Tryz.pinned (OpenSpec.ofChange deckAgreesWrong)

/-- 'swashplatelaw06.DeckEvery': WHATEVER THE INPUT: true; the input reads as it did. -/
def deckEverySpec : ChangeSpec := { name := "deckEvery", fn := fun _ => fun
  | [d1, d2, d3] => { results := [.lit (.bool true)], args := [d1, d2, d3] }
  | _ => none }
def deckEveryRow : OpenClaim := { program := "ytafkifjebimdaaagreat", sum := "e209d9926a730b8cd0237d733a2f1c3f0a0e44e2bff6cac2936f58e2f8f42d70", func := "swashplate/swashplatelaw06.DeckEvery", spec := "deckEvery", unfollowed := true, recurses := true, apart := false }
def DeckEverySaid : Prop := deckEveryRow.holds Tryz.pinned (OpenSpec.ofChange deckEverySpec)

/-- ITS FALSE NEIGHBOUR: 'it returns false'. Refute it at one input. -/
def deckEveryWrong : ChangeSpec := { name := "deckEvery", fn := fun _ => fun
  | [d1, d2, d3] => { results := [.lit (.bool false)], args := [d1, d2, d3] }
  | _ => none }
def DeckEveryWrongFalsely : Prop := deckEveryRow.holds Tryz.pinned (OpenSpec.ofChange deckEveryWrong)

/-- 'swashplatelaw06.DeckOne': WHATEVER THE INPUT: true; the input reads as it did. -/
def deckOneSpec : ChangeSpec := { name := "deckOne", fn := fun _ => fun
  | [d1, d2, d3] => { results := [.lit (.bool true)], args := [d1, d2, d3] }
  | _ => none }
def deckOneRow : OpenClaim := { program := "ytafkifjebimdaaagreat", sum := "e209d9926a730b8cd0237d733a2f1c3f0a0e44e2bff6cac2936f58e2f8f42d70", func := "swashplate/swashplatelaw06.DeckOne", spec := "deckOne", unfollowed := true, recurses := true, apart := false }
def DeckOneSaid : Prop := deckOneRow.holds Tryz.pinned (OpenSpec.ofChange deckOneSpec)

/-- ITS FALSE NEIGHBOUR: 'it returns false'. Refute it at one input. -/
def deckOneWrong : ChangeSpec := { name := "deckOne", fn := fun _ => fun
  | [d1, d2, d3] => { results := [.lit (.bool false)], args := [d1, d2, d3] }
  | _ => none }
def DeckOneWrongFalsely : Prop := deckOneRow.holds Tryz.pinned (OpenSpec.ofChange deckOneWrong)

/- THE SECOND FORM. 'bulk': how many values and letters a reading holds, each counted each time it is reached (what is shared counts as often as it is met; a slice's spare places count too). A statement '..UptoSaid' is the law's where the arguments, and the package variables that the reading takes, are together of bulk at most 1048576: NARROWER than '..Said'. Prove '..Said' where nothing that the law and all that it calls make is longer than what came in: it says more and counts as full. Else prove '..UptoSaid'. A law counts once. -/
mutual
def uptoBulk {H : Type} : DataW H → Nat
  | .lit (.string bytes) => bytes.length + 1
  | .lit _ => 1
  | .nil => 1
  | .ptr d => uptoBulk d + 1
  | .slice elems spare => uptoBulkAll elems + uptoBulkAll spare + 1
  | .agg parts => uptoBulkAll parts + 1
  | .iface _ d => uptoBulk d + 1
  | .map entries => uptoBulkEntries entries + 1
  | .held _ => 1
def uptoBulkAll {H : Type} : List (DataW H) → Nat
  | [] => 0
  | d :: r => uptoBulk d + uptoBulkAll r
def uptoBulkEntries {H : Type} : List (Lit × DataW H) → Nat
  | [] => 0
  | x :: r => uptoBulkEntry x + uptoBulkEntries r
def uptoBulkEntry {H : Type} : Lit × DataW H → Nat
  | (.string bytes, d) => bytes.length + uptoBulk d + 1
  | (_, d) => uptoBulk d + 1
 end
def uptoSmall : (H : Type) → List (DataW H) → Bool := fun _ ds => decide (uptoBulkAll ds ≤ 1048576)
def OpenSpec.upto (s : _root_.Go.ChangeSpec) : _root_.Go.OpenSpec := { _root_.Go.OpenSpec.ofChange s with cond := some uptoSmall }

/-- 'swashplatelaw06.DeckSmaller', WHERE WHAT IT READS IS OF BULK AT MOST 1048576: true; the input reads as it did. -/
def deckSmallerUptoRow : OpenClaim := { program := "ytafkifjebimdaaagreat", sum := "e209d9926a730b8cd0237d733a2f1c3f0a0e44e2bff6cac2936f58e2f8f42d70", func := "swashplate/swashplatelaw06.DeckSmaller", spec := "deckSmaller", unfollowed := true, recurses := true, apart := false, narrowed := true }
def DeckSmallerUptoSaid : Prop := deckSmallerUptoRow.holds Tryz.pinned (OpenSpec.upto deckSmallerSpec)

/-- 'swashplatelaw06.DeckParts', WHERE WHAT IT READS IS OF BULK AT MOST 1048576: true; the input reads as it did. -/
def deckPartsUptoRow : OpenClaim := { program := "ytafkifjebimdaaagreat", sum := "e209d9926a730b8cd0237d733a2f1c3f0a0e44e2bff6cac2936f58e2f8f42d70", func := "swashplate/swashplatelaw06.DeckParts", spec := "deckParts", unfollowed := true, recurses := true, apart := false, narrowed := true }
def DeckPartsUptoSaid : Prop := deckPartsUptoRow.holds Tryz.pinned (OpenSpec.upto deckPartsSpec)

/-- 'swashplatelaw06.DeckAgrees', WHERE WHAT IT READS IS OF BULK AT MOST 1048576: true; the input reads as it did. -/
def deckAgreesUptoRow : OpenClaim := { program := "ytafkifjebimdaaagreat", sum := "e209d9926a730b8cd0237d733a2f1c3f0a0e44e2bff6cac2936f58e2f8f42d70", func := "swashplate/swashplatelaw06.DeckAgrees", spec := "deckAgrees", unfollowed := true, recurses := true, apart := false, narrowed := true }
def DeckAgreesUptoSaid : Prop := deckAgreesUptoRow.holds Tryz.pinned (OpenSpec.upto deckAgreesSpec)

/-- 'swashplatelaw06.DeckEvery', WHERE WHAT IT READS IS OF BULK AT MOST 1048576: true; the input reads as it did. -/
def deckEveryUptoRow : OpenClaim := { program := "ytafkifjebimdaaagreat", sum := "e209d9926a730b8cd0237d733a2f1c3f0a0e44e2bff6cac2936f58e2f8f42d70", func := "swashplate/swashplatelaw06.DeckEvery", spec := "deckEvery", unfollowed := true, recurses := true, apart := false, narrowed := true }
def DeckEveryUptoSaid : Prop := deckEveryUptoRow.holds Tryz.pinned (OpenSpec.upto deckEverySpec)

/-- 'swashplatelaw06.DeckOne', WHERE WHAT IT READS IS OF BULK AT MOST 1048576: true; the input reads as it did. -/
def deckOneUptoRow : OpenClaim := { program := "ytafkifjebimdaaagreat", sum := "e209d9926a730b8cd0237d733a2f1c3f0a0e44e2bff6cac2936f58e2f8f42d70", func := "swashplate/swashplatelaw06.DeckOne", spec := "deckOne", unfollowed := true, recurses := true, apart := false, narrowed := true }
def DeckOneUptoSaid : Prop := deckOneUptoRow.holds Tryz.pinned (OpenSpec.upto deckOneSpec)

end Rows
end Go.Proofs.YtafkifjebimdaaaGreat
