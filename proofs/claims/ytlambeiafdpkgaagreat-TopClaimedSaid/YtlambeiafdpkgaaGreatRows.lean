/-
  No cell of these rows narrows 'for every input' (looked for: loops, veiled, ifaces, maps, wideKeys, modest, calm, conditions, laid).
  DERIVED. THE GIVEN ROWS OF THIS SEAT. 2 by the template 'for every input the law returns true; each argument reads behind the call as it read before'; 0 by the template 'total and deterministic' (their statements: YtlambeiafdpkgaaGreatTotals.lean).
  GIVEN WITH THE SEED: the statements are not yours to turn. If you find one false, say at which input.
  Laid BY PROGRAM, IN A SANDBOX (cutbox-rows.mjs): the forced cells as the released guide's own fill.sh prints them over the translation 8c857223392d6f37… (all of the seat's roots in one cut). By AI agents, Wed Nov 11 2026. No macro, syntax, notation, axiom, sorry.
-/
import Derived.Test.YtlambeiafdpkgaaGreatChecked
import GoSem.Claim
import GoSem.ClaimJoined
import GoSem.ClaimMapViews
import Derived.JoinedTies
import Derived.KernelRfl
namespace Go.Proofs.YtlambeiafdpkgaaGreat
/- THE CELL 'sum', in the pinned program and in every row, IS THE sha256 OF THE DUMP (.gsa) THAT YtlambeiafdpkgaaGreatProg.lean LOADS. Nothing in Lean hashes anything: it is a label: what it is worth is what the hold of that sum in a sandbox is worth. -/
noncomputable def Tryz.pinned : Pinned := { name := "ytlambeiafdpkgaagreat", sum := "8c857223392d6f373f99bc5cd7bb2da91392c0c6c4380bf1757d521b1fcd8053", checked := Tryz.checked }
namespace Rows
def none {H : Type} : Left H := { results := [], args := [] }

/-- 'swashplatetop.TopClaimed': WHATEVER THE INPUT: true; the input reads as it did. -/
def topClaimedSpec : ChangeSpec := { name := "topClaimed", fn := fun _ => fun
  | [d1, d2, d3] => { results := [.lit (.bool true)], args := [d1, d2, d3] }
  | _ => none }
def topClaimedRow : OpenClaim := { program := "ytlambeiafdpkgaagreat", sum := "8c857223392d6f373f99bc5cd7bb2da91392c0c6c4380bf1757d521b1fcd8053", func := "swashplate/swashplatetop.TopClaimed", spec := "topClaimed", unfollowed := true, recurses := true, apart := false }
def TopClaimedSaid : Prop := topClaimedRow.holds Tryz.pinned (OpenSpec.ofChange topClaimedSpec)

/-- ITS FALSE NEIGHBOUR: 'it returns false'. Refute it at one input. -/
def topClaimedWrong : ChangeSpec := { name := "topClaimed", fn := fun _ => fun
  | [d1, d2, d3] => { results := [.lit (.bool false)], args := [d1, d2, d3] }
  | _ => none }
def TopClaimedWrongFalsely : Prop := topClaimedRow.holds Tryz.pinned (OpenSpec.ofChange topClaimedWrong)

/-- 'swashplatetop.TopArrives': WHATEVER THE INPUT: true; the input reads as it did. -/
def topArrivesSpec : ChangeSpec := { name := "topArrives", fn := fun _ => fun
  | [d1, d2, d3] => { results := [.lit (.bool true)], args := [d1, d2, d3] }
  | _ => none }
def topArrivesRow : OpenClaim := { program := "ytlambeiafdpkgaagreat", sum := "8c857223392d6f373f99bc5cd7bb2da91392c0c6c4380bf1757d521b1fcd8053", func := "swashplate/swashplatetop.TopArrives", spec := "topArrives", unfollowed := true, recurses := true, apart := false }
def TopArrivesSaid : Prop := topArrivesRow.holds Tryz.pinned (OpenSpec.ofChange topArrivesSpec)

/-- ITS FALSE NEIGHBOUR: 'it returns false'. Refute it at one input. -/
def topArrivesWrong : ChangeSpec := { name := "topArrives", fn := fun _ => fun
  | [d1, d2, d3] => { results := [.lit (.bool false)], args := [d1, d2, d3] }
  | _ => none }
def TopArrivesWrongFalsely : Prop := topArrivesRow.holds Tryz.pinned (OpenSpec.ofChange topArrivesWrong)

/- THE SECOND FORM. 'bulk': how many values and letters a reading holds, each counted each time it is reached (what is shared counts as often as it is met; a slice's spare places count too). A statement '..UptoSaid' is the law's where the arguments, and the package variables that the reading takes, are together of bulk at most 1048576: NARROWER than '..Said'. Prove '..Said' where nothing that the law and all that it calls make is longer than what came in: it says more and counts as full. Else prove '..UptoSaid'. A law counts once. -/
mutual
def uptoBulk {H : Type} : DataW H → Nat
  | .lit (.string bytes) => bytes.length + 1
  | .lit _ => 1
  | .nil => 1
  | .ptr d => uptoBulk d + 1
  | .slice elems spare => uptoBulkAll elems + uptoBulkAll spare + 1
  | .agg parts => uptoBulkAll parts + 1
  | .iface _ d => uptoBulk d + 1
  | .map entries => uptoBulkEntries entries + 1
  | .held _ => 1
def uptoBulkAll {H : Type} : List (DataW H) → Nat
  | [] => 0
  | d :: r => uptoBulk d + uptoBulkAll r
def uptoBulkEntries {H : Type} : List (Lit × DataW H) → Nat
  | [] => 0
  | x :: r => uptoBulkEntry x + uptoBulkEntries r
def uptoBulkEntry {H : Type} : Lit × DataW H → Nat
  | (.string bytes, d) => bytes.length + uptoBulk d + 1
  | (_, d) => uptoBulk d + 1
 end
def uptoSmall : (H : Type) → List (DataW H) → Bool := fun _ ds => decide (uptoBulkAll ds ≤ 1048576)
def OpenSpec.upto (s : _root_.Go.ChangeSpec) : _root_.Go.OpenSpec := { _root_.Go.OpenSpec.ofChange s with cond := some uptoSmall }

/-- 'swashplatetop.TopClaimed', WHERE WHAT IT READS IS OF BULK AT MOST 1048576: true; the input reads as it did. -/
def topClaimedUptoRow : OpenClaim := { program := "ytlambeiafdpkgaagreat", sum := "8c857223392d6f373f99bc5cd7bb2da91392c0c6c4380bf1757d521b1fcd8053", func := "swashplate/swashplatetop.TopClaimed", spec := "topClaimed", unfollowed := true, recurses := true, apart := false, narrowed := true }
def TopClaimedUptoSaid : Prop := topClaimedUptoRow.holds Tryz.pinned (OpenSpec.upto topClaimedSpec)

/-- 'swashplatetop.TopArrives', WHERE WHAT IT READS IS OF BULK AT MOST 1048576: true; the input reads as it did. -/
def topArrivesUptoRow : OpenClaim := { program := "ytlambeiafdpkgaagreat", sum := "8c857223392d6f373f99bc5cd7bb2da91392c0c6c4380bf1757d521b1fcd8053", func := "swashplate/swashplatetop.TopArrives", spec := "topArrives", unfollowed := true, recurses := true, apart := false, narrowed := true }
def TopArrivesUptoSaid : Prop := topArrivesUptoRow.holds Tryz.pinned (OpenSpec.upto topArrivesSpec)

end Rows
end Go.Proofs.YtlambeiafdpkgaaGreat
