/-
  No cell of these rows narrows 'for every input' (looked for: loops, veiled, ifaces, maps, wideKeys, modest, calm, conditions, laid).
  DERIVED. THE GIVEN ROWS OF THIS SEAT. 3 by the template 'for every input the law returns true; each argument reads behind the call as it read before'; 0 by the template 'total and deterministic' (their statements: YtlabfpjlckdmfaaGreatTotals.lean).
  GIVEN WITH THE SEED: the statements are not yours to turn. If you find one false, say at which input.
  Laid BY PROGRAM, IN A SANDBOX (cutbox-rows.mjs): the forced cells as the released guide's own fill.sh prints them over the translation 7b8f9cb13718fdcf… (all of the seat's roots in one cut). By AI agents, Wed Nov 11 2026. No macro, syntax, notation, axiom, sorry.
-/
import Derived.Test.YtlabfpjlckdmfaaGreatChecked
import GoSem.Claim
import GoSem.ClaimJoined
import GoSem.ClaimMapViews
import Derived.JoinedTies
import Derived.KernelRfl
namespace Go.Proofs.YtlabfpjlckdmfaaGreat
/- THE CELL 'sum', in the pinned program and in every row, IS THE sha256 OF THE DUMP (.gsa) THAT YtlabfpjlckdmfaaGreatProg.lean LOADS. Nothing in Lean hashes anything: it is a label: what it is worth is what the hold of that sum in a sandbox is worth. -/
noncomputable def Tryz.pinned : Pinned := { name := "ytlabfpjlckdmfaagreat", sum := "7b8f9cb13718fdcf5ac0b554018e9b2e0e7088d0a423d36539c6bcd38a3d22d5", checked := Tryz.checked }
namespace Rows
def none {H : Type} : Left H := { results := [], args := [] }

/-- 'swashplatelaw05.RouteTriangles': WHATEVER THE INPUT: true; the input reads as it did. -/
def routeTrianglesSpec : ChangeSpec := { name := "routeTriangles", fn := fun _ => fun
  | [d1, d2] => { results := [.lit (.bool true)], args := [d1, d2] }
  | _ => none }
def routeTrianglesRow : OpenClaim := { program := "ytlabfpjlckdmfaagreat", sum := "7b8f9cb13718fdcf5ac0b554018e9b2e0e7088d0a423d36539c6bcd38a3d22d5", func := "swashplate/swashplatelaw05.RouteTriangles", spec := "routeTriangles", unfollowed := true, recurses := true, apart := false }
def RouteTrianglesSaid : Prop := routeTrianglesRow.holds Tryz.pinned (OpenSpec.ofChange routeTrianglesSpec)

/-- ITS FALSE NEIGHBOUR: 'it returns false'. Refute it at one input. -/
def routeTrianglesWrong : ChangeSpec := { name := "routeTriangles", fn := fun _ => fun
  | [d1, d2] => { results := [.lit (.bool false)], args := [d1, d2] }
  | _ => none }
def RouteTrianglesWrongFalsely : Prop := routeTrianglesRow.holds Tryz.pinned (OpenSpec.ofChange routeTrianglesWrong)

/-- 'swashplatelaw05.RouteRoutes': WHATEVER THE INPUT: true; the input reads as it did. -/
def routeRoutesSpec : ChangeSpec := { name := "routeRoutes", fn := fun _ => fun
  | [d1, d2, d3] => { results := [.lit (.bool true)], args := [d1, d2, d3] }
  | _ => none }
def routeRoutesRow : OpenClaim := { program := "ytlabfpjlckdmfaagreat", sum := "7b8f9cb13718fdcf5ac0b554018e9b2e0e7088d0a423d36539c6bcd38a3d22d5", func := "swashplate/swashplatelaw05.RouteRoutes", spec := "routeRoutes", unfollowed := true, recurses := true, apart := false }
def RouteRoutesSaid : Prop := routeRoutesRow.holds Tryz.pinned (OpenSpec.ofChange routeRoutesSpec)

/-- ITS FALSE NEIGHBOUR: 'it returns false'. Refute it at one input. -/
def routeRoutesWrong : ChangeSpec := { name := "routeRoutes", fn := fun _ => fun
  | [d1, d2, d3] => { results := [.lit (.bool false)], args := [d1, d2, d3] }
  | _ => none }
def RouteRoutesWrongFalsely : Prop := routeRoutesRow.holds Tryz.pinned (OpenSpec.ofChange routeRoutesWrong)

/-- 'swashplatelaw05.RouteShort': WHATEVER THE INPUT: true; the input reads as it did. -/
def routeShortSpec : ChangeSpec := { name := "routeShort", fn := fun _ => fun
  | [d1, d2, d3] => { results := [.lit (.bool true)], args := [d1, d2, d3] }
  | _ => none }
def routeShortRow : OpenClaim := { program := "ytlabfpjlckdmfaagreat", sum := "7b8f9cb13718fdcf5ac0b554018e9b2e0e7088d0a423d36539c6bcd38a3d22d5", func := "swashplate/swashplatelaw05.RouteShort", spec := "routeShort", unfollowed := true, recurses := true, apart := false }
def RouteShortSaid : Prop := routeShortRow.holds Tryz.pinned (OpenSpec.ofChange routeShortSpec)

/-- ITS FALSE NEIGHBOUR: 'it returns false'. Refute it at one input. -/
def routeShortWrong : ChangeSpec := { name := "routeShort", fn := fun _ => fun
  | [d1, d2, d3] => { results := [.lit (.bool false)], args := [d1, d2, d3] }
  | _ => none }
def RouteShortWrongFalsely : Prop := routeShortRow.holds Tryz.pinned (OpenSpec.ofChange routeShortWrong)

/- THE SECOND FORM. 'bulk': how many values and letters a reading holds, each counted each time it is reached (what is shared counts as often as it is met; a slice's spare places count too). A statement '..UptoSaid' is the law's where the arguments, and the package variables that the reading takes, are together of bulk at most 1048576: NARROWER than '..Said'. Prove '..Said' where nothing that the law and all that it calls make is longer than what came in: it says more and counts as full. Else prove '..UptoSaid'. A law counts once. -/
mutual
def uptoBulk {H : Type} : DataW H → Nat
  | .lit (.string bytes) => bytes.length + 1
  | .lit _ => 1
  | .nil => 1
  | .ptr d => uptoBulk d + 1
  | .slice elems spare => uptoBulkAll elems + uptoBulkAll spare + 1
  | .agg parts => uptoBulkAll parts + 1
  | .iface _ d => uptoBulk d + 1
  | .map entries => uptoBulkEntries entries + 1
  | .held _ => 1
def uptoBulkAll {H : Type} : List (DataW H) → Nat
  | [] => 0
  | d :: r => uptoBulk d + uptoBulkAll r
def uptoBulkEntries {H : Type} : List (Lit × DataW H) → Nat
  | [] => 0
  | x :: r => uptoBulkEntry x + uptoBulkEntries r
def uptoBulkEntry {H : Type} : Lit × DataW H → Nat
  | (.string bytes, d) => bytes.length + uptoBulk d + 1
  | (_, d) => uptoBulk d + 1
 end
def uptoSmall : (H : Type) → List (DataW H) → Bool := fun _ ds => decide (uptoBulkAll ds ≤ 1048576)
def OpenSpec.upto (s : _root_.Go.ChangeSpec) : _root_.Go.OpenSpec := { _root_.Go.OpenSpec.ofChange s with cond := some uptoSmall }

/-- 'swashplatelaw05.RouteTriangles', WHERE WHAT IT READS IS OF BULK AT MOST 1048576: true; the input reads as it did. -/
def routeTrianglesUptoRow : OpenClaim := { program := "ytlabfpjlckdmfaagreat", sum := "7b8f9cb13718fdcf5ac0b554018e9b2e0e7088d0a423d36539c6bcd38a3d22d5", func := "swashplate/swashplatelaw05.RouteTriangles", spec := "routeTriangles", unfollowed := true, recurses := true, apart := false, narrowed := true }
def RouteTrianglesUptoSaid : Prop := routeTrianglesUptoRow.holds Tryz.pinned (OpenSpec.upto routeTrianglesSpec)

/-- 'swashplatelaw05.RouteRoutes', WHERE WHAT IT READS IS OF BULK AT MOST 1048576: true; the input reads as it did. -/
def routeRoutesUptoRow : OpenClaim := { program := "ytlabfpjlckdmfaagreat", sum := "7b8f9cb13718fdcf5ac0b554018e9b2e0e7088d0a423d36539c6bcd38a3d22d5", func := "swashplate/swashplatelaw05.RouteRoutes", spec := "routeRoutes", unfollowed := true, recurses := true, apart := false, narrowed := true }
def RouteRoutesUptoSaid : Prop := routeRoutesUptoRow.holds Tryz.pinned (OpenSpec.upto routeRoutesSpec)

/-- 'swashplatelaw05.RouteShort', WHERE WHAT IT READS IS OF BULK AT MOST 1048576: true; the input reads as it did. -/
def routeShortUptoRow : OpenClaim := { program := "ytlabfpjlckdmfaagreat", sum := "7b8f9cb13718fdcf5ac0b554018e9b2e0e7088d0a423d36539c6bcd38a3d22d5", func := "swashplate/swashplatelaw05.RouteShort", spec := "routeShort", unfollowed := true, recurses := true, apart := false, narrowed := true }
def RouteShortUptoSaid : Prop := routeShortUptoRow.holds Tryz.pinned (OpenSpec.upto routeShortSpec)

end Rows
end Go.Proofs.YtlabfpjlckdmfaaGreat
