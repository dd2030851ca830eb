/-
  No cell of these rows narrows 'for every input' (looked for: loops, veiled, ifaces, maps, wideKeys, modest, calm, conditions, laid).
  DERIVED. THE GIVEN ROWS OF THIS SEAT. 2 by the template 'for every input the law returns true; each argument reads behind the call as it read before'; 0 by the template 'total and deterministic' (their statements: YtfcjblnebaemgaaGreatTotals.lean).
  GIVEN WITH THE SEED: the statements are not yours to turn. If you find one false, say at which input.
  Laid BY PROGRAM, IN A SANDBOX (cutbox-rows.mjs): the forced cells as the released guide's own fill.sh prints them over the translation 6b227d212f9f32a9… (all of the seat's roots in one cut). By AI agents, Wed Nov 11 2026. No macro, syntax, notation, axiom, sorry.
-/
import Derived.Test.YtfcjblnebaemgaaGreatChecked
import GoSem.Claim
import GoSem.ClaimJoined
import GoSem.ClaimMapViews
import Derived.JoinedTies
import Derived.KernelRfl
namespace Go.Proofs.YtfcjblnebaemgaaGreat
/- THE CELL 'sum', in the pinned program and in every row, IS THE sha256 OF THE DUMP (.gsa) THAT YtfcjblnebaemgaaGreatProg.lean LOADS. Nothing in Lean hashes anything: it is a label: what it is worth is what the hold of that sum in a sandbox is worth. -/
noncomputable def Tryz.pinned : Pinned := { name := "ytfcjblnebaemgaagreat", sum := "6b227d212f9f32a9ca0a4371faa78f38e50551528e715383e0a063193e98cbd9", checked := Tryz.checked }
namespace Rows
def none {H : Type} : Left H := { results := [], args := [] }

/-- 'swashplatelaw04.WeatherOpens': WHATEVER THE INPUT: true; the input reads as it did. -/
def weatherOpensSpec : ChangeSpec := { name := "weatherOpens", fn := fun _ => fun
  | [d1, d2, d3] => { results := [.lit (.bool true)], args := [d1, d2, d3] }
  | _ => none }
def weatherOpensRow : OpenClaim := { program := "ytfcjblnebaemgaagreat", sum := "6b227d212f9f32a9ca0a4371faa78f38e50551528e715383e0a063193e98cbd9", func := "swashplate/swashplatelaw04.WeatherOpens", spec := "weatherOpens", unfollowed := true, recurses := true, apart := false }
def WeatherOpensSaid : Prop := weatherOpensRow.holds Tryz.pinned (OpenSpec.ofChange weatherOpensSpec)

/-- ITS FALSE NEIGHBOUR: 'it returns false'. Refute it at one input. -/
def weatherOpensWrong : ChangeSpec := { name := "weatherOpens", fn := fun _ => fun
  | [d1, d2, d3] => { results := [.lit (.bool false)], args := [d1, d2, d3] }
  | _ => none }
def WeatherOpensWrongFalsely : Prop := weatherOpensRow.holds Tryz.pinned (OpenSpec.ofChange weatherOpensWrong)

/-- 'swashplatelaw04.WeatherReals': WHATEVER THE INPUT: true; the input reads as it did. -/
def weatherRealsSpec : ChangeSpec := { name := "weatherReals", fn := fun _ => fun
  | [d1, d2, d3] => { results := [.lit (.bool true)], args := [d1, d2, d3] }
  | _ => none }
def weatherRealsRow : OpenClaim := { program := "ytfcjblnebaemgaagreat", sum := "6b227d212f9f32a9ca0a4371faa78f38e50551528e715383e0a063193e98cbd9", func := "swashplate/swashplatelaw04.WeatherReals", spec := "weatherReals", unfollowed := true, recurses := true, apart := false }
def WeatherRealsSaid : Prop := weatherRealsRow.holds Tryz.pinned (OpenSpec.ofChange weatherRealsSpec)

/-- ITS FALSE NEIGHBOUR: 'it returns false'. Refute it at one input. -/
def weatherRealsWrong : ChangeSpec := { name := "weatherReals", fn := fun _ => fun
  | [d1, d2, d3] => { results := [.lit (.bool false)], args := [d1, d2, d3] }
  | _ => none }
def WeatherRealsWrongFalsely : Prop := weatherRealsRow.holds Tryz.pinned (OpenSpec.ofChange weatherRealsWrong)

/- THE SECOND FORM. 'bulk': how many values and letters a reading holds, each counted each time it is reached (what is shared counts as often as it is met; a slice's spare places count too). A statement '..UptoSaid' is the law's where the arguments, and the package variables that the reading takes, are together of bulk at most 1048576: NARROWER than '..Said'. Prove '..Said' where nothing that the law and all that it calls make is longer than what came in: it says more and counts as full. Else prove '..UptoSaid'. A law counts once. -/
mutual
def uptoBulk {H : Type} : DataW H → Nat
  | .lit (.string bytes) => bytes.length + 1
  | .lit _ => 1
  | .nil => 1
  | .ptr d => uptoBulk d + 1
  | .slice elems spare => uptoBulkAll elems + uptoBulkAll spare + 1
  | .agg parts => uptoBulkAll parts + 1
  | .iface _ d => uptoBulk d + 1
  | .map entries => uptoBulkEntries entries + 1
  | .held _ => 1
def uptoBulkAll {H : Type} : List (DataW H) → Nat
  | [] => 0
  | d :: r => uptoBulk d + uptoBulkAll r
def uptoBulkEntries {H : Type} : List (Lit × DataW H) → Nat
  | [] => 0
  | x :: r => uptoBulkEntry x + uptoBulkEntries r
def uptoBulkEntry {H : Type} : Lit × DataW H → Nat
  | (.string bytes, d) => bytes.length + uptoBulk d + 1
  | (_, d) => uptoBulk d + 1
 end
def uptoSmall : (H : Type) → List (DataW H) → Bool := fun _ ds => decide (uptoBulkAll ds ≤ 1048576)
def OpenSpec.upto (s : _root_.Go.ChangeSpec) : _root_.Go.OpenSpec := { _root_.Go.OpenSpec.ofChange s with cond := some uptoSmall }

/-- 'swashplatelaw04.WeatherOpens', WHERE WHAT IT READS IS OF BULK AT MOST 1048576: true; the input reads as it did. -/
def weatherOpensUptoRow : OpenClaim := { program := "ytfcjblnebaemgaagreat", sum := "6b227d212f9f32a9ca0a4371faa78f38e50551528e715383e0a063193e98cbd9", func := "swashplate/swashplatelaw04.WeatherOpens", spec := "weatherOpens", unfollowed := true, recurses := true, apart := false, narrowed := true }
def WeatherOpensUptoSaid : Prop := weatherOpensUptoRow.holds Tryz.pinned (OpenSpec.upto weatherOpensSpec)

/-- 'swashplatelaw04.WeatherReals', WHERE WHAT IT READS IS OF BULK AT MOST 1048576: true; the input reads as it did. -/
def weatherRealsUptoRow : OpenClaim := { program := "ytfcjblnebaemgaagreat", sum := "6b227d212f9f32a9ca0a4371faa78f38e50551528e715383e0a063193e98cbd9", func := "swashplate/swashplatelaw04.WeatherReals", spec := "weatherReals", unfollowed := true, recurses := true, apart := false, narrowed := true }
def WeatherRealsUptoSaid : Prop := weatherRealsUptoRow.holds Tryz.pinned (OpenSpec.upto weatherRealsSpec)

end Rows
end Go.Proofs.YtfcjblnebaemgaaGreat
