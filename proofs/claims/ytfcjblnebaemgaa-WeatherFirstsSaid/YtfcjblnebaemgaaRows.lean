/-
  No cell of these rows narrows 'for every input' (looked for: loops, veiled, ifaces, maps, wideKeys, modest, calm, conditions, laid).
  DERIVED. THE GIVEN ROWS OF THIS SEAT. 5 by the template 'for every input the law returns true; each argument reads behind the call as it read before'; 0 by the template 'total and deterministic' (their statements: YtfcjblnebaemgaaTotals.lean).
  GIVEN WITH THE SEED: the statements are not yours to turn. If you find one false, say at which input.
  Laid BY PROGRAM, IN A SANDBOX (cutbox-rows.mjs): the forced cells as the released guide's own fill.sh prints them over the translation e564bc284a0eb7b3… (all of the seat's roots in one cut). By AI agents, Wed Nov 11 2026. No macro, syntax, notation, axiom, sorry.
-/
import Derived.Test.YtfcjblnebaemgaaChecked
import GoSem.Claim
import GoSem.ClaimJoined
import GoSem.ClaimMapViews
import Derived.JoinedTies
import Derived.KernelRfl
namespace Go.Proofs.Ytfcjblnebaemgaa
/- THE CELL 'sum', in the pinned program and in every row, IS THE sha256 OF THE DUMP (.gsa) THAT YtfcjblnebaemgaaProg.lean LOADS. Nothing in Lean hashes anything: it is a label: what it is worth is what the hold of that sum in a sandbox is worth. -/
noncomputable def Try.pinned : Pinned := { name := "ytfcjblnebaemgaa", sum := "e564bc284a0eb7b3bbd9973d86262b30e61d18156a33ae32852da4e2bdd548f5", checked := Try.checked }
namespace Rows
def none {H : Type} : Left H := { results := [], args := [] }

/-- 'swashplatelaw04.WeatherFirsts': WHATEVER THE INPUT: true; the input reads as it did. -/
def weatherFirstsSpec : ChangeSpec := { name := "weatherFirsts", fn := fun _ => fun
  | [d1, d2, d3] => { results := [.lit (.bool true)], args := [d1, d2, d3] }
  | _ => none }
def weatherFirstsRow : OpenClaim := { program := "ytfcjblnebaemgaa", sum := "e564bc284a0eb7b3bbd9973d86262b30e61d18156a33ae32852da4e2bdd548f5", func := "swashplate/swashplatelaw04.WeatherFirsts", spec := "weatherFirsts", unfollowed := true, recurses := true, apart := false }
def WeatherFirstsSaid : Prop := weatherFirstsRow.holds Try.pinned (OpenSpec.ofChange weatherFirstsSpec)

/-- ITS FALSE NEIGHBOUR: 'it returns false'. Refute it at one input. -/
def weatherFirstsWrong : ChangeSpec := { name := "weatherFirsts", fn := fun _ => fun
  | [d1, d2, d3] => { results := [.lit (.bool false)], args := [d1, d2, d3] }
  | _ => none }
def WeatherFirstsWrongFalsely : Prop := weatherFirstsRow.holds Try.pinned (OpenSpec.ofChange weatherFirstsWrong)

/-- 'swashplatelaw04.WeatherWeaker': WHATEVER THE INPUT: true; the input reads as it did. -/
def weatherWeakerSpec : ChangeSpec := { name := "weatherWeaker", fn := fun _ => fun
  | [d1, d2, d3] => { results := [.lit (.bool true)], args := [d1, d2, d3] }
  | _ => none }
def weatherWeakerRow : OpenClaim := { program := "ytfcjblnebaemgaa", sum := "e564bc284a0eb7b3bbd9973d86262b30e61d18156a33ae32852da4e2bdd548f5", func := "swashplate/swashplatelaw04.WeatherWeaker", spec := "weatherWeaker", unfollowed := true, recurses := true, apart := false }
def WeatherWeakerSaid : Prop := weatherWeakerRow.holds Try.pinned (OpenSpec.ofChange weatherWeakerSpec)

/-- ITS FALSE NEIGHBOUR: 'it returns false'. Refute it at one input. -/
def weatherWeakerWrong : ChangeSpec := { name := "weatherWeaker", fn := fun _ => fun
  | [d1, d2, d3] => { results := [.lit (.bool false)], args := [d1, d2, d3] }
  | _ => none }
def WeatherWeakerWrongFalsely : Prop := weatherWeakerRow.holds Try.pinned (OpenSpec.ofChange weatherWeakerWrong)

/-- 'swashplatelaw04.WeatherSeen': WHATEVER THE INPUT: true; the input reads as it did. -/
def weatherSeenSpec : ChangeSpec := { name := "weatherSeen", fn := fun _ => fun
  | [d1, d2, d3] => { results := [.lit (.bool true)], args := [d1, d2, d3] }
  | _ => none }
def weatherSeenRow : OpenClaim := { program := "ytfcjblnebaemgaa", sum := "e564bc284a0eb7b3bbd9973d86262b30e61d18156a33ae32852da4e2bdd548f5", func := "swashplate/swashplatelaw04.WeatherSeen", spec := "weatherSeen", unfollowed := true, recurses := true, apart := false }
def WeatherSeenSaid : Prop := weatherSeenRow.holds Try.pinned (OpenSpec.ofChange weatherSeenSpec)

/-- ITS FALSE NEIGHBOUR: 'it returns false'. Refute it at one input. -/
def weatherSeenWrong : ChangeSpec := { name := "weatherSeen", fn := fun _ => fun
  | [d1, d2, d3] => { results := [.lit (.bool false)], args := [d1, d2, d3] }
  | _ => none }
def WeatherSeenWrongFalsely : Prop := weatherSeenRow.holds Try.pinned (OpenSpec.ofChange weatherSeenWrong)

/-- 'swashplatelaw04.WeatherCuts': WHATEVER THE INPUT: true; the input reads as it did. -/
def weatherCutsSpec : ChangeSpec := { name := "weatherCuts", fn := fun _ => fun
  | [d1, d2, d3] => { results := [.lit (.bool true)], args := [d1, d2, d3] }
  | _ => none }
def weatherCutsRow : OpenClaim := { program := "ytfcjblnebaemgaa", sum := "e564bc284a0eb7b3bbd9973d86262b30e61d18156a33ae32852da4e2bdd548f5", func := "swashplate/swashplatelaw04.WeatherCuts", spec := "weatherCuts", unfollowed := true, recurses := true, apart := false }
def WeatherCutsSaid : Prop := weatherCutsRow.holds Try.pinned (OpenSpec.ofChange weatherCutsSpec)

/-- ITS FALSE NEIGHBOUR: 'it returns false'. Refute it at one input. -/
def weatherCutsWrong : ChangeSpec := { name := "weatherCuts", fn := fun _ => fun
  | [d1, d2, d3] => { results := [.lit (.bool false)], args := [d1, d2, d3] }
  | _ => none }
def WeatherCutsWrongFalsely : Prop := weatherCutsRow.holds Try.pinned (OpenSpec.ofChange weatherCutsWrong)

/-- 'swashplatelaw04.WeatherEvery': WHATEVER THE INPUT: true; the input reads as it did. -/
def weatherEverySpec : ChangeSpec := { name := "weatherEvery", fn := fun _ => fun
  | [d1, d2, d3] => { results := [.lit (.bool true)], args := [d1, d2, d3] }
  | _ => none }
def weatherEveryRow : OpenClaim := { program := "ytfcjblnebaemgaa", sum := "e564bc284a0eb7b3bbd9973d86262b30e61d18156a33ae32852da4e2bdd548f5", func := "swashplate/swashplatelaw04.WeatherEvery", spec := "weatherEvery", unfollowed := true, recurses := true, apart := false }
def WeatherEverySaid : Prop := weatherEveryRow.holds Try.pinned (OpenSpec.ofChange weatherEverySpec)

/-- ITS FALSE NEIGHBOUR: 'it returns false'. Refute it at one input. -/
def weatherEveryWrong : ChangeSpec := { name := "weatherEvery", fn := fun _ => fun
  | [d1, d2, d3] => { results := [.lit (.bool false)], args := [d1, d2, d3] }
  | _ => none }
def WeatherEveryWrongFalsely : Prop := weatherEveryRow.holds Try.pinned (OpenSpec.ofChange weatherEveryWrong)

/- THE SECOND FORM. 'bulk': how many values and letters a reading holds, each counted each time it is reached (what is shared counts as often as it is met; a slice's spare places count too). A statement '..UptoSaid' is the law's where the arguments, and the package variables that the reading takes, are together of bulk at most 1048576: NARROWER than '..Said'. Prove '..Said' where nothing that the law and all that it calls make is longer than what came in: it says more and counts as full. Else prove '..UptoSaid'. A law counts once. -/
mutual
def uptoBulk {H : Type} : DataW H → Nat
  | .lit (.string bytes) => bytes.length + 1
  | .lit _ => 1
  | .nil => 1
  | .ptr d => uptoBulk d + 1
  | .slice elems spare => uptoBulkAll elems + uptoBulkAll spare + 1
  | .agg parts => uptoBulkAll parts + 1
  | .iface _ d => uptoBulk d + 1
  | .map entries => uptoBulkEntries entries + 1
  | .held _ => 1
def uptoBulkAll {H : Type} : List (DataW H) → Nat
  | [] => 0
  | d :: r => uptoBulk d + uptoBulkAll r
def uptoBulkEntries {H : Type} : List (Lit × DataW H) → Nat
  | [] => 0
  | x :: r => uptoBulkEntry x + uptoBulkEntries r
def uptoBulkEntry {H : Type} : Lit × DataW H → Nat
  | (.string bytes, d) => bytes.length + uptoBulk d + 1
  | (_, d) => uptoBulk d + 1
 end
def uptoSmall : (H : Type) → List (DataW H) → Bool := fun _ ds => decide (uptoBulkAll ds ≤ 1048576)
def OpenSpec.upto (s : _root_.Go.ChangeSpec) : _root_.Go.OpenSpec := { _root_.Go.OpenSpec.ofChange s with cond := some uptoSmall }

/-- 'swashplatelaw04.WeatherFirsts', WHERE WHAT IT READS IS OF BULK AT MOST 1048576: true; the input reads as it did. -/
def weatherFirstsUptoRow : OpenClaim := { program := "ytfcjblnebaemgaa", sum := "e564bc284a0eb7b3bbd9973d86262b30e61d18156a33ae32852da4e2bdd548f5", func := "swashplate/swashplatelaw04.WeatherFirsts", spec := "weatherFirsts", unfollowed := true, recurses := true, apart := false, narrowed := true }
def WeatherFirstsUptoSaid : Prop := weatherFirstsUptoRow.holds Try.pinned (OpenSpec.upto weatherFirstsSpec)

/-- 'swashplatelaw04.WeatherWeaker', WHERE WHAT IT READS IS OF BULK AT MOST 1048576: true; the input reads as it did. -/
def weatherWeakerUptoRow : OpenClaim := { program := "ytfcjblnebaemgaa", sum := "e564bc284a0eb7b3bbd9973d86262b30e61d18156a33ae32852da4e2bdd548f5", func := "swashplate/swashplatelaw04.WeatherWeaker", spec := "weatherWeaker", unfollowed := true, recurses := true, apart := false, narrowed := true }
def WeatherWeakerUptoSaid : Prop := weatherWeakerUptoRow.holds Try.pinned (OpenSpec.upto weatherWeakerSpec)

/-- 'swashplatelaw04.WeatherSeen', WHERE WHAT IT READS IS OF BULK AT MOST 1048576: true; the input reads as it did. -/
def weatherSeenUptoRow : OpenClaim := { program := "ytfcjblnebaemgaa", sum := "e564bc284a0eb7b3bbd9973d86262b30e61d18156a33ae32852da4e2bdd548f5", func := "swashplate/swashplatelaw04.WeatherSeen", spec := "weatherSeen", unfollowed := true, recurses := true, apart := false, narrowed := true }
def WeatherSeenUptoSaid : Prop := weatherSeenUptoRow.holds Try.pinned (OpenSpec.upto weatherSeenSpec)

/-- 'swashplatelaw04.WeatherCuts', WHERE WHAT IT READS IS OF BULK AT MOST 1048576: true; the input reads as it did. -/
def weatherCutsUptoRow : OpenClaim := { program := "ytfcjblnebaemgaa", sum := "e564bc284a0eb7b3bbd9973d86262b30e61d18156a33ae32852da4e2bdd548f5", func := "swashplate/swashplatelaw04.WeatherCuts", spec := "weatherCuts", unfollowed := true, recurses := true, apart := false, narrowed := true }
def WeatherCutsUptoSaid : Prop := weatherCutsUptoRow.holds Try.pinned (OpenSpec.upto weatherCutsSpec)

/-- 'swashplatelaw04.WeatherEvery', WHERE WHAT IT READS IS OF BULK AT MOST 1048576: true; the input reads as it did. -/
def weatherEveryUptoRow : OpenClaim := { program := "ytfcjblnebaemgaa", sum := "e564bc284a0eb7b3bbd9973d86262b30e61d18156a33ae32852da4e2bdd548f5", func := "swashplate/swashplatelaw04.WeatherEvery", spec := "weatherEvery", unfollowed := true, recurses := true, apart := false, narrowed := true }
def WeatherEveryUptoSaid : Prop := weatherEveryUptoRow.holds Try.pinned (OpenSpec.upto weatherEverySpec)

end Rows
end Go.Proofs.Ytfcjblnebaemgaa
