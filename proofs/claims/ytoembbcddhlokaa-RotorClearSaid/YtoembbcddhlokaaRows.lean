/-
  No cell of these rows narrows 'for every input' (looked for: loops, veiled, ifaces, maps, wideKeys, modest, calm, conditions, laid).
  DERIVED. THE GIVEN ROWS OF THIS SEAT. 11 by the template 'for every input the law returns true; each argument reads behind the call as it read before'; 0 by the template 'total and deterministic' (their statements: YtoembbcddhlokaaTotals.lean).
  GIVEN WITH THE SEED: the statements are not yours to turn. If you find one false, say at which input.
  Laid BY PROGRAM, IN A SANDBOX (cutbox-rows.mjs): the forced cells as the released guide's own fill.sh prints them over the translation 967fa556b965cc89… (all of the seat's roots in one cut). By AI agents, Wed Nov 11 2026. No macro, syntax, notation, axiom, sorry.
-/
import Derived.Test.YtoembbcddhlokaaChecked
import GoSem.Claim
import GoSem.ClaimJoined
import GoSem.ClaimMapViews
import Derived.JoinedTies
import Derived.KernelRfl
namespace Go.Proofs.Ytoembbcddhlokaa
/- THE CELL 'sum', in the pinned program and in every row, IS THE sha256 OF THE DUMP (.gsa) THAT YtoembbcddhlokaaProg.lean LOADS. Nothing in Lean hashes anything: it is a label: what it is worth is what the hold of that sum in a sandbox is worth. -/
noncomputable def Try.pinned : Pinned := { name := "ytoembbcddhlokaa", sum := "967fa556b965cc894147ea3b97ac01810decd53645d63be10ca784a0f1995563", checked := Try.checked }
namespace Rows
def none {H : Type} : Left H := { results := [], args := [] }

/-- 'swashplatelaw02.RotorChecks': WHATEVER THE INPUT: true; the input reads as it did. -/
def rotorChecksSpec : ChangeSpec := { name := "rotorChecks", fn := fun _ => fun
  | [d] => { results := [.lit (.bool true)], args := [d] }
  | _ => none }
def rotorChecksRow : OpenClaim := { program := "ytoembbcddhlokaa", sum := "967fa556b965cc894147ea3b97ac01810decd53645d63be10ca784a0f1995563", func := "swashplate/swashplatelaw02.RotorChecks", spec := "rotorChecks", unfollowed := true, recurses := true, apart := false }
def RotorChecksSaid : Prop := rotorChecksRow.holds Try.pinned (OpenSpec.ofChange rotorChecksSpec)

/-- ITS FALSE NEIGHBOUR: 'it returns false'. Refute it at one input. -/
def rotorChecksWrong : ChangeSpec := { name := "rotorChecks", fn := fun _ => fun
  | [d] => { results := [.lit (.bool false)], args := [d] }
  | _ => none }
def RotorChecksWrongFalsely : Prop := rotorChecksRow.holds Try.pinned (OpenSpec.ofChange rotorChecksWrong)

/-- 'swashplatelaw02.RotorHeaviest': WHATEVER THE INPUT: true; the input reads as it did. -/
def rotorHeaviestSpec : ChangeSpec := { name := "rotorHeaviest", fn := fun _ => fun
  | [d1, d2, d3] => { results := [.lit (.bool true)], args := [d1, d2, d3] }
  | _ => none }
def rotorHeaviestRow : OpenClaim := { program := "ytoembbcddhlokaa", sum := "967fa556b965cc894147ea3b97ac01810decd53645d63be10ca784a0f1995563", func := "swashplate/swashplatelaw02.RotorHeaviest", spec := "rotorHeaviest", unfollowed := true, recurses := true, apart := false }
def RotorHeaviestSaid : Prop := rotorHeaviestRow.holds Try.pinned (OpenSpec.ofChange rotorHeaviestSpec)

/-- ITS FALSE NEIGHBOUR: 'it returns false'. Refute it at one input. -/
def rotorHeaviestWrong : ChangeSpec := { name := "rotorHeaviest", fn := fun _ => fun
  | [d1, d2, d3] => { results := [.lit (.bool false)], args := [d1, d2, d3] }
  | _ => none }
def RotorHeaviestWrongFalsely : Prop := rotorHeaviestRow.holds Try.pinned (OpenSpec.ofChange rotorHeaviestWrong)

/-- 'swashplatelaw02.RotorKept': WHATEVER THE INPUT: true; the input reads as it did. -/
def rotorKeptSpec : ChangeSpec := { name := "rotorKept", fn := fun _ => fun
  | [d1, d2, d3] => { results := [.lit (.bool true)], args := [d1, d2, d3] }
  | _ => none }
def rotorKeptRow : OpenClaim := { program := "ytoembbcddhlokaa", sum := "967fa556b965cc894147ea3b97ac01810decd53645d63be10ca784a0f1995563", func := "swashplate/swashplatelaw02.RotorKept", spec := "rotorKept", unfollowed := true, recurses := true, apart := false }
def RotorKeptSaid : Prop := rotorKeptRow.holds Try.pinned (OpenSpec.ofChange rotorKeptSpec)

/-- ITS FALSE NEIGHBOUR: 'it returns false'. Refute it at one input. -/
def rotorKeptWrong : ChangeSpec := { name := "rotorKept", fn := fun _ => fun
  | [d1, d2, d3] => { results := [.lit (.bool false)], args := [d1, d2, d3] }
  | _ => none }
def RotorKeptWrongFalsely : Prop := rotorKeptRow.holds Try.pinned (OpenSpec.ofChange rotorKeptWrong)

/-- 'swashplatelaw02.RotorWakes': WHATEVER THE INPUT: true; the input reads as it did. -/
def rotorWakesSpec : ChangeSpec := { name := "rotorWakes", fn := fun _ => fun
  | [d1, d2, d3] => { results := [.lit (.bool true)], args := [d1, d2, d3] }
  | _ => none }
def rotorWakesRow : OpenClaim := { program := "ytoembbcddhlokaa", sum := "967fa556b965cc894147ea3b97ac01810decd53645d63be10ca784a0f1995563", func := "swashplate/swashplatelaw02.RotorWakes", spec := "rotorWakes", unfollowed := true, recurses := true, apart := false }
def RotorWakesSaid : Prop := rotorWakesRow.holds Try.pinned (OpenSpec.ofChange rotorWakesSpec)

/-- ITS FALSE NEIGHBOUR: 'it returns false'. Refute it at one input. -/
def rotorWakesWrong : ChangeSpec := { name := "rotorWakes", fn := fun _ => fun
  | [d1, d2, d3] => { results := [.lit (.bool false)], args := [d1, d2, d3] }
  | _ => none }
def RotorWakesWrongFalsely : Prop := rotorWakesRow.holds Try.pinned (OpenSpec.ofChange rotorWakesWrong)

/-- 'swashplatelaw02.RotorHovers': WHATEVER THE INPUT: true; the input reads as it did. -/
def rotorHoversSpec : ChangeSpec := { name := "rotorHovers", fn := fun _ => fun
  | [d1, d2, d3] => { results := [.lit (.bool true)], args := [d1, d2, d3] }
  | _ => none }
def rotorHoversRow : OpenClaim := { program := "ytoembbcddhlokaa", sum := "967fa556b965cc894147ea3b97ac01810decd53645d63be10ca784a0f1995563", func := "swashplate/swashplatelaw02.RotorHovers", spec := "rotorHovers", unfollowed := true, recurses := true, apart := false }
def RotorHoversSaid : Prop := rotorHoversRow.holds Try.pinned (OpenSpec.ofChange rotorHoversSpec)

/-- ITS FALSE NEIGHBOUR: 'it returns false'. Refute it at one input. -/
def rotorHoversWrong : ChangeSpec := { name := "rotorHovers", fn := fun _ => fun
  | [d1, d2, d3] => { results := [.lit (.bool false)], args := [d1, d2, d3] }
  | _ => none }
def RotorHoversWrongFalsely : Prop := rotorHoversRow.holds Try.pinned (OpenSpec.ofChange rotorHoversWrong)

/-- 'swashplatelaw02.RotorGlides': WHATEVER THE INPUT: true; the input reads as it did. -/
def rotorGlidesSpec : ChangeSpec := { name := "rotorGlides", fn := fun _ => fun
  | [d1, d2, d3] => { results := [.lit (.bool true)], args := [d1, d2, d3] }
  | _ => none }
def rotorGlidesRow : OpenClaim := { program := "ytoembbcddhlokaa", sum := "967fa556b965cc894147ea3b97ac01810decd53645d63be10ca784a0f1995563", func := "swashplate/swashplatelaw02.RotorGlides", spec := "rotorGlides", unfollowed := true, recurses := true, apart := false }
def RotorGlidesSaid : Prop := rotorGlidesRow.holds Try.pinned (OpenSpec.ofChange rotorGlidesSpec)

/-- ITS FALSE NEIGHBOUR: 'it returns false'. Refute it at one input. -/
def rotorGlidesWrong : ChangeSpec := { name := "rotorGlides", fn := fun _ => fun
  | [d1, d2, d3] => { results := [.lit (.bool false)], args := [d1, d2, d3] }
  | _ => none }
def RotorGlidesWrongFalsely : Prop := rotorGlidesRow.holds Try.pinned (OpenSpec.ofChange rotorGlidesWrong)

/-- 'swashplatelaw02.RotorRates': WHATEVER THE INPUT: true; the input reads as it did. -/
def rotorRatesSpec : ChangeSpec := { name := "rotorRates", fn := fun _ => fun
  | [d1, d2, d3] => { results := [.lit (.bool true)], args := [d1, d2, d3] }
  | _ => none }
def rotorRatesRow : OpenClaim := { program := "ytoembbcddhlokaa", sum := "967fa556b965cc894147ea3b97ac01810decd53645d63be10ca784a0f1995563", func := "swashplate/swashplatelaw02.RotorRates", spec := "rotorRates", unfollowed := true, recurses := true, apart := false }
def RotorRatesSaid : Prop := rotorRatesRow.holds Try.pinned (OpenSpec.ofChange rotorRatesSpec)

/-- ITS FALSE NEIGHBOUR: 'it returns false'. Refute it at one input. -/
def rotorRatesWrong : ChangeSpec := { name := "rotorRates", fn := fun _ => fun
  | [d1, d2, d3] => { results := [.lit (.bool false)], args := [d1, d2, d3] }
  | _ => none }
def RotorRatesWrongFalsely : Prop := rotorRatesRow.holds Try.pinned (OpenSpec.ofChange rotorRatesWrong)

/-- 'swashplatelaw02.RotorDescends': WHATEVER THE INPUT: true; the input reads as it did. -/
def rotorDescendsSpec : ChangeSpec := { name := "rotorDescends", fn := fun _ => fun
  | [d1, d2, d3] => { results := [.lit (.bool true)], args := [d1, d2, d3] }
  | _ => none }
def rotorDescendsRow : OpenClaim := { program := "ytoembbcddhlokaa", sum := "967fa556b965cc894147ea3b97ac01810decd53645d63be10ca784a0f1995563", func := "swashplate/swashplatelaw02.RotorDescends", spec := "rotorDescends", unfollowed := true, recurses := true, apart := false }
def RotorDescendsSaid : Prop := rotorDescendsRow.holds Try.pinned (OpenSpec.ofChange rotorDescendsSpec)

/-- ITS FALSE NEIGHBOUR: 'it returns false'. Refute it at one input. -/
def rotorDescendsWrong : ChangeSpec := { name := "rotorDescends", fn := fun _ => fun
  | [d1, d2, d3] => { results := [.lit (.bool false)], args := [d1, d2, d3] }
  | _ => none }
def RotorDescendsWrongFalsely : Prop := rotorDescendsRow.holds Try.pinned (OpenSpec.ofChange rotorDescendsWrong)

/-- 'swashplatelaw02.RotorLevels': WHATEVER THE INPUT: true; the input reads as it did. -/
def rotorLevelsSpec : ChangeSpec := { name := "rotorLevels", fn := fun _ => fun
  | [d1, d2, d3] => { results := [.lit (.bool true)], args := [d1, d2, d3] }
  | _ => none }
def rotorLevelsRow : OpenClaim := { program := "ytoembbcddhlokaa", sum := "967fa556b965cc894147ea3b97ac01810decd53645d63be10ca784a0f1995563", func := "swashplate/swashplatelaw02.RotorLevels", spec := "rotorLevels", unfollowed := true, recurses := true, apart := false }
def RotorLevelsSaid : Prop := rotorLevelsRow.holds Try.pinned (OpenSpec.ofChange rotorLevelsSpec)

/-- ITS FALSE NEIGHBOUR: 'it returns false'. Refute it at one input. -/
def rotorLevelsWrong : ChangeSpec := { name := "rotorLevels", fn := fun _ => fun
  | [d1, d2, d3] => { results := [.lit (.bool false)], args := [d1, d2, d3] }
  | _ => none }
def RotorLevelsWrongFalsely : Prop := rotorLevelsRow.holds Try.pinned (OpenSpec.ofChange rotorLevelsWrong)

/-- 'swashplatelaw02.RotorClear': WHATEVER THE INPUT: true; the input reads as it did. -/
def rotorClearSpec : ChangeSpec := { name := "rotorClear", fn := fun _ => fun
  | [d1, d2, d3] => { results := [.lit (.bool true)], args := [d1, d2, d3] }
  | _ => none }
def rotorClearRow : OpenClaim := { program := "ytoembbcddhlokaa", sum := "967fa556b965cc894147ea3b97ac01810decd53645d63be10ca784a0f1995563", func := "swashplate/swashplatelaw02.RotorClear", spec := "rotorClear", unfollowed := true, recurses := true, apart := false }
def RotorClearSaid : Prop := rotorClearRow.holds Try.pinned (OpenSpec.ofChange rotorClearSpec)

/-- ITS FALSE NEIGHBOUR: 'it returns false'. Refute it at one input. -/
def rotorClearWrong : ChangeSpec := { name := "rotorClear", fn := fun _ => fun
  | [d1, d2, d3] => { results := [.lit (.bool false)], args := [d1, d2, d3] }
  | _ => none }
def RotorClearWrongFalsely : Prop := rotorClearRow.holds Try.pinned (OpenSpec.ofChange rotorClearWrong)

/-- 'swashplatelaw02.RotorEach': WHATEVER THE INPUT: true; the input reads as it did. -/
def rotorEachSpec : ChangeSpec := { name := "rotorEach", fn := fun _ => fun
  | [d1, d2, d3] => { results := [.lit (.bool true)], args := [d1, d2, d3] }
  | _ => none }
def rotorEachRow : OpenClaim := { program := "ytoembbcddhlokaa", sum := "967fa556b965cc894147ea3b97ac01810decd53645d63be10ca784a0f1995563", func := "swashplate/swashplatelaw02.RotorEach", spec := "rotorEach", unfollowed := true, recurses := true, apart := false }
def RotorEachSaid : Prop := rotorEachRow.holds Try.pinned (OpenSpec.ofChange rotorEachSpec)

/-- ITS FALSE NEIGHBOUR: 'it returns false'. Refute it at one input. -/
def rotorEachWrong : ChangeSpec := { name := "rotorEach", fn := fun _ => fun
  | [d1, d2, d3] => { results := [.lit (.bool false)], args := [d1, d2, d3] }
  | _ => none }
def RotorEachWrongFalsely : Prop := rotorEachRow.holds Try.pinned (OpenSpec.ofChange rotorEachWrong)

/- THE SECOND FORM. 'bulk': how many values and letters a reading holds, each counted each time it is reached (what is shared counts as often as it is met; a slice's spare places count too). A statement '..UptoSaid' is the law's where the arguments, and the package variables that the reading takes, are together of bulk at most 1048576: NARROWER than '..Said'. Prove '..Said' where nothing that the law and all that it calls make is longer than what came in: it says more and counts as full. Else prove '..UptoSaid'. A law counts once. -/
mutual
def uptoBulk {H : Type} : DataW H → Nat
  | .lit (.string bytes) => bytes.length + 1
  | .lit _ => 1
  | .nil => 1
  | .ptr d => uptoBulk d + 1
  | .slice elems spare => uptoBulkAll elems + uptoBulkAll spare + 1
  | .agg parts => uptoBulkAll parts + 1
  | .iface _ d => uptoBulk d + 1
  | .map entries => uptoBulkEntries entries + 1
  | .held _ => 1
def uptoBulkAll {H : Type} : List (DataW H) → Nat
  | [] => 0
  | d :: r => uptoBulk d + uptoBulkAll r
def uptoBulkEntries {H : Type} : List (Lit × DataW H) → Nat
  | [] => 0
  | x :: r => uptoBulkEntry x + uptoBulkEntries r
def uptoBulkEntry {H : Type} : Lit × DataW H → Nat
  | (.string bytes, d) => bytes.length + uptoBulk d + 1
  | (_, d) => uptoBulk d + 1
 end
def uptoSmall : (H : Type) → List (DataW H) → Bool := fun _ ds => decide (uptoBulkAll ds ≤ 1048576)
def OpenSpec.upto (s : _root_.Go.ChangeSpec) : _root_.Go.OpenSpec := { _root_.Go.OpenSpec.ofChange s with cond := some uptoSmall }

/-- 'swashplatelaw02.RotorChecks', WHERE WHAT IT READS IS OF BULK AT MOST 1048576: true; the input reads as it did. -/
def rotorChecksUptoRow : OpenClaim := { program := "ytoembbcddhlokaa", sum := "967fa556b965cc894147ea3b97ac01810decd53645d63be10ca784a0f1995563", func := "swashplate/swashplatelaw02.RotorChecks", spec := "rotorChecks", unfollowed := true, recurses := true, apart := false, narrowed := true }
def RotorChecksUptoSaid : Prop := rotorChecksUptoRow.holds Try.pinned (OpenSpec.upto rotorChecksSpec)

/-- 'swashplatelaw02.RotorHeaviest', WHERE WHAT IT READS IS OF BULK AT MOST 1048576: true; the input reads as it did. -/
def rotorHeaviestUptoRow : OpenClaim := { program := "ytoembbcddhlokaa", sum := "967fa556b965cc894147ea3b97ac01810decd53645d63be10ca784a0f1995563", func := "swashplate/swashplatelaw02.RotorHeaviest", spec := "rotorHeaviest", unfollowed := true, recurses := true, apart := false, narrowed := true }
def RotorHeaviestUptoSaid : Prop := rotorHeaviestUptoRow.holds Try.pinned (OpenSpec.upto rotorHeaviestSpec)

/-- 'swashplatelaw02.RotorKept', WHERE WHAT IT READS IS OF BULK AT MOST 1048576: true; the input reads as it did. -/
def rotorKeptUptoRow : OpenClaim := { program := "ytoembbcddhlokaa", sum := "967fa556b965cc894147ea3b97ac01810decd53645d63be10ca784a0f1995563", func := "swashplate/swashplatelaw02.RotorKept", spec := "rotorKept", unfollowed := true, recurses := true, apart := false, narrowed := true }
def RotorKeptUptoSaid : Prop := rotorKeptUptoRow.holds Try.pinned (OpenSpec.upto rotorKeptSpec)

/-- 'swashplatelaw02.RotorWakes', WHERE WHAT IT READS IS OF BULK AT MOST 1048576: true; the input reads as it did. -/
def rotorWakesUptoRow : OpenClaim := { program := "ytoembbcddhlokaa", sum := "967fa556b965cc894147ea3b97ac01810decd53645d63be10ca784a0f1995563", func := "swashplate/swashplatelaw02.RotorWakes", spec := "rotorWakes", unfollowed := true, recurses := true, apart := false, narrowed := true }
def RotorWakesUptoSaid : Prop := rotorWakesUptoRow.holds Try.pinned (OpenSpec.upto rotorWakesSpec)

/-- 'swashplatelaw02.RotorHovers', WHERE WHAT IT READS IS OF BULK AT MOST 1048576: true; the input reads as it did. -/
def rotorHoversUptoRow : OpenClaim := { program := "ytoembbcddhlokaa", sum := "967fa556b965cc894147ea3b97ac01810decd53645d63be10ca784a0f1995563", func := "swashplate/swashplatelaw02.RotorHovers", spec := "rotorHovers", unfollowed := true, recurses := true, apart := false, narrowed := true }
def RotorHoversUptoSaid : Prop := rotorHoversUptoRow.holds Try.pinned (OpenSpec.upto rotorHoversSpec)

/-- 'swashplatelaw02.RotorGlides', WHERE WHAT IT READS IS OF BULK AT MOST 1048576: true; the input reads as it did. -/
def rotorGlidesUptoRow : OpenClaim := { program := "ytoembbcddhlokaa", sum := "967fa556b965cc894147ea3b97ac01810decd53645d63be10ca784a0f1995563", func := "swashplate/swashplatelaw02.RotorGlides", spec := "rotorGlides", unfollowed := true, recurses := true, apart := false, narrowed := true }
def RotorGlidesUptoSaid : Prop := rotorGlidesUptoRow.holds Try.pinned (OpenSpec.upto rotorGlidesSpec)

/-- 'swashplatelaw02.RotorRates', WHERE WHAT IT READS IS OF BULK AT MOST 1048576: true; the input reads as it did. -/
def rotorRatesUptoRow : OpenClaim := { program := "ytoembbcddhlokaa", sum := "967fa556b965cc894147ea3b97ac01810decd53645d63be10ca784a0f1995563", func := "swashplate/swashplatelaw02.RotorRates", spec := "rotorRates", unfollowed := true, recurses := true, apart := false, narrowed := true }
def RotorRatesUptoSaid : Prop := rotorRatesUptoRow.holds Try.pinned (OpenSpec.upto rotorRatesSpec)

/-- 'swashplatelaw02.RotorDescends', WHERE WHAT IT READS IS OF BULK AT MOST 1048576: true; the input reads as it did. -/
def rotorDescendsUptoRow : OpenClaim := { program := "ytoembbcddhlokaa", sum := "967fa556b965cc894147ea3b97ac01810decd53645d63be10ca784a0f1995563", func := "swashplate/swashplatelaw02.RotorDescends", spec := "rotorDescends", unfollowed := true, recurses := true, apart := false, narrowed := true }
def RotorDescendsUptoSaid : Prop := rotorDescendsUptoRow.holds Try.pinned (OpenSpec.upto rotorDescendsSpec)

/-- 'swashplatelaw02.RotorLevels', WHERE WHAT IT READS IS OF BULK AT MOST 1048576: true; the input reads as it did. -/
def rotorLevelsUptoRow : OpenClaim := { program := "ytoembbcddhlokaa", sum := "967fa556b965cc894147ea3b97ac01810decd53645d63be10ca784a0f1995563", func := "swashplate/swashplatelaw02.RotorLevels", spec := "rotorLevels", unfollowed := true, recurses := true, apart := false, narrowed := true }
def RotorLevelsUptoSaid : Prop := rotorLevelsUptoRow.holds Try.pinned (OpenSpec.upto rotorLevelsSpec)

/-- 'swashplatelaw02.RotorClear', WHERE WHAT IT READS IS OF BULK AT MOST 1048576: true; the input reads as it did. -/
def rotorClearUptoRow : OpenClaim := { program := "ytoembbcddhlokaa", sum := "967fa556b965cc894147ea3b97ac01810decd53645d63be10ca784a0f1995563", func := "swashplate/swashplatelaw02.RotorClear", spec := "rotorClear", unfollowed := true, recurses := true, apart := false, narrowed := true }
def RotorClearUptoSaid : Prop := rotorClearUptoRow.holds Try.pinned (OpenSpec.upto rotorClearSpec)

/-- 'swashplatelaw02.RotorEach', WHERE WHAT IT READS IS OF BULK AT MOST 1048576: true; the input reads as it did. -/
def rotorEachUptoRow : OpenClaim := { program := "ytoembbcddhlokaa", sum := "967fa556b965cc894147ea3b97ac01810decd53645d63be10ca784a0f1995563", func := "swashplate/swashplatelaw02.RotorEach", spec := "rotorEach", unfollowed := true, recurses := true, apart := false, narrowed := true }
def RotorEachUptoSaid : Prop := rotorEachUptoRow.holds Try.pinned (OpenSpec.upto rotorEachSpec)

end Rows
end Go.Proofs.Ytoembbcddhlokaa
