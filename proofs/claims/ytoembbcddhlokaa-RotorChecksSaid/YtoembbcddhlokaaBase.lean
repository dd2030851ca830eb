/- Words for slices.IndexFunc and ContainsFunc: a predicate that is a closure; the first index. -/
import Derived.Test.YtoembbcddhlokaaMem
import Derived.Test.YtoembbcddhlokaaMath
import Derived.ProofKit
import Derived.WalkKit
import Derived.IntWalk
import Derived.BigCall
import Derived.BigQuiet
import Derived.Deep.QuietTactic
import Derived.Deep.RegionHeld3
import Derived.Deep.DeepCutAuto
import Derived.Outline
import Derived.Lib.Hide
import Derived.Shelf.Abstract
import Derived.StillTailTactics
import Derived.Laws.EntriesVeiled
import Derived.WalkLawsBesides
import Derived.WalkSpells
set_option linter.all false
namespace Go.Proofs.Ytoembbcddhlokaa
open Go Go.RowKit Go.Proofs

def PredB (P : Program) (g : Nat) (lb : Array Value) (n : Nat) (enc : Nat → Value) (p : Nat → Bool) (w : World) : Prop :=
  ∀ (W : World) (i : Nat), i < n → Below w.heap.size w W → Calls P g (#[enc i] ++ lb) W fun e w' => e = .returned (.bool (p i)) ∧ Below W.heap.size W w'

/-- The first index below n at which p holds; -1: there is none. -/
def firstIx (p : Nat → Bool) (n : Nat) : Int := match (List.range n).find? p with | some i => i | none => -1

theorem firstIx_hit (p : Nat → Bool) (n k : Nat) (hk : k < n) (hp : p k = true) (hF : ∀ j, j < k → p j = false) : firstIx p n = k := by
  unfold firstIx
  have : (List.range n).find? p = some k := by
    rw [List.find?_range_eq_some]
    exact ⟨hp, List.mem_range.2 hk, fun j hj => by simp [hF j hj]⟩
  rw [this]
theorem firstIx_miss (p : Nat → Bool) (n : Nat) (hF : ∀ j, j < n → p j = false) : firstIx p n = -1 := by
  unfold firstIx
  have : (List.range n).find? p = none := by
    rw [List.find?_eq_none]
    intro j hj; simp [hF j (by simpa using hj)]
  rw [this]
theorem firstIx_nonneg (p : Nat → Bool) (n : Nat) : decide (0 ≤ firstIx p n) = (List.range n).any p := by
  cases h : (List.range n).any p with
  | false =>
    have : firstIx p n = -1 := firstIx_miss p n (fun j hj => by
      have := List.any_eq_false.1 h j (by simpa using hj); simpa using this)
    simp [this]
  | true =>
    unfold firstIx
    cases hf : (List.range n).find? p with
    | some i => simp
    | none =>
      rw [List.find?_eq_none] at hf
      obtain ⟨j, hj, hp⟩ := List.any_eq_true.1 h
      exact absurd hp (hf j hj)

theorem blk_lt {w : World} {a : Addr} {v : Value} (h : w.cell? a = some v) : a.block < w.heap.size := World.block_lt_of_cell? w a h
theorem qsame {P : Program} {f : FuncId} {args : Array Value} {w : World} {n : Nat} {v : Value}
    (h : Calls P f args (w.drewN n) fun e w' => e = .returned v ∧ w.drewN n = w') : Calls P f args (w.drewN n) fun e w'' => e = .returned v ∧ ∃ m, w'' = w.drewN m :=
  h.mono fun _ _ ⟨he, hm⟩ => ⟨he, n, hm.symm⟩
theorem ret_bool {a b : Bool} (h : a = b) : Ending.returned (.bool a) = .returned (.bool b) := by rw [h]
theorem ret_int {k : IntKind} {a b : Int} (h : a = b) : Ending.returned (.int k a) = .returned (.int k b) := by rw [h]

end Go.Proofs.Ytoembbcddhlokaa
