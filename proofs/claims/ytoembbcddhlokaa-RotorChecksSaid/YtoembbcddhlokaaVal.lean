/- A slice literal, into a world that is a letter. No program is imported here. -/
import Derived.Test.YtoembbcddhlokaaApp
import Derived.Great.BuildSlice
set_option linter.all false
namespace Go.Proofs.Ytoembbcddhlokaa
open Go Go.RowKit Go.Proofs

theorem wpl_vals {P : Program} {ops : Array Oper} {rest : List Oper} {o : Oper} {a : Act} {w : World} {Q : Exit → Act → World → Prop} (hg : o.guard = none) (t e : TypeId) (len : Nat) (parts : Array (Nat × Operand)) (ho : o.op = .buildSlice t len parts)
    (vs : List Value) (h1 : ∀ v ∈ vs, v.cells = #[v]) (hu : P.underlying t = some (.slice e)) (hsz : (P.info? e).map (·.size) = some 1) (hz : ((P.info? e).bind (·.zero)).isSome = true)
    (hlen : len = vs.length) (hpos : 0 < len) (hsmall : len ≤ 2 ^ 24)
    (hparts : (parts.toList.map fun (i, x) => (i, a.eval x)) = (vs.zipIdx 0).map fun x => (x.2, x.1))
    (h : ∀ g w', Below w.heap.size w w' → w'.ownsRow 0 e 1 (.slice (some ⟨g, 0, none⟩) len len) len vs → wpList P ops Q rest (a.put o.dst (.slice (some ⟨g, 0, none⟩) len len)) w') : wpList P ops Q (o :: rest) a w := by
  cases hie : P.info? e with
  | none => simp [hie] at hsz
  | some ie =>
    simp only [hie, Option.map_some, Option.some.injEq, Option.bind_some] at hsz hz
    obtain ⟨z, hzz⟩ := Option.isSome_iff_exists.1 hz
    refine wpList_buildSlice hg t e len parts ho vs.toArray ie z hu hie hzz (by rw [hsz]; omega) (by rw [hsz]; omega) ?_ ?_
    · rw [Array.toList_map, hparts, hsz]
      exact Great.fill_flat _ _ h1 (by simp [hlen])
    · refine h w.heap.size _ (bal (Below.refl _ _) _) ?_
      have := World.ownsRow_lit (base := 0) (e := e) (size := 1) w vs.toArray len (Nat.zero_le _) (by unfold maxLen; omega) (by simp [hlen])
      simpa using this
end Go.Proofs.Ytoembbcddhlokaa
