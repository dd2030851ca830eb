/- What a rotor among the arguments reads as. -/
import Derived.Test.YtoembbcddhlokaaRoK
import Derived.OpenShut
import Derived.Deep.Slices
import Derived.ChangeArms
import Derived.ChangeSlices
import Derived.WideShapes
set_option linter.all false
namespace Go.Proofs.Ytoembbcddhlokaa
open Go Go.RowKit Go.Proofs Go.ChangeShapes Go.WideShapes Go.ChangeAt Go.Deep
set_option maxRecDepth 100000
set_option maxHeartbeats 4000000

theorem Try.undInt : Try.prog.underlying 3 = some (.int .i64) := by kernel_rfl
theorem Try.celInt : Try.prog.cellsOf 3 = 1 := by kernel_rfl
theorem Try.celInts : Try.prog.cellsOf 22 = 1 := by kernel_rfl

section
variable {H : Type} {enc : TypeId × Value → H} {W : World} {sp : Nat → Bool} {held : Bool}

theorem wf_I64 {n : Int} (h : (Lit.int .i64 n).wf = true) : I64 n := by
  exact bounds_i64 h

theorem ints_trod {fuel : Nat} {c : Value} {x : DataW H × List MemPlace} (h : DataW.trod enc Try.prog W 0 sp held fuel 22 [c] = some x) : ∃ xs, Ints W c xs := by
  rcases open_ints Try.undInts Try.undInt Try.celInt h with ⟨e, -⟩ | ⟨a, len, cap, zs, e, -, h1, h2, h3, -, h4, h5⟩
  · obtain rfl : c = .slice none 0 0 := by simpa using e
    exact ⟨[], none, 0, rfl, Nat.le_refl _, by omega, fun x hx => by simp at hx, fun hp => by simp at hp⟩
  · obtain rfl : c = .slice (some a) len cap := by simpa using e
    have hl : len ≤ zs.length := by rw [h3]; split <;> omega
    have hlen : (zs.take len).length = len := by simp; omega
    refine ⟨zs.take len, some a, cap, by rw [hlen], by omega, by unfold maxLen at h2; omega, fun x hx => wf_I64 (h5 x (List.mem_of_mem_take hx)), fun hp => ?_⟩
    rw [hlen] at hp
    obtain ⟨b, off, spot⟩ := a
    have hspot : spot = none := by simpa [Addr.add] using World.cell?_spot (h4 0 (by omega))
    subst hspot
    refine ⟨b, off, rfl, ?_, fun k hk => ?_⟩
    · have := World.block_lt_of_cell? W _ (h4 0 (by omega)); simpa [Addr.add] using this
    · rw [hlen] at hk
      have := h4 k (by omega)
      have hadd : (⟨b, off, none⟩ : Addr).add k = ⟨b, off + k, none⟩ := by unfold Addr.add; split <;> simp_all
      rw [hadd] at this
      rw [this]
      congr 2
      rw [nth_getElem _ _ (by rw [hlen]; exact hk)]
      simp [List.getD, List.getElem?_eq_getElem (show k < zs.length by omega)]

theorem rows_trod {fuel : Nat} {c : Value} {x : DataW H × List MemPlace} (h : DataW.trod enc Try.prog W 0 sp held fuel 23 [c] = some x) : ∃ V, Rows W c V := by
  rcases open_slice1 (show Try.prog.underlying 23 = some (.slice 22) by kernel_rfl) Try.celInts h with ⟨e, -⟩ | ⟨a, len, cap, m, n, V, D, Pl, e, -, h1, h2, h3, -, h4⟩
  · obtain rfl : c = .slice none 0 0 := by simpa using e
    exact ⟨[], none, 0, fun _ => undef, rfl, Nat.le_refl _, by omega, fun hp => by simp at hp, fun k hk => by simp at hk⟩
  · obtain rfl : c = .slice (some a) len cap := by simpa using e
    have hm : len ≤ m := by rw [h3]; split <;> omega
    have hr : ∀ k, ∃ xs, k < len → Ints W (V k) xs := by
      intro k
      by_cases hk : k < len
      · obtain ⟨xs, hx⟩ := ints_trod (h4 k (by omega)).2
        exact ⟨xs, fun _ => hx⟩
      · exact ⟨[], fun h => absurd h hk⟩
    obtain ⟨Z, hZ⟩ := Classical.axiomOfChoice hr
    have hlen : ((List.range len).map Z).length = len := by simp
    refine ⟨(List.range len).map Z, some a, cap, V, by rw [hlen], by omega, by unfold maxLen at h2; omega, fun hp => ?_, fun k hk => ?_⟩
    · rw [hlen] at hp
      obtain ⟨b, off, spot⟩ := a
      have hspot : spot = none := by simpa [Addr.add] using World.cell?_spot (h4 0 (by omega)).1
      subst hspot
      refine ⟨b, off, rfl, ?_, fun k hk => ?_⟩
      · have := World.block_lt_of_cell? W _ (h4 0 (by omega)).1; simpa [Addr.add] using this
      · rw [hlen] at hk
        have := (h4 k (by omega)).1
        have hadd : (⟨b, off, none⟩ : Addr).add k = ⟨b, off + k, none⟩ := by unfold Addr.add; split <;> simp_all
        rwa [hadd] at this
    · rw [hlen] at hk
      have e : nthR ((List.range len).map Z) k = Z k := by simp [nthR, hk]
      rw [e]; exact hZ k hk
end
end Go.Proofs.Ytoembbcddhlokaa
