/- Texts joined: JAV. -/
import Derived.Test.YtbgkbdhdkpjcdaaGreatJAU
set_option linter.all false
namespace Go.Proofs.YtbgkbdhdkpjcdaaGreat
open Go Go.RowKit Go.Proofs

theorem keyLe_trans (key : Nat → Int) (a b c : Nat) (h1 : (!keyLt key (fun i => (i : Int)) b a) = true) (h2 : (!keyLt key (fun i => (i : Int)) c b) = true) : (!keyLt key (fun i => (i : Int)) c a) = true := by
  unfold keyLt at *
  simp only [Bool.not_eq_true', Bool.or_eq_false_iff, Bool.and_eq_false_iff, decide_eq_false_iff_not] at *
  omega
theorem keyLe_total (key : Nat → Int) (a b : Nat) : ((!keyLt key (fun i => (i : Int)) b a) || (!keyLt key (fun i => (i : Int)) a b)) = true := by
  unfold keyLt
  simp only [Bool.or_eq_true, Bool.not_eq_true', Bool.or_eq_false_iff, Bool.and_eq_false_iff, decide_eq_false_iff_not]
  omega
theorem stab_pair (key : Nat → Int) (l : List Nat) : (stab key l).Pairwise fun a b => (!keyLt key (fun i => (i : Int)) b a) = true := by
  unfold stab
  exact List.pairwise_mergeSort (keyLe_trans key) (keyLe_total key) l
section
variable {M : MetD} {n : Nat} (hb : M.bad = false) (hn : n < M.m) (hmax : ∀ i, i < M.m → M.E i 0 = M.E n 0 → M.E i 1 < M.E n 1 ∨ (M.E i 1 = M.E n 1 ∧ i ≤ n))
include hb hn
include hmax
end
end Go.Proofs.YtbgkbdhdkpjcdaaGreat

namespace Go.Proofs.YtbgkbdhdkpjcdaaGreat
open Go Go.RowKit Go.Proofs

theorem key2_anti {key : Nat → Int} {a b : Nat} (h1 : (!keyLt key (fun i => (i : Int)) b a) = true) (h2 : (!keyLt key (fun i => (i : Int)) a b) = true) : a = b := by
  unfold keyLt at *
  simp only [Bool.not_eq_true', Bool.or_eq_false_iff, Bool.and_eq_false_iff, decide_eq_false_iff_not] at *
  omega
theorem stab2_perm (key : Nat → Int) (l : List Nat) : (stab key l).Perm l := by unfold stab; exact List.mergeSort_perm _ _
/-- The one order. -/
theorem stab2_unique {key : Nat → Int} {l l' : List Nat} (hp : l'.Perm l) (hs : l'.Pairwise fun a b => (!keyLt key (fun i => (i : Int)) b a) = true) : stab key l = l' :=
  List.Perm.eq_of_pairwise (le := fun a b => (!keyLt key (fun i => (i : Int)) b a) = true) (fun a b _ _ h1 h2 => key2_anti h1 h2) (stab_pair key l) hs ((stab2_perm key l).trans hp.symm)
theorem keyLe_iff {key : Nat → Int} {a b : Nat} : (!keyLt key (fun i => (i : Int)) b a) = true ↔ key a < key b ∨ (key a = key b ∧ a ≤ b) := by
  unfold keyLt
  simp only [Bool.not_eq_true', Bool.or_eq_false_iff, Bool.and_eq_false_iff, decide_eq_false_iff_not]
  omega
theorem ins_done {key : Nat → Int} {l a b : List Nat} {i : Nat} (hs : stab key l = a ++ b) (hl : ∀ j ∈ l, j < i) (hb : ∀ y ∈ b, key i < key y) (ha : a = [] ∨ ∃ a' y, a = a' ++ [y] ∧ key y ≤ key i) : stab key (l ++ [i]) = a ++ i :: b := by
  have hp := stab_pair key l
  rw [hs] at hp
  have hmem : ∀ j ∈ a ++ b, j < i := fun j hj => hl j (by rw [← hs] at hj; exact stab_mem.1 hj)
  obtain ⟨p1, p2, p3⟩ := List.pairwise_append.1 hp
  have hle : ∀ y ∈ a, key y ≤ key i := by
    intro y hy
    rcases ha with rfl | ⟨a', z, rfl, hz⟩
    · cases hy
    · rcases List.mem_append.1 hy with h | h
      · have := keyLe_iff.1 ((List.pairwise_append.1 p1).2.2 y h z (List.mem_singleton.2 rfl))
        omega
      · rw [List.mem_singleton.1 h]; exact hz
  refine stab2_unique ?_ ?_
  · refine List.perm_middle.trans ?_
    have h1 : (a ++ b).Perm l := by rw [← hs]; exact stab2_perm key l
    exact (h1.cons i).trans (List.perm_append_singleton i l).symm
  · rw [List.pairwise_append]
    refine ⟨p1, List.pairwise_cons.2 ⟨fun y hy => keyLe_iff.2 (Or.inl (hb y hy)), p2⟩, fun y hy z hz => ?_⟩
    rcases List.mem_cons.1 hz with rfl | h
    · have h1 := hle y hy
      have h2 := hmem y (List.mem_append_left _ hy)
      exact keyLe_iff.2 (by omega)
    · exact p3 y hy z h
/-- What the swaps keep: the list is a, then i, then b. -/
structure Ins (key : Nat → Int) (s : List Nat) (i : Nat) (a b : List Nat) : Prop where
  s : s = a ++ b
  b : ∀ y ∈ b, key i < key y
theorem Ins.start (key : Nat → Int) (s : List Nat) (i : Nat) : Ins key s i s [] := ⟨by simp, fun y hy => by cases hy⟩
theorem Ins.step {key : Nat → Int} {s a b : List Nat} {i y : Nat} (h : Ins key s i (a ++ [y]) b) (hy : key i < key y) : Ins key s i a (y :: b) :=
  ⟨by rw [h.s]; simp, fun z hz => by rcases List.mem_cons.1 hz with rfl | h2; exact hy; exact h.b z h2⟩
end Go.Proofs.YtbgkbdhdkpjcdaaGreat
