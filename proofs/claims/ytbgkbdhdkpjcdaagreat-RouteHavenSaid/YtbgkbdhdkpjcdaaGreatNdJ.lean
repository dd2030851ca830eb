/- Plain law of RouteHaven: the proof of a safe flight is accepted; behind the last return the first place is no haven. -/
import Derived.Test.YtbgkbdhdkpjcdaaGreatJBA
import Derived.Test.YtbgkbdhdkpjcdaaGreatJDA
set_option linter.all false
namespace Go.Proofs.YtbgkbdhdkpjcdaaGreat
open Go Go.RowKit Go.Proofs
set_option maxRecDepth 100000
theorem norR_some {g : Int → Bool} : ∀ (n : Nat) (t k : Int), norR g n t = some k → ∀ q : Int, k < q → q ≤ t → g q = false
  | 0, t, k, h, q, _, _ => by unfold norR at h; cases h
  | n + 1, t, k, h, q, h1, h2 => by
    unfold norR at h
    by_cases e : g t = true
    · rw [if_pos e] at h
      obtain rfl := Option.some.inj h
      omega
    · rw [if_neg e] at h
      by_cases hq : q = t
      · rw [hq]; simpa using e
      · exact norR_some n (t - 1) k h q h1 (by omega)
theorem norR_none {g : Int → Bool} : ∀ (n : Nat) (t : Int), norR g n t = none → ∀ q : Int, t - (n : Nat) < q → q ≤ t → g q = false
  | 0, t, _, q, h1, h2 => by omega
  | n + 1, t, h, q, h1, h2 => by
    unfold norR at h
    by_cases e : g t = true
    · rw [if_pos e] at h; cases h
    · rw [if_neg e] at h
      by_cases hq : q = t
      · rw [hq]; simpa using e
      · exact norR_none n (t - 1) h q (by omega) (by omega)
theorem prfR_list {bf : Int → Option HavD} : ∀ (n : Nat) (t : Int) (l : List HavD), (prfR bf n t l).2.2 = true → (prfR bf n t l).1.length = l.length + n ∧ (∀ i, i < l.length → hvx (prfR bf n t l).1 i = hvx l i) ∧ ∀ i : Nat, i < n → bf (t + i) = some (hvx (prfR bf n t l).1 (l.length + i))
  | 0, t, l, _ => ⟨rfl, fun i _ => rfl, fun i hi => absurd hi (Nat.not_lt_zero _)⟩
  | n + 1, t, l, h => by
    unfold prfR at h ⊢
    cases e : bf t with
    | none => rw [e] at h; exact absurd (show false = true from h) (by decide)
    | some x =>
      rw [e] at h
      dsimp only at h ⊢
      obtain ⟨h1, h2, h3⟩ := prfR_list n (t + 1) (l ++ [x]) h
      simp only [List.length_append, List.length_singleton] at h1 h2 h3
      refine ⟨by omega, fun i hi => ?_, fun i hi => ?_⟩
      · rw [h2 i (by omega), hvx_app, if_neg (by omega), if_pos hi]
      · by_cases h0 : i = 0
        · subst h0
          rw [h2 (l.length + 0) (by omega), hvx_app, if_pos (by omega)]
          simpa using e
        · have := h3 (i - 1) (by omega)
          rw [show t + 1 + ((i - 1 : Nat) : Int) = t + (i : Int) by omega, show l.length + 1 + (i - 1) = l.length + i by omega] at this
          exact this
theorem hvx_mem {l : List HavD} {i : Nat} (h : i < l.length) : hvx l i ∈ l := by
  unfold hvx
  rw [List.getD_eq_getElem?_getD, List.getElem?_eq_getElem h]
  exact List.getElem_mem h
theorem hasI_mem {l : List HavD} {x : HavD} (h : x ∈ l) : hasI l (hvi x) = true := by
  unfold hasI
  rw [List.any_eq_true]
  obtain ⟨j, hj, hg⟩ := List.getElem_of_mem h
  refine ⟨j, List.mem_range.2 hj, ?_⟩
  rw [eqI_iff]
  unfold hvx
  rw [List.getD_eq_getElem?_getD, List.getElem?_eq_getElem hj, hg]
  rfl
theorem prvR_all {g : Nat → Bool} : ∀ (n i : Nat), (∀ j, i ≤ j → j < i + n → g j = true) → prvR g n i = none
  | 0, _, _ => rfl
  | n + 1, i, h => by
    unfold prvR
    rw [if_pos (h i (Nat.le_refl _) (by omega))]
    exact prvR_all n (i + 1) fun j h1 h2 => h j (by omega) (by omega)
/-- What is told of each haven of the proof of a safe flight. -/
theorem prf_each {F : FliD} {P : Nat} {lt tt : Tab} {op : Nat → Int → Bool} (h : (F.prf lt tt op P).2.2 = true) :
    (F.prf lt tt op P).1.length = F.ticks lt ∧ ∀ i : Nat, i < F.ticks lt → hvx (F.prf lt tt op P).1 i ∈ F.havK lt tt op (F.dep + (i : Int)) false P := by
  unfold FliD.prf at h ⊢
  obtain ⟨h1, -, h3⟩ := prfR_list _ _ _ h
  refine ⟨by rw [h1]; simp, fun i hi => ?_⟩
  have := h3 i hi
  rw [List.length_nil, Nat.zero_add] at this
  exact bestL_mem this
theorem proves_own {F : FliD} {P : Nat} {lt tt : Tab} {op : Nat → Int → Bool} (h : (F.prf lt tt op P).2.2 = true) :
    prvV (F.prf lt tt op P).1.length (F.ticks lt) (prvR (F.prvG lt tt op P fun i => hvi (hvx (F.prf lt tt op P).1 i)) (min (F.prf lt tt op P).1.length (F.ticks lt)) 0) = (0, 0) := by
  obtain ⟨h1, h2⟩ := prf_each h
  rw [prvR_all _ _ (fun j _ hj => by
    unfold FliD.prvG
    exact hasI_mem (h2 j (by rw [h1] at hj; omega)))]
  unfold prvV
  rw [if_pos h1]
theorem no_first {F : FliD} {P : Nat} {lt tt : Tab} {op : Nat → Int → Bool} {t : Int} {r0 : Nat} (hg : F.lasts (F.reach lt tt t r0).1 = false) : ∀ x ∈ F.havK lt tt op t false P, x.p ≠ r0 := by
  intro x hx e
  obtain ⟨p, -, hp, hb⟩ := FliD.havK_mem P hx
  rw [hp] at e
  have e2 : p = r0 := e
  subst e2
  unfold FliD.havB at hb
  rw [hg] at hb
  simp at hb
end Go.Proofs.YtbgkbdhdkpjcdaaGreat
