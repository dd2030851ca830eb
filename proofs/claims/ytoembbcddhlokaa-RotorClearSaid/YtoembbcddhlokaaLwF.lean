/- Plain law: the drops of a descent, one by one and in two parts. -/
import Derived.Test.YtoembbcddhlokaaLwG
import Derived.Test.YtoembbcddhlokaaRfT
set_option linter.all false
namespace Go.Proofs.Ytoembbcddhlokaa
open Go Go.RowKit Go.Proofs

section
variable {S : Tabs} {cl bu wl wh tl th el eh nl nh : Int}
theorem scan_all {D : Nat → Nat → Int} : ∀ (m j : Nat), (dScan S wl wh D m j).2 = 0 → ∀ k, k < m → dBad S wl wh (D (j + k)) = false ∧ dWak S wl wh (D (j + k)) = false := by
  intro m
  induction m with
  | zero => intro j _ k hk; omega
  | succ m ih =>
    intro j h k hk
    unfold dScan at h
    cases h1 : dBad S wl wh (D j)
    · rw [h1, if_neg (by decide)] at h
      cases h2 : dWak S wl wh (D j)
      · rw [h2, if_neg (by decide)] at h
        cases k with
        | zero => exact ⟨h1, h2⟩
        | succ k => rw [show j + (k + 1) = j + 1 + k by omega]; exact ih (j + 1) h k (by omega)
      · rw [h2, if_pos rfl] at h; cases h
    · rw [h1, if_pos rfl] at h; cases h
theorem scan_of {D : Nat → Nat → Int} : ∀ (m j : Nat), (∀ k, k < m → dBad S wl wh (D (j + k)) = false ∧ dWak S wl wh (D (j + k)) = false) → dScan S wl wh D m j = (0, 0) := by
  intro m
  induction m with
  | zero => intro j _; rfl
  | succ m ih =>
    intro j h
    have h0 := h 0 (by omega)
    rw [Nat.add_zero] at h0
    unfold dScan
    rw [h0.1, if_neg (by decide), h0.2, if_neg (by decide)]
    exact ih (j + 1) fun k hk => by have := h (k + 1) (by omega); rwa [show j + (k + 1) = j + 1 + k by omega] at this
theorem lo_split (D : Nat → Nat → Int) (m q : Nat) : dLo D (m + q) = dLo D m + dLo (fun k => D (m + k)) q := by
  induction q with
  | zero => simp [dLo]
  | succ q ih => rw [← Nat.add_assoc]; simp only [dLo, ih]; omega
theorem hi_split (D : Nat → Nat → Int) (m q : Nat) : dHi D (m + q) = dHi D m + dHi (fun k => D (m + k)) q := by
  induction q with
  | zero => simp [dHi]
  | succ q ih => rw [← Nat.add_assoc]; simp only [dHi, ih]; omega
theorem desV_ok {n : Nat} {D : Nat → Nat → Int} (h : (desV S cl bu wl wh tl th el eh nl nh n D).2.2.2 = 0) :
    desC S cl bu wl wh tl th el eh nl nh = 0 ∧ n ≤ 50 ∧ (∀ k, k < n → dBad S wl wh (D k) = false ∧ dWak S wl wh (D k) = false) ∧ vspan (dLo D n) (dHi D n) = true ∧ desV S cl bu wl wh tl th el eh nl nh n D = (dLo D n, dHi D n, 0, 0) := by
  unfold desV at *
  by_cases h1 : desC S cl bu wl wh tl th el eh nl nh ≠ 0
  · rw [if_pos h1] at h; exact absurd h h1
  · rw [if_neg h1] at h ⊢
    by_cases h2 : 50 < n
    · rw [if_pos h2] at h; cases h
    · rw [if_neg h2] at h ⊢
      by_cases h3 : (dScan S wl wh D n 0).2 ≠ 0
      · rw [if_pos h3] at h; exact absurd h h3
      · rw [if_neg h3] at h ⊢
        have h3' : (dScan S wl wh D n 0).2 = 0 := by omega
        cases h4 : vspan (dLo D n) (dHi D n)
        · rw [h4, if_neg (by decide)] at h; cases h
        · rw [if_pos rfl]
          refine ⟨by omega, by omega, fun k hk => ?_, rfl, rfl⟩
          have := scan_all n 0 h3' k hk
          rwa [Nat.zero_add] at this
theorem desV_part {n : Nat} {D : Nat → Nat → Int} (hc : desC S cl bu wl wh tl th el eh nl nh = 0) (hn : n ≤ 50) (h : ∀ k, k < n → dBad S wl wh (D k) = false ∧ dWak S wl wh (D k) = false) :
    desV S cl bu wl wh tl th el eh nl nh n D = if vspan (dLo D n) (dHi D n) = true then (dLo D n, dHi D n, 0, 0) else (0, 0, 0, 2) := by
  unfold desV
  rw [if_neg (by omega), if_neg (by omega), scan_of n 0 (fun k hk => by rw [Nat.zero_add]; exact h k hk), if_neg (by decide)]
theorem dBad_no {d : Nat → Int} (h : dBad S wl wh d = false) : inB (d 4) 0 1000 = true ∧ vspan (d 0) (d 1) = true ∧ vspan (d 2) (d 3) = true ∧ lkE S.a (d 0) (d 1) wl wh = true := by
  unfold dBad at h
  simp only [Bool.or_eq_false_iff, Bool.not_eq_false'] at h
  exact h
theorem clear_drop {d : Nat → Int} (ha : airE S cl bu wl wh tl th el eh nl nh = 0) (hb : dBad S wl wh d = false) (hw : dWak S wl wh d = false) {x y : Int} (hx : x = d 0 ∨ x = d 1) (hy : y = d 2 ∨ y = d 3) :
    wakE S cl bu wl wh tl th el eh nl nh x x y y = 0 ∧ wakR S cl bu wl wh tl th el eh nl nh x x y y = false := by
  obtain ⟨h1, h2, h3, h4⟩ := dBad_no hb
  obtain ⟨hr, v1, v2, v3, v4⟩ := airE_zero ha
  have e : wakE S cl bu wl wh tl th el eh nl nh (d 0) (d 1) (d 2) (d 3) = 0 := by
    unfold wakE; rw [airE_then _ _ ha, h2, h3, h4]; rfl
  have l1 := vspan_le h2
  have l2 := vspan_le h3
  obtain ⟨s1, s2⟩ := wake_sub (S := S) (cl := cl) (bu := bu) ⟨⟨Int.le_refl _, vspan_le v1, Int.le_refl _⟩, ⟨Int.le_refl _, vspan_le v2, Int.le_refl _⟩, ⟨Int.le_refl _, vspan_le v3, Int.le_refl _⟩, ⟨Int.le_refl _, vspan_le v4, Int.le_refl _⟩⟩ (sl' := x) (sh' := x) (kl' := y) (kh' := y) (by omega) (by omega) e
  refine ⟨s1, ?_⟩
  cases hq : wakR S cl bu wl wh tl th el eh nl nh x x y y
  · rfl
  · have := s2 hq
    unfold wakR at this
    rw [e] at this
    unfold dWak at hw
    rw [hw] at this
    exact absurd this (by decide)
end
end Go.Proofs.Ytoembbcddhlokaa
