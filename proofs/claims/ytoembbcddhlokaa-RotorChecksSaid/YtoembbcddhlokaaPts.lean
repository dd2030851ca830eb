/- The order of fractions, and the least and the greatest of a list of points. No program is imported here. -/
import Derived.Test.YtoembbcddhlokaaMath
set_option linter.all false
namespace Go.Proofs.Ytoembbcddhlokaa
open Go Go.RowKit

theorem frac_split {n1 d1 n2 d2 : Int} (h1 : 1 ≤ d1) (h2 : 1 ≤ d2) :
    ∃ e D, 1 ≤ D ∧ -D < e ∧ e < D ∧ n1 * d2 - n2 * d1 = (n1 / d1 - n2 / d2) * D + e ∧ (n1 - n1 / d1 * d1) * d2 - (n2 - n2 / d2 * d2) * d1 = e := by
  have a0 := Int.emod_nonneg n1 (show d1 ≠ 0 by omega)
  have a1 := Int.emod_lt_of_pos n1 (show 0 < d1 by omega)
  have a2 := Int.emod_add_mul_ediv n1 d1
  have b0 := Int.emod_nonneg n2 (show d2 ≠ 0 by omega)
  have b1 := Int.emod_lt_of_pos n2 (show 0 < d2 by omega)
  have b2 := Int.emod_add_mul_ediv n2 d2
  generalize n1 / d1 = a at *
  generalize n2 / d2 = b at *
  generalize n1 % d1 = r at *
  generalize n2 % d2 = s at *
  have e1 : n1 - a * d1 = r := by rw [Int.mul_comm]; omega
  have e2 : n2 - b * d2 = s := by rw [Int.mul_comm]; omega
  refine ⟨r * d2 - s * d1, d1 * d2, ?_, ?_, ?_, ?_, ?_⟩
  · have := Int.mul_le_mul h1 h2 (by omega) (by omega); omega
  · have p1 : s * d1 ≤ (d2 - 1) * d1 := Int.mul_le_mul_of_nonneg_right (by omega) (by omega)
    have p2 : 0 ≤ r * d2 := Int.mul_nonneg (by omega) (by omega)
    rw [Int.sub_mul, Int.mul_comm d2 d1] at p1; omega
  · have p1 : r * d2 ≤ (d1 - 1) * d2 := Int.mul_le_mul_of_nonneg_right (by omega) (by omega)
    have p2 : 0 ≤ s * d1 := Int.mul_nonneg (by omega) (by omega)
    rw [Int.sub_mul] at p1; omega
  · have q1 : n1 * d2 = a * (d1 * d2) + r * d2 := by
      have : n1 = d1 * a + r := by omega
      rw [this, Int.add_mul, Int.mul_comm d1 a, Int.mul_assoc]
    have q2 : n2 * d1 = b * (d1 * d2) + s * d1 := by
      have : n2 = d2 * b + s := by omega
      rw [this, Int.add_mul, Int.mul_comm d2 b, Int.mul_assoc, Int.mul_comm d2 d1]
    rw [q1, q2, Int.sub_mul]; omega
  · rw [e1, e2]

def orV (x y : Int) : Int := if x = 0 then y else x
theorem orV_zero {y : Int} : orV 0 y = y := by simp [orV]
theorem orV_ne {x y : Int} (h : x ≠ 0) : orV x y = x := by simp [orV, h]
def cmpV (n1 d1 n2 d2 : Int) : Int := orV (n1 / d1 - n2 / d2) ((n1 - n1 / d1 * d1) * d2 - (n2 - n2 / d2 * d2) * d1)

theorem cmpV_lt {n1 d1 n2 d2 : Int} (h1 : 1 ≤ d1) (h2 : 1 ≤ d2) : cmpV n1 d1 n2 d2 < 0 ↔ n1 * d2 < n2 * d1 := by
  obtain ⟨e, D, hD, he1, he2, h, h'⟩ := frac_split (n1 := n1) (n2 := n2) h1 h2
  unfold cmpV
  rw [h']
  generalize n1 / d1 - n2 / d2 = k at *
  by_cases hk : k = 0
  · subst hk; rw [orV_zero]; simp at h; omega
  · rw [orV_ne hk]
    rcases Int.lt_or_lt_of_ne hk with hk | hk
    · have : k * D ≤ -1 * D := Int.mul_le_mul_of_nonneg_right (by omega) (by omega)
      omega
    · have : 1 * D ≤ k * D := Int.mul_le_mul_of_nonneg_right (by omega) (by omega)
      omega
theorem cmpV_gt {n1 d1 n2 d2 : Int} (h1 : 1 ≤ d1) (h2 : 1 ≤ d2) : 0 < cmpV n1 d1 n2 d2 ↔ n2 * d1 < n1 * d2 := by
  obtain ⟨e, D, hD, he1, he2, h, h'⟩ := frac_split (n1 := n1) (n2 := n2) h1 h2
  unfold cmpV
  rw [h']
  generalize n1 / d1 - n2 / d2 = k at *
  by_cases hk : k = 0
  · subst hk; rw [orV_zero]; simp at h; omega
  · rw [orV_ne hk]
    rcases Int.lt_or_lt_of_ne hk with hk | hk
    · have : k * D ≤ -1 * D := Int.mul_le_mul_of_nonneg_right (by omega) (by omega)
      omega
    · have : 1 * D ≤ k * D := Int.mul_le_mul_of_nonneg_right (by omega) (by omega)
      omega

/-- A point of a table, with its value, within the bounds that the arithmetic wants. -/
structure Pt where
  x : Int
  y : Int
  n : Int
  d : Int
  hn : -400000000000000 ≤ n ∧ n ≤ 400000000000000
  hd : 1 ≤ d ∧ d ≤ 400000000

def leP (p q : Pt) : Prop := p.n * q.d ≤ q.n * p.d
theorem leP.refl (p : Pt) : leP p p := Int.le_refl _
theorem leP.trans {p q r : Pt} (h : leP p q) (k : leP q r) : leP p r := by
  unfold leP at *
  have hp := p.hd.1
  have hq := q.hd.1
  have hr := r.hd.1
  -- p.n q.d r.d ≤ q.n p.d r.d ≤ r.n q.d p.d
  have h1 : p.n * q.d * r.d ≤ q.n * p.d * r.d := Int.mul_le_mul_of_nonneg_right h (by omega)
  have h2 : q.n * r.d * p.d ≤ r.n * q.d * p.d := Int.mul_le_mul_of_nonneg_right k (by omega)
  have e1 : q.n * p.d * r.d = q.n * r.d * p.d := by rw [Int.mul_assoc, Int.mul_comm p.d, ← Int.mul_assoc]
  have e2 : p.n * q.d * r.d = q.d * (p.n * r.d) := by rw [Int.mul_comm p.n, Int.mul_assoc]
  have e3 : r.n * q.d * p.d = q.d * (r.n * p.d) := by rw [Int.mul_comm r.n, Int.mul_assoc]
  have h3 : q.d * (p.n * r.d) ≤ q.d * (r.n * p.d) := by omega
  exact Int.le_of_mul_le_mul_left h3 (by omega)

def stepL (o : Option Pt) (p : Pt) : Option Pt := match o with | none => some p | some q => if cmpV p.n p.d q.n q.d < 0 then some p else some q
def stepM (o : Option Pt) (p : Pt) : Option Pt := match o with | none => some p | some q => if 0 < cmpV p.n p.d q.n q.d then some p else some q
def leastO (l : List Pt) : Option Pt := l.foldl stepL none
def mostO (l : List Pt) : Option Pt := l.foldl stepM none
theorem leastO_snoc (l : List Pt) (p : Pt) : leastO (l ++ [p]) = stepL (leastO l) p := by simp [leastO]
theorem mostO_snoc (l : List Pt) (p : Pt) : mostO (l ++ [p]) = stepM (mostO l) p := by simp [mostO]

theorem foldL_spec (l : List Pt) : ∀ o : Option Pt, (∀ q, o = some q → ∃ r, l.foldl stepL o = some r ∧ leP r q) ∧ (∀ p ∈ l, ∃ r, l.foldl stepL o = some r ∧ leP r p) ∧ (∀ r, l.foldl stepL o = some r → o = some r ∨ r ∈ l) := by
  induction l with
  | nil => intro o; exact ⟨fun q h => ⟨q, h, leP.refl q⟩, fun p hp => by simp at hp, fun r h => .inl h⟩
  | cons a l ih =>
    intro o
    obtain ⟨h1, h2, h3⟩ := ih (stepL o a)
    have key : (∀ q, o = some q → ∃ s, stepL o a = some s ∧ leP s q) ∧ (∃ s, stepL o a = some s ∧ leP s a) ∧ (∀ s, stepL o a = some s → o = some s ∨ s = a) := by
      cases o with
      | none => exact ⟨fun q h => (by cases h), ⟨a, rfl, leP.refl a⟩, fun s h => .inr (by simp [stepL] at h; exact h.symm)⟩
      | some q =>
        by_cases hc : cmpV a.n a.d q.n q.d < 0
        · have e : stepL (some q) a = some a := by simp [stepL, hc]
          have hl := (cmpV_lt a.hd.1 q.hd.1).1 hc
          exact ⟨fun q' h => ⟨a, e, by cases h; exact Int.le_of_lt hl⟩, ⟨a, e, leP.refl a⟩, fun s h => .inr (by rw [e] at h; cases h; rfl)⟩
        · have e : stepL (some q) a = some q := by simp [stepL, hc]
          have hl : ¬ a.n * q.d < q.n * a.d := fun h => hc ((cmpV_lt a.hd.1 q.hd.1).2 h)
          exact ⟨fun q' h => ⟨q, e, by cases h; exact leP.refl _⟩, ⟨q, e, by unfold leP; omega⟩, fun s h => .inl (by rw [e] at h; exact h)⟩
    refine ⟨fun q hq => ?_, fun p hp => ?_, fun r hr => ?_⟩
    · obtain ⟨s, hs, hsq⟩ := key.1 q hq
      obtain ⟨r, hr, hrs⟩ := h1 s hs
      exact ⟨r, hr, hrs.trans hsq⟩
    · rcases List.mem_cons.1 hp with rfl | hp
      · obtain ⟨s, hs, hsq⟩ := key.2.1
        obtain ⟨r, hr, hrs⟩ := h1 s hs
        exact ⟨r, hr, hrs.trans hsq⟩
      · exact h2 p hp
    · rcases h3 r hr with h | h
      · rcases key.2.2 r h with h | h
        · exact .inl h
        · subst h; exact .inr (List.mem_cons_self ..)
      · exact .inr (List.mem_cons_of_mem _ h)
theorem foldM_spec (l : List Pt) : ∀ o : Option Pt, (∀ q, o = some q → ∃ r, l.foldl stepM o = some r ∧ leP q r) ∧ (∀ p ∈ l, ∃ r, l.foldl stepM o = some r ∧ leP p r) ∧ (∀ r, l.foldl stepM o = some r → o = some r ∨ r ∈ l) := by
  induction l with
  | nil => intro o; exact ⟨fun q h => ⟨q, h, leP.refl q⟩, fun p hp => by simp at hp, fun r h => .inl h⟩
  | cons a l ih =>
    intro o
    obtain ⟨h1, h2, h3⟩ := ih (stepM o a)
    have key : (∀ q, o = some q → ∃ s, stepM o a = some s ∧ leP q s) ∧ (∃ s, stepM o a = some s ∧ leP a s) ∧ (∀ s, stepM o a = some s → o = some s ∨ s = a) := by
      cases o with
      | none => exact ⟨fun q h => (by cases h), ⟨a, rfl, leP.refl a⟩, fun s h => .inr (by simp [stepM] at h; exact h.symm)⟩
      | some q =>
        by_cases hc : 0 < cmpV a.n a.d q.n q.d
        · have e : stepM (some q) a = some a := by simp [stepM, hc]
          have hl := (cmpV_gt a.hd.1 q.hd.1).1 hc
          exact ⟨fun q' h => ⟨a, e, by cases h; exact Int.le_of_lt hl⟩, ⟨a, e, leP.refl a⟩, fun s h => .inr (by rw [e] at h; cases h; rfl)⟩
        · have e : stepM (some q) a = some q := by simp [stepM, hc]
          have hl : ¬ q.n * a.d < a.n * q.d := fun h => hc ((cmpV_gt a.hd.1 q.hd.1).2 h)
          exact ⟨fun q' h => ⟨q, e, by cases h; exact leP.refl _⟩, ⟨q, e, by unfold leP; omega⟩, fun s h => .inl (by rw [e] at h; exact h)⟩
    refine ⟨fun q hq => ?_, fun p hp => ?_, fun r hr => ?_⟩
    · obtain ⟨s, hs, hsq⟩ := key.1 q hq
      obtain ⟨r, hr, hrs⟩ := h1 s hs
      exact ⟨r, hr, hsq.trans hrs⟩
    · rcases List.mem_cons.1 hp with rfl | hp
      · obtain ⟨s, hs, hsq⟩ := key.2.1
        obtain ⟨r, hr, hrs⟩ := h1 s hs
        exact ⟨r, hr, hsq.trans hrs⟩
      · exact h2 p hp
    · rcases h3 r hr with h | h
      · rcases key.2.2 r h with h | h
        · exact .inl h
        · subst h; exact .inr (List.mem_cons_self ..)
      · exact .inr (List.mem_cons_of_mem _ h)
theorem leastO_some (l : List Pt) (h : l ≠ []) : ∃ p, leastO l = some p ∧ p ∈ l ∧ ∀ q ∈ l, leP p q := by
  obtain ⟨_, h2, h3⟩ := foldL_spec l none
  obtain ⟨a, ha⟩ := List.exists_mem_of_ne_nil l h
  obtain ⟨r, hr, _⟩ := h2 a ha
  refine ⟨r, hr, ?_, fun q hq => ?_⟩
  · rcases h3 r hr with h | h
    · cases h
    · exact h
  · obtain ⟨r', hr', h⟩ := h2 q hq
    rw [hr] at hr'; cases hr'; exact h
theorem mostO_some (l : List Pt) (h : l ≠ []) : ∃ p, mostO l = some p ∧ p ∈ l ∧ ∀ q ∈ l, leP q p := by
  obtain ⟨_, h2, h3⟩ := foldM_spec l none
  obtain ⟨a, ha⟩ := List.exists_mem_of_ne_nil l h
  obtain ⟨r, hr, _⟩ := h2 a ha
  refine ⟨r, hr, ?_, fun q hq => ?_⟩
  · rcases h3 r hr with h | h
    · cases h
    · exact h
  · obtain ⟨r', hr', h⟩ := h2 q hq
    rw [hr] at hr'; cases hr'; exact h
end Go.Proofs.Ytoembbcddhlokaa
