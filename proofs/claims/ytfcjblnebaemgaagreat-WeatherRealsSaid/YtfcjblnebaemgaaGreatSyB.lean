/- Plain law: the merge of two sorted neighbours whose order is asked only across. No program is imported here. -/
import Derived.Test.YtfcjblnebaemgaaGreatSyA
set_option linter.all false
namespace Go.Proofs.YtfcjblnebaemgaaGreat
open Go Go.Sort

variable {α : Type} [Inhabited α] {lt l1 l2 : α → α → Bool}

/-- What two sorted neighbours must be, for the merge that asks l1. -/
structure MergeIn (l1 l2 : α → α → Bool) (a m b : Nat) (d : Array α) : Prop where
  am : a < m
  mb : m < b
  bs : b ≤ d.size
  s1 : SortedIn l2 a m d
  s2 : SortedIn l2 m b d
  ag : ∀ i j, a ≤ i → i < m → m ≤ j → j < b → l1 d[j]! d[i]! = l2 d[j]! d[i]!
structure Merged (l2 : α → α → Bool) (a b : Nat) (d d' : Array α) : Prop where
  p : PermIn a b d d'
  s : SortedIn l2 a b d'

theorem permIn_up {a b a' b' : Nat} {d d' : Array α} (h : PermIn a b d d') (ha : a' ≤ a) (hb : b ≤ b') (hs : b' ≤ d.size) : PermIn a' b' d d' := permIn_mono d d' a b a' b' ha hb hs h

theorem moved_swr {a b n : Nat} {d d1 d2 : Array α} {f : Nat → Nat} (h : Moved d d1 f) (hn : a + n ≤ b) (hb : b + n ≤ d.size) (h2 : Moved d1 d2 (swrI a b n)) : Moved d d2 (fun k => f (swrI a b n k)) := by
  refine ⟨h2.1.trans h.1, fun k hk => ?_⟩
  rw [h2.2 k (by rw [h.1]; exact hk)]
  exact h.2 _ (by unfold swrI; (repeat' split) <;> omega)
theorem Moved.congr {d d' : Array α} {f g : Nat → Nat} (h : Moved d d' f) (e : ∀ k, f k = g k) : Moved d d' g := ⟨h.1, fun k hk => by rw [h.2 k hk, e]⟩
theorem rotI_self (a b k : Nat) : rotI a b b k = k := by unfold rotI; (repeat' split) <;> omega
theorem rotI_none (m b k : Nat) (h : m ≤ b) : rotI m m b k = k := by unfold rotI; (repeat' split) <;> omega

/-- The middle of the merge. -/
theorem sym_mid (hS : SWO l2) {a m b s e mid : Nat} {d d1 : Array α} (h : MergeIn l1 l2 a m b d) (c : Cut l2 a m b s e d) (hmid : s + (e - m) = mid) (hv : Moved d d1 (rotI s m e)) :
    d1.size = d.size ∧ (a < s → s < mid → MergeIn l1 l2 a s mid d1) ∧ (mid < e → e < b → MergeIn l1 l2 mid e b d1) ∧ (¬ (a < s ∧ s < mid) → SortedIn l2 a mid d1) ∧ (¬ (mid < e ∧ e < b) → SortedIn l2 mid b d1) ∧
      (∀ i j, a ≤ i → i < mid → mid ≤ j → j < b → l2 d1[j]! d1[i]! = false) := by
  obtain ⟨x1, x2, x3, x4, x5⟩ := c.cross hS h.bs h.s1 h.s2 hv
  obtain ⟨k1, k2, k3, k4, -, -⟩ := c
  have hb := h.bs
  have g1 : ∀ k, k < s → d1[k]! = d[k]! := fun k hk => by rw [hv.2 k (by omega)]; congr 1; unfold rotI; (repeat' split) <;> omega
  have g2 : ∀ k, s ≤ k → k < s + (e - m) → d1[k]! = d[m + (k - s)]! := fun k hk hk2 => by rw [hv.2 k (by omega)]; congr 1; unfold rotI; (repeat' split) <;> omega
  have g3 : ∀ k, s + (e - m) ≤ k → k < e → d1[k]! = d[k - (e - m)]! := fun k hk hk2 => by rw [hv.2 k (by omega)]; congr 1; unfold rotI; (repeat' split) <;> omega
  have g4 : ∀ k, e ≤ k → k < b → d1[k]! = d[k]! := fun k hk hk2 => by rw [hv.2 k (by omega)]; congr 1; unfold rotI; (repeat' split) <;> omega
  subst hmid
  refine ⟨hv.1, fun h1 h2 => ⟨h1, h2, by rw [hv.1]; omega, x1, x2, fun i j i1 i2 j1 j2 => ?_⟩, fun h1 h2 => ⟨h1, h2, by rw [hv.1]; omega, x3, x4, fun i j i1 i2 j1 j2 => ?_⟩, fun hn => ?_, fun hn => ?_, x5⟩
  · rw [g1 i i2, g2 j j1 j2]; exact h.ag _ _ i1 (by omega) (by omega) (by omega)
  · rw [g3 i i1 i2, g4 j j1 j2]; exact h.ag _ _ (by omega) (by omega) (by omega) (by omega)
  · by_cases e1 : a = s
    · subst e1; exact x2
    · have : s = s + (e - m) := by omega
      rw [← this]; exact x1
  · by_cases e1 : s + (e - m) = e
    · rw [e1]; exact x4
    · have : e = b := by omega
      rw [← this]; exact x3
/-- Its second half is left as it was by the first. -/
theorem MergeIn.kept {a' b' a m b : Nat} {d d' : Array α} (h : MergeIn l1 l2 a m b d) (hp : PermIn a' b' d d') (hb : b' ≤ a) : MergeIn l1 l2 a m b d' := by
  have g : ∀ k, a ≤ k → d'[k]! = d[k]! := fun k hk => hp.2.1 k (.inr (by omega))
  have := h.am
  refine ⟨h.am, h.mb, by rw [hp.1]; exact h.bs, fun i j hi hij hj => ?_, fun i j hi hij hj => ?_, fun i j i1 i2 j1 j2 => ?_⟩
  · rw [g i hi, g j (by omega)]; exact h.s1 i j hi hij hj
  · rw [g i (by omega), g j (by omega)]; exact h.s2 i j hi hij hj
  · rw [g i i1, g j (by omega)]; exact h.ag i j i1 i2 j1 j2
theorem sorted_kept {a' b' a b : Nat} {d d' : Array α} (h : SortedIn lt a b d) (hp : PermIn a' b' d d') (hb : b' ≤ a ∨ b ≤ a') : SortedIn lt a b d' := by
  have g : ∀ k, a ≤ k → k < b → d'[k]! = d[k]! := fun k hk h2 => hp.2.1 k (by omega)
  intro i j hi hij hj
  rw [g i hi (by omega), g j (by omega) hj]; exact h i j hi hij hj
/-- The end of the merge. -/
theorem sym_fin {a mid b : Nat} {d d1 d2 d3 : Array α} (ham : a ≤ mid) (hmb : mid ≤ b) (hb : b ≤ d.size) (p1 : PermIn a b d d1) (hx : ∀ i j, a ≤ i → i < mid → mid ≤ j → j < b → l2 d1[j]! d1[i]! = false)
    (h2 : Merged l2 a mid d1 d2) (h3 : Merged l2 mid b d2 d3) : Merged l2 a b d d3 := by
  have z1 := p1.1
  have z2 := h2.p.1
  have P2 : PermIn a b d1 d2 := permIn_up h2.p (Nat.le_refl _) hmb (by omega)
  have P3 : PermIn a b d2 d3 := permIn_up h3.p ham (Nat.le_refl _) (by omega)
  refine ⟨permIn_trans _ _ _ a b (permIn_trans _ _ _ a b p1 P2) P3, ?_⟩
  refine sorted_halves (c := mid) (sorted_kept h2.s h3.p (.inr (Nat.le_refl _))) h3.s ?_
  intro i j hi hi2 hj hj2
  have e1 : ∀ k, k < mid → d3[k]! = d2[k]! := fun k hk => h3.p.2.1 k (.inl hk)
  have e2 : ∀ k, mid ≤ k → d2[k]! = d1[k]! := fun k hk => h2.p.2.1 k (.inr hk)
  rw [e1 i hi2]
  refine permIn_all d2 d3 mid b (fun y => l2 y d2[i]! = false) (by omega) h3.p (fun k k1 k2 => ?_) j hj hj2
  rw [e2 k k1]
  exact permIn_all d1 d2 a mid (fun x => l2 d1[k]! x = false) (by omega) h2.p (fun q q1 q2 => hx q k q1 q2 k1 k2) i hi hi2
theorem Merged.none {a b : Nat} {d : Array α} (h : SortedIn l2 a b d) : Merged l2 a b d d := ⟨permIn_refl d a b, h⟩
theorem PermIn.moved_none {a m b : Nat} {d : Array α} (h : a = m ∨ m = b) (hm : m ≤ b) : Moved d d (rotI a m b) := by
  refine ⟨rfl, fun k _ => ?_⟩
  rcases h with rfl | rfl
  · rw [rotI_none _ _ _ hm]
  · rw [rotI_self]

/-! ### The order of keys and of places -/
/-- Stable order by key: equal keys stand by rank. -/
def keyLt (key rank : α → Int) (x y : α) : Bool := decide (key x < key y) || (decide (key x = key y) && decide (rank x < rank y))
theorem keyLt_swo (key rank : α → Int) : SWO (keyLt key rank) := by
  refine ⟨fun x => ?_, fun x y z => ?_, fun x y z => ?_⟩
  · unfold keyLt; simp
  · unfold keyLt; simp only [Bool.or_eq_true, Bool.and_eq_true, decide_eq_true_eq]; omega
  · unfold keyLt; simp only [Bool.or_eq_false_iff, Bool.and_eq_false_iff, decide_eq_false_iff_not]; omega
/-- Where the second stands behind the first in rank, the keys alone decide. -/
theorem keyLt_eq {key rank : α → Int} {x y : α} (h : rank y < rank x) : decide (key x < key y) = keyLt key rank x y := by
  unfold keyLt
  rw [show decide (rank x < rank y) = false from decide_eq_false (by omega)]
  simp
/-- One block, or two. -/
theorem stable_one {key rank : α → Int} {b c : Nat} {D : Array α} (hb : c ≤ D.size) (hr : ∀ i j, b ≤ i → i < j → j < c → rank D[i]! < rank D[j]!) :
    insertionSort (fun x y => decide (key x < key y)) D b c = insertionSort (keyLt key rank) D b c :=
  insertionSort_eq b c D hb fun p q h1 h2 h3 => keyLt_eq (hr q p h1 h2 h3)
end Go.Proofs.YtfcjblnebaemgaaGreat
