/- Texts joined: JAE. -/
import Derived.Test.YtonfnhonbnfdoaaGreatBas
import Derived.Sort.Statements
import Derived.Sort.Lot0
import Derived.Sort.LotA
import Derived.Test.YtonfnhonbnfdoaaGreatProg
import Derived.Shelf.SlSortCmp.Insertion1
set_option linter.all false
namespace Go.Proofs.YtonfnhonbnfdoaaGreat
open Go Go.Sort

variable {α : Type} [Inhabited α] {lt : α → α → Bool}

/-- d' holds at k what d held at f k. -/
def Moved (d d' : Array α) (f : Nat → Nat) : Prop := d'.size = d.size ∧ ∀ k, k < d.size → d'[k]! = d[f k]!
/-- Where the numbers come from when [a, a + n) and [b, b + n) are exchanged. -/
def swrI (a b n k : Nat) : Nat := if a ≤ k ∧ k < a + n then k - a + b else if b ≤ k ∧ k < b + n then k - b + a else k
/-- Where they come from when [a, m) and [m, b) change places. -/
def rotI (a m b k : Nat) : Nat := if k < a then k else if k < a + (b - m) then m + (k - a) else if k < b then k - (b - m) else k
theorem Moved.refl (d : Array α) : Moved d d id := ⟨rfl, fun _ _ => rfl⟩
theorem swrI_zero (a b k : Nat) : swrI a b 0 k = k := by unfold swrI; (repeat' split) <;> omega
theorem swrI_step {d dk : Array α} {a b i n : Nat} (h : Moved d dk (swrI a b i)) (hi : i < n) (hab : a + n ≤ b) (hb : b + n ≤ d.size) : Moved d (swp dk (a + i) (b + i)) (swrI a b (i + 1)) := by
  refine ⟨by rw [size_swp, h.1], fun k hk => ?_⟩
  have hk' : k < dk.size := by rw [h.1]; exact hk
  rw [swp_get dk (i := a + i) (j := b + i) (by rw [h.1]; omega) (by rw [h.1]; omega)]
  split
  · rename_i e; subst e
    rw [h.2 _ (by omega)]; congr 1; unfold swrI; (repeat' split) <;> omega
  · split
    · rename_i e; subst e
      rw [h.2 _ (by omega)]; congr 1; unfold swrI; (repeat' split) <;> omega
    · rw [h.2 _ hk]; congr 1; unfold swrI; (repeat' split) <;> omega
/-- One round of the exchange of unlike parts. -/
theorem rot_gt {i j m k : Nat} (hi : i ≤ m) (hij : j < i) : swrI (m - i) m j (rotI (m - (i - j)) m (m + j) k) = rotI (m - i) m (m + j) k := by
  unfold swrI rotI; (repeat' split) <;> omega
theorem rot_lt {i j m k : Nat} (hi : i ≤ m) (hij : i < j) : swrI (m - i) (m + j - i) i (rotI (m - i) m (m + (j - i)) k) = rotI (m - i) m (m + j) k := by
  unfold swrI rotI; (repeat' split) <;> omega
theorem rot_eq {i m k : Nat} (hi : i ≤ m) : swrI (m - i) m i k = rotI (m - i) m (m + i) k := by
  unfold swrI rotI; (repeat' split) <;> omega
/-- One number on its way up, and down. -/
theorem rot_up {d dk : Array α} {a k i : Nat} (h : Moved d dk (rotI a (a + 1) (k + 1))) (hk : a ≤ k) (hi : k + 1 < i) (hs : i ≤ d.size) : Moved d (swp dk k (k + 1)) (rotI a (a + 1) (k + 2)) := by
  refine ⟨by rw [size_swp, h.1], fun q hq => ?_⟩
  rw [swp_get dk (i := k) (j := k + 1) (by rw [h.1]; omega) (by rw [h.1]; omega)]
  split
  · rename_i e; subst e
    rw [h.2 _ (by omega)]; congr 1; unfold rotI; (repeat' split) <;> omega
  · split
    · rename_i e; subst e
      rw [h.2 _ (by omega)]; congr 1; unfold rotI; (repeat' split) <;> omega
    · rw [h.2 _ hq]; congr 1; unfold rotI; (repeat' split) <;> omega
theorem rot_down {d dk : Array α} {m k : Nat} (h : Moved d dk (rotI k m (m + 1))) (hk : 0 < k) (hkm : k ≤ m) (hs : m < d.size) : Moved d (swp dk k (k - 1)) (rotI (k - 1) m (m + 1)) := by
  refine ⟨by rw [size_swp, h.1], fun q hq => ?_⟩
  rw [swp_get dk (i := k) (j := k - 1) (by rw [h.1]; omega) (by rw [h.1]; omega)]
  split
  · rename_i e; subst e
    rw [h.2 _ (by omega)]; congr 1; unfold rotI; (repeat' split) <;> omega
  · split
    · rename_i e; subst e
      rw [h.2 _ (by omega)]; congr 1; unfold rotI; (repeat' split) <;> omega
    · rw [h.2 _ hq]; congr 1; unfold rotI; (repeat' split) <;> omega

/-- Two sorted halves, none of the right one less than one of the left one. -/
theorem sorted_halves {a c b : Nat} {d : Array α} (h1 : SortedIn lt a c d) (h2 : SortedIn lt c b d) (hx : ∀ i j, a ≤ i → i < c → c ≤ j → j < b → lt d[j]! d[i]! = false) : SortedIn lt a b d := by
  intro i j hi hij hj
  by_cases h : j < c
  · exact h1 i j hi hij h
  · by_cases h' : i < c
    · exact hx i j hi h' (by omega) hj
    · exact h2 i j (by omega) hij hj
/-- How the merge is cut: s and e, the parts [s, m) and [m, e) change places. -/
structure Cut (lt : α → α → Bool) (a m b s e : Nat) (d : Array α) : Prop where
  p1 : a ≤ s
  p2 : s ≤ m
  p3 : m ≤ e
  p4 : e ≤ b
  p5 : a < s → e < b → lt d[e]! d[s - 1]! = false
  p6 : s < m → m < e → lt d[e - 1]! d[s]! = true
theorem sorted_le (hS : SWO lt) {a b : Nat} {d : Array α} (h : SortedIn lt a b d) {i j : Nat} (hi : a ≤ i) (hij : i ≤ j) (hj : j < b) : lt d[j]! d[i]! = false := by
  by_cases e : i = j
  · subst e; exact hS.irrefl _
  · exact h i j hi (by omega) hj
theorem Cut.cross (hS : SWO lt) {a m b s e : Nat} {d d' : Array α} (c : Cut lt a m b s e d) (hb : b ≤ d.size) (h1 : SortedIn lt a m d) (h2 : SortedIn lt m b d) (hm : Moved d d' (rotI s m e)) :
    SortedIn lt a s d' ∧ SortedIn lt s (s + (e - m)) d' ∧ SortedIn lt (s + (e - m)) e d' ∧ SortedIn lt e b d' ∧
      ∀ i j, a ≤ i → i < s + (e - m) → s + (e - m) ≤ j → j < b → lt d'[j]! d'[i]! = false := by
  obtain ⟨k1, k2, k3, k4, k5, k6⟩ := c
  have g1 : ∀ k, k < s → k < d.size → d'[k]! = d[k]! := fun k hk hd => by rw [hm.2 k hd]; congr 1; unfold rotI; (repeat' split) <;> omega
  have g2 : ∀ k, s ≤ k → k < s + (e - m) → d'[k]! = d[m + (k - s)]! := fun k hk hk2 => by rw [hm.2 k (by omega)]; congr 1; unfold rotI; (repeat' split) <;> omega
  have g3 : ∀ k, s + (e - m) ≤ k → k < e → d'[k]! = d[k - (e - m)]! := fun k hk hk2 => by rw [hm.2 k (by omega)]; congr 1; unfold rotI; (repeat' split) <;> omega
  have g4 : ∀ k, e ≤ k → k < b → d'[k]! = d[k]! := fun k hk hk2 => by rw [hm.2 k (by omega)]; congr 1; unfold rotI; (repeat' split) <;> omega
  refine ⟨fun i j hi hij hj => ?_, fun i j hi hij hj => ?_, fun i j hi hij hj => ?_, fun i j hi hij hj => ?_, fun i j hi hi2 hj hj2 => ?_⟩
  · rw [g1 i (by omega) (by omega), g1 j (by omega) (by omega)]; exact h1 i j hi hij (by omega)
  · rw [g2 i (by omega) (by omega), g2 j (by omega) (by omega)]; exact h2 _ _ (by omega) (by omega) (by omega)
  · rw [g3 i (by omega) (by omega), g3 j (by omega) (by omega)]; exact h1 _ _ (by omega) (by omega) (by omega)
  · rw [g4 i (by omega) (by omega), g4 j (by omega) (by omega)]; exact h2 _ _ (by omega) (by omega) (by omega)
  · by_cases hi3 : i < s
    · rw [g1 i hi3 (by omega)]
      by_cases hj3 : j < e
      · rw [g3 j hj hj3]; exact h1 _ _ hi (by omega) (by omega)
      · rw [g4 j (by omega) hj2]
        have hle := k5 (by omega) (by omega)
        exact hS.ntrans _ _ _ (hS.ntrans _ _ _ (sorted_le hS h2 (by omega) (by omega) hj2) hle) (sorted_le hS h1 hi (by omega) (by omega))
    · rw [g2 i (by omega) (by omega)]
      by_cases hj3 : j < e
      · rw [g3 j hj hj3]
        have hlt := hS.asymmA (k6 (by omega) (by omega))
        exact hS.ntrans _ _ _ (hS.ntrans _ _ _ (sorted_le hS h1 (by omega) (by omega) (by omega)) hlt) (sorted_le hS h2 (by omega) (by omega) (by omega))
      · rw [g4 j (by omega) hj2]; exact sorted_le hS h2 (by omega) (by omega) hj2

theorem insInner_perm (a i : Nat) : ∀ (j : Nat) (d : Array α), a ≤ j → j ≤ i → i < d.size → PermIn a (i + 1) d (insInner lt a j d)
  | 0, d, _, _, _ => by unfold insInner; exact permIn_refl d a (i + 1)
  | j + 1, d, haj, hji, hb => by
    unfold insInner
    split
    · rename_i hc
      simp only [Bool.and_eq_true, decide_eq_true_eq] at hc
      exact permIn_trans _ _ _ a (i + 1) (swp_permIn d a (i + 1) (j + 1) j haj (by omega) (by omega) (by omega) (by omega)) (insInner_perm a i j (swp d (j + 1) j) (by omega) (by omega) (by rw [swp_size]; exact hb))
    · exact permIn_refl d a (i + 1)
/-- Two orders that agree wherever they are asked sort alike. -/
theorem insInner_eq {l1 l2 : α → α → Bool} (x : α) (a : Nat) : ∀ (j : Nat) (d : Array α), j < d.size → d[j]! = x → (∀ q, a ≤ q → q < j → l1 x d[q]! = l2 x d[q]!) → insInner l1 a j d = insInner l2 a j d
  | 0, d, _, _, _ => by unfold insInner; rfl
  | j + 1, d, hj, hx, hq => by
    unfold insInner
    rw [hx]
    by_cases h : j + 1 > a
    · rw [hq j (by omega) (by omega)]
      split
      · exact insInner_eq x a j (swp d (j + 1) j) (by rw [swp_size]; omega) (by rw [swp_get d hj (by omega)]; simp [hx]) (fun q h1 h2 => by
          rw [swp_get d hj (by omega), if_neg (by omega), if_neg (by omega)]; exact hq q h1 (by omega))
      · rfl
    · rw [show decide (j + 1 > a) = false from decide_eq_false h]; rfl
theorem insOuter_eq {l1 l2 : α → α → Bool} (a b : Nat) (D : Array α) (hb : b ≤ D.size) (hq : ∀ p q, a ≤ q → q < p → p < b → l1 D[p]! D[q]! = l2 D[p]! D[q]!) :
    ∀ (n i : Nat) (d : Array α), b - i = n → a ≤ i → i ≤ b → PermIn a i D d → insOuter l1 a b i d = insOuter l2 a b i d
  | 0, i, d, hn, _, hib, _ => by rw [insOuter, if_neg (by omega), insOuter, if_neg (by omega)]
  | n + 1, i, d, hn, hai, hib, hp => by
    have hlt : i < b := by omega
    have hs : d.size = D.size := hp.1
    have u1 : insOuter l1 a b i d = insOuter l1 a b (i + 1) (insInner l1 a i d) := by rw [insOuter, if_pos hlt]
    have u2 : insOuter l2 a b i d = insOuter l2 a b (i + 1) (insInner l2 a i d) := by rw [insOuter, if_pos hlt]
    rw [u1, u2]
    have hdi : d[i]! = D[i]! := hp.2.1 i (.inr (Nat.le_refl _))
    have he : insInner l1 a i d = insInner l2 a i d := insInner_eq D[i]! a i d (by omega) hdi (fun q h1 h2 => permIn_all D d a i (fun y => l1 D[i]! y = l2 D[i]! y) (by omega) hp (fun k k1 k2 => hq i k k1 k2 hlt) q h1 h2)
    rw [he]
    refine insOuter_eq a b D hb hq n (i + 1) _ (by omega) (by omega) (by omega) ?_
    exact permIn_trans _ _ _ a (i + 1) (permIn_mono D d a i a (i + 1) (Nat.le_refl _) (by omega) (by omega) hp) (insInner_perm a i i d hai (Nat.le_refl _) (by omega))
theorem insertionSort_eq {l1 l2 : α → α → Bool} (a b : Nat) (D : Array α) (hb : b ≤ D.size) (hq : ∀ p q, a ≤ q → q < p → p < b → l1 D[p]! D[q]! = l2 D[p]! D[q]!) : insertionSort l1 D a b = insertionSort l2 D a b := by
  unfold insertionSort
  by_cases h : a + 1 ≤ b
  · refine insOuter_eq a b D hb hq _ (a + 1) D rfl (by omega) h (permIn_refl D a (a + 1))
  · rw [insOuter, if_neg (by omega), insOuter, if_neg (by omega)]

/-- One number before a sorted part. -/
theorem merge_one_left (hS : SWO lt) {a m b q : Nat} {d d' : Array α} (hm : m = a + 1) (h1 : m ≤ q) (h2 : q ≤ b) (hb : b ≤ d.size) (hs : SortedIn lt m b d) (c1 : q = m ∨ lt d[q - 1]! d[a]! = true) (c2 : q = b ∨ lt d[q]! d[a]! = false)
    (hv : Moved d d' (rotI a m q)) : SortedIn lt a b d' := by
  have g2 : ∀ k, a ≤ k → k < q - 1 → d'[k]! = d[k + 1]! := fun k hk hk2 => by rw [hv.2 k (by omega)]; congr 1; unfold rotI; (repeat' split) <;> omega
  have g3 : d'[q - 1]! = d[a]! := by rw [hv.2 _ (by omega)]; congr 1; unfold rotI; (repeat' split) <;> omega
  have g4 : ∀ k, q ≤ k → k < b → d'[k]! = d[k]! := fun k hk hk2 => by rw [hv.2 k (by omega)]; congr 1; unfold rotI; (repeat' split) <;> omega
  intro i j hi hij hj
  rcases (show i < q - 1 ∨ i = q - 1 ∨ q ≤ i by omega) with h | rfl | h
  · rw [g2 i hi h]
    rcases (show j < q - 1 ∨ j = q - 1 ∨ q ≤ j by omega) with h' | rfl | h'
    · rw [g2 j (by omega) h']; exact hs _ _ (by omega) (by omega) (by omega)
    · rw [g3]
      rcases c1 with c1 | c1
      · omega
      · exact hS.ntrans _ _ _ (hS.asymmA c1) (sorted_le hS hs (by omega) (by omega) (by omega))
    · rw [g4 j h' hj]; exact hs _ _ (by omega) (by omega) (by omega)
  · rw [g3, g4 j (by omega) hj]
    rcases c2 with c2 | c2
    · omega
    · exact hS.ntrans _ _ _ (sorted_le hS hs (by omega) (by omega) hj) c2
  · rw [g4 i h (by omega), g4 j (by omega) hj]; exact hs _ _ (by omega) hij hj
/-- One number behind a sorted part. -/
theorem merge_one_right (hS : SWO lt) {a m b q : Nat} {d d' : Array α} (hm : b = m + 1) (h1 : a ≤ q) (h2 : q ≤ m) (hb : b ≤ d.size) (hs : SortedIn lt a m d) (c1 : q = a ∨ lt d[m]! d[q - 1]! = false) (c2 : q = m ∨ lt d[m]! d[q]! = true)
    (hv : Moved d d' (rotI q m (m + 1))) : SortedIn lt a b d' := by
  have g1 : ∀ k, k < q → d'[k]! = d[k]! := fun k hk => by rw [hv.2 k (by omega)]; congr 1; unfold rotI; (repeat' split) <;> omega
  have g2 : d'[q]! = d[m]! := by rw [hv.2 _ (by omega)]; congr 1; unfold rotI; (repeat' split) <;> omega
  have g3 : ∀ k, q < k → k ≤ m → d'[k]! = d[k - 1]! := fun k hk hk2 => by rw [hv.2 k (by omega)]; congr 1; unfold rotI; (repeat' split) <;> omega
  intro i j hi hij hj
  rcases (show i < q ∨ i = q ∨ q < i by omega) with h | rfl | h
  · rw [g1 i h]
    rcases (show j < q ∨ j = q ∨ q < j by omega) with h' | rfl | h'
    · rw [g1 j h']; exact hs _ _ hi hij (by omega)
    · rw [g2]
      rcases c1 with c1 | c1
      · omega
      · exact hS.ntrans _ _ _ c1 (sorted_le hS hs hi (by omega) (by omega))
    · rw [g3 j h' (by omega)]; exact sorted_le hS hs hi (by omega) (by omega)
  · rw [g2, g3 j hij (by omega)]
    rcases c2 with c2 | c2
    · omega
    · exact hS.ntrans _ _ _ (sorted_le hS hs (by omega) (by omega) (by omega)) (hS.asymmA c2)
  · rw [g3 i h (by omega), g3 j (by omega) (by omega)]; exact hs _ _ (by omega) (by omega) (by omega)
/-- The search of the merge ends in a cut. -/
theorem cut_of {a m b mid n s lo hi : Nat} {d : Array α} (ham : a < m) (hmb : m < b) (hmid : mid = (a + b) / 2) (hn : n = mid + m) (h : (mid < m ∧ lo = n - b ∧ hi = mid) ∨ (m ≤ mid ∧ lo = a ∧ hi = m)) (h1 : lo ≤ s) (h2 : s ≤ hi)
    (c1 : s = lo ∨ lt d[n - s]! d[s - 1]! = false) (c2 : s = hi ∨ lt d[n - 1 - s]! d[s]! = true) : Cut lt a m b s (n - s) d ∧ s + (n - s - m) = mid ∧ a ≤ mid ∧ mid ≤ b := by
  refine ⟨⟨by omega, by omega, by omega, by omega, fun h3 h4 => ?_, fun h3 h4 => ?_⟩, by omega, by omega, by omega⟩
  · rcases c1 with c1 | c1
    · omega
    · exact c1
  · rcases c2 with c2 | c2
    · omega
    · rw [show n - s - 1 = n - 1 - s by omega]; exact c2
end Go.Proofs.YtonfnhonbnfdoaaGreat

namespace Go.Proofs.YtonfnhonbnfdoaaGreat
open Go Go.Sort

variable {α : Type} [Inhabited α] {lt l1 l2 : α → α → Bool}

/-- What two sorted neighbours must be, for the merge that asks l1. -/
structure MergeIn (l1 l2 : α → α → Bool) (a m b : Nat) (d : Array α) : Prop where
  am : a < m
  mb : m < b
  bs : b ≤ d.size
  s1 : SortedIn l2 a m d
  s2 : SortedIn l2 m b d
  ag : ∀ i j, a ≤ i → i < m → m ≤ j → j < b → l1 d[j]! d[i]! = l2 d[j]! d[i]!
structure Merged (l2 : α → α → Bool) (a b : Nat) (d d' : Array α) : Prop where
  p : PermIn a b d d'
  s : SortedIn l2 a b d'

theorem permIn_up {a b a' b' : Nat} {d d' : Array α} (h : PermIn a b d d') (ha : a' ≤ a) (hb : b ≤ b') (hs : b' ≤ d.size) : PermIn a' b' d d' := permIn_mono d d' a b a' b' ha hb hs h

theorem moved_swr {a b n : Nat} {d d1 d2 : Array α} {f : Nat → Nat} (h : Moved d d1 f) (hn : a + n ≤ b) (hb : b + n ≤ d.size) (h2 : Moved d1 d2 (swrI a b n)) : Moved d d2 (fun k => f (swrI a b n k)) := by
  refine ⟨h2.1.trans h.1, fun k hk => ?_⟩
  rw [h2.2 k (by rw [h.1]; exact hk)]
  exact h.2 _ (by unfold swrI; (repeat' split) <;> omega)
theorem Moved.congr {d d' : Array α} {f g : Nat → Nat} (h : Moved d d' f) (e : ∀ k, f k = g k) : Moved d d' g := ⟨h.1, fun k hk => by rw [h.2 k hk, e]⟩
theorem rotI_self (a b k : Nat) : rotI a b b k = k := by unfold rotI; (repeat' split) <;> omega
theorem rotI_none (m b k : Nat) (h : m ≤ b) : rotI m m b k = k := by unfold rotI; (repeat' split) <;> omega

/-- The middle of the merge. -/
theorem sym_mid (hS : SWO l2) {a m b s e mid : Nat} {d d1 : Array α} (h : MergeIn l1 l2 a m b d) (c : Cut l2 a m b s e d) (hmid : s + (e - m) = mid) (hv : Moved d d1 (rotI s m e)) :
    d1.size = d.size ∧ (a < s → s < mid → MergeIn l1 l2 a s mid d1) ∧ (mid < e → e < b → MergeIn l1 l2 mid e b d1) ∧ (¬ (a < s ∧ s < mid) → SortedIn l2 a mid d1) ∧ (¬ (mid < e ∧ e < b) → SortedIn l2 mid b d1) ∧
      (∀ i j, a ≤ i → i < mid → mid ≤ j → j < b → l2 d1[j]! d1[i]! = false) := by
  obtain ⟨x1, x2, x3, x4, x5⟩ := c.cross hS h.bs h.s1 h.s2 hv
  obtain ⟨k1, k2, k3, k4, -, -⟩ := c
  have hb := h.bs
  have g1 : ∀ k, k < s → d1[k]! = d[k]! := fun k hk => by rw [hv.2 k (by omega)]; congr 1; unfold rotI; (repeat' split) <;> omega
  have g2 : ∀ k, s ≤ k → k < s + (e - m) → d1[k]! = d[m + (k - s)]! := fun k hk hk2 => by rw [hv.2 k (by omega)]; congr 1; unfold rotI; (repeat' split) <;> omega
  have g3 : ∀ k, s + (e - m) ≤ k → k < e → d1[k]! = d[k - (e - m)]! := fun k hk hk2 => by rw [hv.2 k (by omega)]; congr 1; unfold rotI; (repeat' split) <;> omega
  have g4 : ∀ k, e ≤ k → k < b → d1[k]! = d[k]! := fun k hk hk2 => by rw [hv.2 k (by omega)]; congr 1; unfold rotI; (repeat' split) <;> omega
  subst hmid
  refine ⟨hv.1, fun h1 h2 => ⟨h1, h2, by rw [hv.1]; omega, x1, x2, fun i j i1 i2 j1 j2 => ?_⟩, fun h1 h2 => ⟨h1, h2, by rw [hv.1]; omega, x3, x4, fun i j i1 i2 j1 j2 => ?_⟩, fun hn => ?_, fun hn => ?_, x5⟩
  · rw [g1 i i2, g2 j j1 j2]; exact h.ag _ _ i1 (by omega) (by omega) (by omega)
  · rw [g3 i i1 i2, g4 j j1 j2]; exact h.ag _ _ (by omega) (by omega) (by omega) (by omega)
  · by_cases e1 : a = s
    · subst e1; exact x2
    · have : s = s + (e - m) := by omega
      rw [← this]; exact x1
  · by_cases e1 : s + (e - m) = e
    · rw [e1]; exact x4
    · have : e = b := by omega
      rw [← this]; exact x3
/-- Its second half is left as it was by the first. -/
theorem MergeIn.kept {a' b' a m b : Nat} {d d' : Array α} (h : MergeIn l1 l2 a m b d) (hp : PermIn a' b' d d') (hb : b' ≤ a) : MergeIn l1 l2 a m b d' := by
  have g : ∀ k, a ≤ k → d'[k]! = d[k]! := fun k hk => hp.2.1 k (.inr (by omega))
  have := h.am
  refine ⟨h.am, h.mb, by rw [hp.1]; exact h.bs, fun i j hi hij hj => ?_, fun i j hi hij hj => ?_, fun i j i1 i2 j1 j2 => ?_⟩
  · rw [g i hi, g j (by omega)]; exact h.s1 i j hi hij hj
  · rw [g i (by omega), g j (by omega)]; exact h.s2 i j hi hij hj
  · rw [g i i1, g j (by omega)]; exact h.ag i j i1 i2 j1 j2
theorem sorted_kept {a' b' a b : Nat} {d d' : Array α} (h : SortedIn lt a b d) (hp : PermIn a' b' d d') (hb : b' ≤ a ∨ b ≤ a') : SortedIn lt a b d' := by
  have g : ∀ k, a ≤ k → k < b → d'[k]! = d[k]! := fun k hk h2 => hp.2.1 k (by omega)
  intro i j hi hij hj
  rw [g i hi (by omega), g j (by omega) hj]; exact h i j hi hij hj
/-- The end of the merge. -/
theorem sym_fin {a mid b : Nat} {d d1 d2 d3 : Array α} (ham : a ≤ mid) (hmb : mid ≤ b) (hb : b ≤ d.size) (p1 : PermIn a b d d1) (hx : ∀ i j, a ≤ i → i < mid → mid ≤ j → j < b → l2 d1[j]! d1[i]! = false)
    (h2 : Merged l2 a mid d1 d2) (h3 : Merged l2 mid b d2 d3) : Merged l2 a b d d3 := by
  have z1 := p1.1
  have z2 := h2.p.1
  have P2 : PermIn a b d1 d2 := permIn_up h2.p (Nat.le_refl _) hmb (by omega)
  have P3 : PermIn a b d2 d3 := permIn_up h3.p ham (Nat.le_refl _) (by omega)
  refine ⟨permIn_trans _ _ _ a b (permIn_trans _ _ _ a b p1 P2) P3, ?_⟩
  refine sorted_halves (c := mid) (sorted_kept h2.s h3.p (.inr (Nat.le_refl _))) h3.s ?_
  intro i j hi hi2 hj hj2
  have e1 : ∀ k, k < mid → d3[k]! = d2[k]! := fun k hk => h3.p.2.1 k (.inl hk)
  have e2 : ∀ k, mid ≤ k → d2[k]! = d1[k]! := fun k hk => h2.p.2.1 k (.inr hk)
  rw [e1 i hi2]
  refine permIn_all d2 d3 mid b (fun y => l2 y d2[i]! = false) (by omega) h3.p (fun k k1 k2 => ?_) j hj hj2
  rw [e2 k k1]
  exact permIn_all d1 d2 a mid (fun x => l2 d1[k]! x = false) (by omega) h2.p (fun q q1 q2 => hx q k q1 q2 k1 k2) i hi hi2
theorem Merged.none {a b : Nat} {d : Array α} (h : SortedIn l2 a b d) : Merged l2 a b d d := ⟨permIn_refl d a b, h⟩
theorem PermIn.moved_none {a m b : Nat} {d : Array α} (h : a = m ∨ m = b) (hm : m ≤ b) : Moved d d (rotI a m b) := by
  refine ⟨rfl, fun k _ => ?_⟩
  rcases h with rfl | rfl
  · rw [rotI_none _ _ _ hm]
  · rw [rotI_self]

/-! ### The order of keys and of places -/
/-- Stable order by key: equal keys stand by rank. -/
def keyLt (key rank : α → Int) (x y : α) : Bool := decide (key x < key y) || (decide (key x = key y) && decide (rank x < rank y))
theorem keyLt_swo (key rank : α → Int) : SWO (keyLt key rank) := by
  refine ⟨fun x => ?_, fun x y z => ?_, fun x y z => ?_⟩
  · unfold keyLt; simp
  · unfold keyLt; simp only [Bool.or_eq_true, Bool.and_eq_true, decide_eq_true_eq]; omega
  · unfold keyLt; simp only [Bool.or_eq_false_iff, Bool.and_eq_false_iff, decide_eq_false_iff_not]; omega
/-- Where the second stands behind the first in rank, the keys alone decide. -/
theorem keyLt_eq {key rank : α → Int} {x y : α} (h : rank y < rank x) : decide (key x < key y) = keyLt key rank x y := by
  unfold keyLt
  rw [show decide (rank x < rank y) = false from decide_eq_false (by omega)]
  simp
/-- One block, or two. -/
theorem stable_one {key rank : α → Int} {b c : Nat} {D : Array α} (hb : c ≤ D.size) (hr : ∀ i j, b ≤ i → i < j → j < c → rank D[i]! < rank D[j]!) :
    insertionSort (fun x y => decide (key x < key y)) D b c = insertionSort (keyLt key rank) D b c :=
  insertionSort_eq b c D hb fun p q h1 h2 h3 => keyLt_eq (hr q p h1 h2 h3)
end Go.Proofs.YtonfnhonbnfdoaaGreat

namespace Go.Proofs.YtonfnhonbnfdoaaGreat
open Go Go.Shelf Go.RowKit Go.Lib Go.Sort Go.Proofs
set_option maxRecDepth 1000000
variable {α : Type} [Inhabited α]


set_option maxHeartbeats 8000000 in
/-- [a, a + n) and [b, b + n) are exchanged. -/
theorem swapRange_c (enc : α → Value) (g : Nat) (cb : Array Value) (blk off cap a b n : Nat) (d0 d : Array α) (w0 w : World)
    (R : Row1 enc w0 blk off d0) (hs : d0.size = d.size) (S : SW enc w0 blk off d w) (hab : a + n ≤ b) (hb : b + n ≤ d.size) (hsz : d.size < 4611686018427387904) :
    Calls Tryz.prog 188 #[.slice (some ⟨blk, off, none⟩) d.size cap, .int .i64 a, .int .i64 b, .int .i64 n, .func (.func g) #[] cb] w fun e w' => e = .returned (.tuple #[]) ∧
      ∃ d', SW enc w0 blk off d' w' ∧ Moved d d' (swrI a b n) ∧ ∀ lo hi, lo ≤ a → b + n ≤ hi → hi ≤ d.size → PermIn lo hi d d' := by
  have hcl0 := R.hO.cells
  simp only [Value.cells] at hcl0
  have hst := R.hO.store Tryz.prog
  have mixed : Tryz.prog.follows Departure.mixedOrders = true := by kernel_rfl
  have S0 : Aside (SW enc w0 blk off d w) := S
  clear S
  go_enter Tryz.func188, Tryz.ntmps188
  go_wp2
  go_loopg [10] n (fun gx s wr => ∃ (i : Nat) (dk : Array α), s = .int .i64 i ∧ i ≤ n ∧ n - i ≤ gx ∧ dk.size = d.size ∧ Aside (SW enc w0 blk off dk wr) ∧ Aside (Moved d dk (swrI a b i) ∧ ∀ lo hi, lo ≤ a → b + n ≤ hi → hi ≤ d.size → PermIn lo hi d dk))
  case atStart => exact ⟨0, d, by first | rfl | go_num, Nat.zero_le _, by omega, rfl, S0, ⟨⟨rfl, fun k _ => by rw [swrI_zero]⟩, fun lo hi _ _ _ => permIn_refl d lo hi⟩⟩
  case round =>
    clear S0
    obtain ⟨i, dk, rfl, hin, hg1, hsk, S1, HM⟩ := hrel
    by_cases hlt : i < n
    · have hltz : (i : Int) < (n : Int) := by omega
      have HM2 : Aside (Moved d (swp dk (a + i) (b + i)) (swrI a b (i + 1)) ∧ ∀ lo hi, lo ≤ a → b + n ≤ hi → hi ≤ d.size → PermIn lo hi d (swp dk (a + i) (b + i))) :=
        ⟨swrI_step HM.out.1 hlt hab hb, fun lo hi h1 h2 h3 => permIn_trans _ _ _ lo hi (HM.out.2 lo hi h1 h2 h3) (swp_permIn dk lo hi (a + i) (b + i) (by omega) (by omega) (by omega) (by omega) (by rw [hsk]; exact h3))⟩
      clear HM
      go_wp2_with fail
      obtain ⟨iN1, hiN1⟩ : ∃ q, q = (a + i) := ⟨_, rfl⟩
      obtain ⟨jN1, hjN1⟩ : ∃ q, q = (b + i) := ⟨_, rfl⟩
      have ea1 : (((a : Int) + (i : Int))).toNat = iN1 := by omega
      have pa1 : (0 : Int) ≤ ((a : Int) + (i : Int)) := by omega
      have ba1 : ((a : Int) + (i : Int)) < (d.size : Int) := by omega
      have ra1 : IntKind.i64.wrap (((a : Int) + (i : Int))) = ((a : Int) + (i : Int)) := by rw [IntKind.wrap_i64]; omega
      have ec1 : (((b : Int) + (i : Int))).toNat = jN1 := by omega
      have pc1 : (0 : Int) ≤ ((b : Int) + (i : Int)) := by omega
      have bc1 : ((b : Int) + (i : Int)) < (d.size : Int) := by omega
      have rc1 : IntKind.i64.wrap (((b : Int) + (i : Int))) = ((b : Int) + (i : Int)) := by rw [IntKind.wrap_i64]; omega
      obtain ⟨x1, hx1⟩ : ∃ x, x = dk[(a + i)]! := ⟨_, rfl⟩
      obtain ⟨y1, hy1⟩ : ∃ x, x = dk[(b + i)]! := ⟨_, rfl⟩
      have S2 : Aside (SW enc w0 blk off (swp dk ((a + i)) ((b + i))) ((wr.setCell ⟨blk, off + iN1, none⟩ (enc y1)).setCell ⟨blk, off + jN1, none⟩ (enc x1)).drew) := by rw [hiN1, hjN1, hx1, hy1]; exact S1.out.swapped R ((a + i)) ((b + i)) (by omega) (by omega)
      have ca1 := S1.out.c1 R (by omega) ((a + i)) (by omega)
      have cb1 := S1.out.c1 R (by omega) ((b + i)) (by omega)
      have fa1 := S1.out.f1 R (by omega) ((a + i)) (by omega)
      have fb1 := S1.out.f1 R (by omega) ((b + i)) (by omega)
      obtain ⟨u1, cc1⟩ := S1.out.c2 R (by omega) ((a + i)) ((b + i)) (by omega) (by omega) (enc y1)
      rw [← hjN1, ← hiN1] at cc1
      rw [← hx1, ← hiN1] at ca1
      rw [← hy1, ← hjN1] at cb1
      rw [← hiN1] at fa1
      rw [← hjN1] at fb1
      clear S1 hx1 hy1 hiN1 hjN1
      go_wp2_with fail
      go_big_region_o
      clear ca1 cb1 cc1 fa1 fb1
      generalize ((wr.setCell ⟨blk, off + iN1, none⟩ (enc y1)).setCell ⟨blk, off + jN1, none⟩ (enc x1)).drew = w2 at S2 ⊢
      clear ea1 ec1 ra1 rc1 pa1 pc1 ba1 bc1
      go_wp2
      go_roundg (n - (i + 1))
      case measure => omega
      case rel => exact ⟨i + 1, swp dk (a + i) (b + i), by first | rfl | go_num | (congr 1; omega), by omega, Nat.le_refl _, by rw [size_swp]; exact hsk, S2, HM2⟩
    · have hltz : ¬ (i : Int) < (n : Int) := by omega
      have e : i = n := by omega
      subst e
      go_wp2
      go_end0
      exact ⟨rfl, dk, S1.out, HM.out.1, HM.out.2⟩

set_option maxHeartbeats 8000000 in
/-- [a, m) and [m, b) change places. -/
theorem rotate_c (enc : α → Value) (g : Nat) (cb : Array Value) (blk off cap a m b : Nat) (d0 d : Array α) (w0 w : World)
    (R : Row1 enc w0 blk off d0) (hs : d0.size = d.size) (S : SW enc w0 blk off d w) (ham : a < m) (hmb : m < b) (hb : b ≤ d.size) (hsz : d.size < 4611686018427387904) :
    Calls Tryz.prog 176 #[.slice (some ⟨blk, off, none⟩) d.size cap, .int .i64 a, .int .i64 m, .int .i64 b, .func (.func g) #[] cb] w fun e w' => e = .returned (.tuple #[]) ∧
      ∃ d', SW enc w0 blk off d' w' ∧ Moved d d' (rotI a m b) ∧ PermIn a b d d' := by
  have S0 : Aside (SW enc w0 blk off d w) := S
  clear S
  go_enter Tryz.func176, Tryz.ntmps176
  go_wp2
  go_loopg [10, 11] (b - a) (fun gx s t wr => ∃ (i j : Nat) (dk : Array α) (f : Nat → Nat), s = .int .i64 i ∧ t = .int .i64 j ∧ 0 < i ∧ 0 < j ∧ i ≤ m - a ∧ j ≤ b - m ∧ i + j ≤ gx ∧ dk.size = d.size ∧ Aside (SW enc w0 blk off dk wr) ∧
    Aside (Moved d dk f ∧ (∀ k, f (rotI (m - i) m (m + j) k) = rotI a m b k) ∧ PermIn a b d dk))
  case atStart => exact ⟨m - a, b - m, d, id, by first | rfl | go_num | (congr 1; omega), by first | rfl | go_num | (congr 1; omega), by omega, by omega, Nat.le_refl _, Nat.le_refl _, by omega, rfl, S0, Moved.refl d, fun k => by rw [show m - (m - a) = a by omega, show m + (b - m) = b by omega]; rfl, permIn_refl d a b⟩
  case round =>
    clear S0
    obtain ⟨i, j, dk, f, rfl, rfl, hi0, hj0, him, hjb, hg1, hsk, S1, HM⟩ := hrel
    by_cases heq : i = j
    · subst heq
      have hc := fun w1 (h : SW enc w0 blk off dk w1) => swapRange_c enc g cb blk off cap (m - i) m i d0 dk w0 w1 R (by omega) h (by omega) (by omega) (by omega)
      rw [hsk] at hc
      have HC := Lib.hid hc
      clear hc
      have e1 : ((m : Int) - (i : Int)) = ((m - i : Nat) : Int) := by omega
      go_wp2_with (go_at_call 188; refine (HC.out _ S1.out).mono ?_; rintro e w2 ⟨rfl, d2, S2, M2, P2⟩)
      go_end0
      refine ⟨rfl, d2, S2, ?_, permIn_trans _ _ _ a b HM.out.2.2 (P2 a b (by omega) (by omega) (by omega))⟩
      refine (moved_swr HM.out.1 (by omega) (by omega) M2).congr fun k => ?_
      rw [rot_eq (by omega), HM.out.2.1]
    · have hne : ((i : Int) != (j : Int)) = true := by simp; omega
      by_cases hgt : j < i
      · have hgz : (j : Int) < (i : Int) := by omega
        have hc := fun w1 (h : SW enc w0 blk off dk w1) => swapRange_c enc g cb blk off cap (m - i) m j d0 dk w0 w1 R (by omega) h (by omega) (by omega) (by omega)
        rw [hsk] at hc
        have HC := Lib.hid hc
        clear hc
        have e1 : ((m : Int) - (i : Int)) = ((m - i : Nat) : Int) := by omega
        go_wp2_with (go_at_call 188; refine (HC.out _ S1.out).mono ?_; rintro e w2 ⟨rfl, d2, S2, M2, P2⟩)
        go_roundg (i - j + j)
        case measure => omega
        case rel =>
          refine ⟨i - j, j, d2, fun k => f (swrI (m - i) m j k), by first | rfl | go_num | (congr 1; omega), rfl, by omega, hj0, by omega, hjb, Nat.le_refl _, M2.1.trans hsk, S2, moved_swr HM.out.1 (by omega) (by omega) M2, fun k => ?_, permIn_trans _ _ _ a b HM.out.2.2 (P2 a b (by omega) (by omega) (by omega))⟩
          show f (swrI _ _ _ _) = _
          rw [rot_gt (by omega) hgt, HM.out.2.1]
      · have hgz : ¬ (j : Int) < (i : Int) := by omega
        have hc := fun w1 (h : SW enc w0 blk off dk w1) => swapRange_c enc g cb blk off cap (m - i) (m + j - i) i d0 dk w0 w1 R (by omega) h (by omega) (by omega) (by omega)
        rw [hsk] at hc
        have HC := Lib.hid hc
        clear hc
        have e1 : ((m : Int) - (i : Int)) = ((m - i : Nat) : Int) := by omega
        have e2 : ((m : Int) + (j : Int) - (i : Int)) = ((m + j - i : Nat) : Int) := by omega
        go_wp2_with (go_at_call 188; refine (HC.out _ S1.out).mono ?_; rintro e w2 ⟨rfl, d2, S2, M2, P2⟩)
        go_roundg (i + (j - i))
        case measure => omega
        case rel =>
          refine ⟨i, j - i, d2, fun k => f (swrI (m - i) (m + j - i) i k), rfl, by first | rfl | go_num | (congr 1; omega), hi0, by omega, him, by omega, Nat.le_refl _, M2.1.trans hsk, S2, moved_swr HM.out.1 (by omega) (by omega) M2, fun k => ?_, permIn_trans _ _ _ a b HM.out.2.2 (P2 a b (by omega) (by omega) (by omega))⟩
          show f (swrI _ _ _ _) = _
          rw [rot_lt (by omega) (by omega), HM.out.2.1]
end Go.Proofs.YtonfnhonbnfdoaaGreat
