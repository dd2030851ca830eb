/- Plain law: the stable merge of Go's library, by index. No program is imported here. -/
import Derived.Test.YtfcjblnebaemgaaGreatBas
import Derived.Sort.Statements
import Derived.Sort.Lot0
import Derived.Sort.LotA
set_option linter.all false
namespace Go.Proofs.YtfcjblnebaemgaaGreat
open Go Go.Sort

variable {α : Type} [Inhabited α] {lt : α → α → Bool}

/-- d' holds at k what d held at f k. -/
def Moved (d d' : Array α) (f : Nat → Nat) : Prop := d'.size = d.size ∧ ∀ k, k < d.size → d'[k]! = d[f k]!
/-- Where the numbers come from when [a, a + n) and [b, b + n) are exchanged. -/
def swrI (a b n k : Nat) : Nat := if a ≤ k ∧ k < a + n then k - a + b else if b ≤ k ∧ k < b + n then k - b + a else k
/-- Where they come from when [a, m) and [m, b) change places. -/
def rotI (a m b k : Nat) : Nat := if k < a then k else if k < a + (b - m) then m + (k - a) else if k < b then k - (b - m) else k
theorem Moved.refl (d : Array α) : Moved d d id := ⟨rfl, fun _ _ => rfl⟩
theorem swrI_zero (a b k : Nat) : swrI a b 0 k = k := by unfold swrI; (repeat' split) <;> omega
theorem swrI_step {d dk : Array α} {a b i n : Nat} (h : Moved d dk (swrI a b i)) (hi : i < n) (hab : a + n ≤ b) (hb : b + n ≤ d.size) : Moved d (swp dk (a + i) (b + i)) (swrI a b (i + 1)) := by
  refine ⟨by rw [size_swp, h.1], fun k hk => ?_⟩
  have hk' : k < dk.size := by rw [h.1]; exact hk
  rw [swp_get dk (i := a + i) (j := b + i) (by rw [h.1]; omega) (by rw [h.1]; omega)]
  split
  · rename_i e; subst e
    rw [h.2 _ (by omega)]; congr 1; unfold swrI; (repeat' split) <;> omega
  · split
    · rename_i e; subst e
      rw [h.2 _ (by omega)]; congr 1; unfold swrI; (repeat' split) <;> omega
    · rw [h.2 _ hk]; congr 1; unfold swrI; (repeat' split) <;> omega
/-- One round of the exchange of unlike parts. -/
theorem rot_gt {i j m k : Nat} (hi : i ≤ m) (hij : j < i) : swrI (m - i) m j (rotI (m - (i - j)) m (m + j) k) = rotI (m - i) m (m + j) k := by
  unfold swrI rotI; (repeat' split) <;> omega
theorem rot_lt {i j m k : Nat} (hi : i ≤ m) (hij : i < j) : swrI (m - i) (m + j - i) i (rotI (m - i) m (m + (j - i)) k) = rotI (m - i) m (m + j) k := by
  unfold swrI rotI; (repeat' split) <;> omega
theorem rot_eq {i m k : Nat} (hi : i ≤ m) : swrI (m - i) m i k = rotI (m - i) m (m + i) k := by
  unfold swrI rotI; (repeat' split) <;> omega
/-- One number on its way up, and down. -/
theorem rot_up {d dk : Array α} {a k i : Nat} (h : Moved d dk (rotI a (a + 1) (k + 1))) (hk : a ≤ k) (hi : k + 1 < i) (hs : i ≤ d.size) : Moved d (swp dk k (k + 1)) (rotI a (a + 1) (k + 2)) := by
  refine ⟨by rw [size_swp, h.1], fun q hq => ?_⟩
  rw [swp_get dk (i := k) (j := k + 1) (by rw [h.1]; omega) (by rw [h.1]; omega)]
  split
  · rename_i e; subst e
    rw [h.2 _ (by omega)]; congr 1; unfold rotI; (repeat' split) <;> omega
  · split
    · rename_i e; subst e
      rw [h.2 _ (by omega)]; congr 1; unfold rotI; (repeat' split) <;> omega
    · rw [h.2 _ hq]; congr 1; unfold rotI; (repeat' split) <;> omega
theorem rot_down {d dk : Array α} {m k : Nat} (h : Moved d dk (rotI k m (m + 1))) (hk : 0 < k) (hkm : k ≤ m) (hs : m < d.size) : Moved d (swp dk k (k - 1)) (rotI (k - 1) m (m + 1)) := by
  refine ⟨by rw [size_swp, h.1], fun q hq => ?_⟩
  rw [swp_get dk (i := k) (j := k - 1) (by rw [h.1]; omega) (by rw [h.1]; omega)]
  split
  · rename_i e; subst e
    rw [h.2 _ (by omega)]; congr 1; unfold rotI; (repeat' split) <;> omega
  · split
    · rename_i e; subst e
      rw [h.2 _ (by omega)]; congr 1; unfold rotI; (repeat' split) <;> omega
    · rw [h.2 _ hq]; congr 1; unfold rotI; (repeat' split) <;> omega

/-- Two sorted halves, none of the right one less than one of the left one. -/
theorem sorted_halves {a c b : Nat} {d : Array α} (h1 : SortedIn lt a c d) (h2 : SortedIn lt c b d) (hx : ∀ i j, a ≤ i → i < c → c ≤ j → j < b → lt d[j]! d[i]! = false) : SortedIn lt a b d := by
  intro i j hi hij hj
  by_cases h : j < c
  · exact h1 i j hi hij h
  · by_cases h' : i < c
    · exact hx i j hi h' (by omega) hj
    · exact h2 i j (by omega) hij hj
/-- How the merge is cut: s and e, the parts [s, m) and [m, e) change places. -/
structure Cut (lt : α → α → Bool) (a m b s e : Nat) (d : Array α) : Prop where
  p1 : a ≤ s
  p2 : s ≤ m
  p3 : m ≤ e
  p4 : e ≤ b
  p5 : a < s → e < b → lt d[e]! d[s - 1]! = false
  p6 : s < m → m < e → lt d[e - 1]! d[s]! = true
theorem sorted_le (hS : SWO lt) {a b : Nat} {d : Array α} (h : SortedIn lt a b d) {i j : Nat} (hi : a ≤ i) (hij : i ≤ j) (hj : j < b) : lt d[j]! d[i]! = false := by
  by_cases e : i = j
  · subst e; exact hS.irrefl _
  · exact h i j hi (by omega) hj
theorem Cut.cross (hS : SWO lt) {a m b s e : Nat} {d d' : Array α} (c : Cut lt a m b s e d) (hb : b ≤ d.size) (h1 : SortedIn lt a m d) (h2 : SortedIn lt m b d) (hm : Moved d d' (rotI s m e)) :
    SortedIn lt a s d' ∧ SortedIn lt s (s + (e - m)) d' ∧ SortedIn lt (s + (e - m)) e d' ∧ SortedIn lt e b d' ∧
      ∀ i j, a ≤ i → i < s + (e - m) → s + (e - m) ≤ j → j < b → lt d'[j]! d'[i]! = false := by
  obtain ⟨k1, k2, k3, k4, k5, k6⟩ := c
  have g1 : ∀ k, k < s → k < d.size → d'[k]! = d[k]! := fun k hk hd => by rw [hm.2 k hd]; congr 1; unfold rotI; (repeat' split) <;> omega
  have g2 : ∀ k, s ≤ k → k < s + (e - m) → d'[k]! = d[m + (k - s)]! := fun k hk hk2 => by rw [hm.2 k (by omega)]; congr 1; unfold rotI; (repeat' split) <;> omega
  have g3 : ∀ k, s + (e - m) ≤ k → k < e → d'[k]! = d[k - (e - m)]! := fun k hk hk2 => by rw [hm.2 k (by omega)]; congr 1; unfold rotI; (repeat' split) <;> omega
  have g4 : ∀ k, e ≤ k → k < b → d'[k]! = d[k]! := fun k hk hk2 => by rw [hm.2 k (by omega)]; congr 1; unfold rotI; (repeat' split) <;> omega
  refine ⟨fun i j hi hij hj => ?_, fun i j hi hij hj => ?_, fun i j hi hij hj => ?_, fun i j hi hij hj => ?_, fun i j hi hi2 hj hj2 => ?_⟩
  · rw [g1 i (by omega) (by omega), g1 j (by omega) (by omega)]; exact h1 i j hi hij (by omega)
  · rw [g2 i (by omega) (by omega), g2 j (by omega) (by omega)]; exact h2 _ _ (by omega) (by omega) (by omega)
  · rw [g3 i (by omega) (by omega), g3 j (by omega) (by omega)]; exact h1 _ _ (by omega) (by omega) (by omega)
  · rw [g4 i (by omega) (by omega), g4 j (by omega) (by omega)]; exact h2 _ _ (by omega) (by omega) (by omega)
  · by_cases hi3 : i < s
    · rw [g1 i hi3 (by omega)]
      by_cases hj3 : j < e
      · rw [g3 j hj hj3]; exact h1 _ _ hi (by omega) (by omega)
      · rw [g4 j (by omega) hj2]
        have hle := k5 (by omega) (by omega)
        exact hS.ntrans _ _ _ (hS.ntrans _ _ _ (sorted_le hS h2 (by omega) (by omega) hj2) hle) (sorted_le hS h1 hi (by omega) (by omega))
    · rw [g2 i (by omega) (by omega)]
      by_cases hj3 : j < e
      · rw [g3 j hj hj3]
        have hlt := hS.asymmA (k6 (by omega) (by omega))
        exact hS.ntrans _ _ _ (hS.ntrans _ _ _ (sorted_le hS h1 (by omega) (by omega) (by omega)) hlt) (sorted_le hS h2 (by omega) (by omega) (by omega))
      · rw [g4 j (by omega) hj2]; exact sorted_le hS h2 (by omega) (by omega) hj2

theorem insInner_perm (a i : Nat) : ∀ (j : Nat) (d : Array α), a ≤ j → j ≤ i → i < d.size → PermIn a (i + 1) d (insInner lt a j d)
  | 0, d, _, _, _ => by unfold insInner; exact permIn_refl d a (i + 1)
  | j + 1, d, haj, hji, hb => by
    unfold insInner
    split
    · rename_i hc
      simp only [Bool.and_eq_true, decide_eq_true_eq] at hc
      exact permIn_trans _ _ _ a (i + 1) (swp_permIn d a (i + 1) (j + 1) j haj (by omega) (by omega) (by omega) (by omega)) (insInner_perm a i j (swp d (j + 1) j) (by omega) (by omega) (by rw [swp_size]; exact hb))
    · exact permIn_refl d a (i + 1)
/-- Two orders that agree wherever they are asked sort alike. -/
theorem insInner_eq {l1 l2 : α → α → Bool} (x : α) (a : Nat) : ∀ (j : Nat) (d : Array α), j < d.size → d[j]! = x → (∀ q, a ≤ q → q < j → l1 x d[q]! = l2 x d[q]!) → insInner l1 a j d = insInner l2 a j d
  | 0, d, _, _, _ => by unfold insInner; rfl
  | j + 1, d, hj, hx, hq => by
    unfold insInner
    rw [hx]
    by_cases h : j + 1 > a
    · rw [hq j (by omega) (by omega)]
      split
      · exact insInner_eq x a j (swp d (j + 1) j) (by rw [swp_size]; omega) (by rw [swp_get d hj (by omega)]; simp [hx]) (fun q h1 h2 => by
          rw [swp_get d hj (by omega), if_neg (by omega), if_neg (by omega)]; exact hq q h1 (by omega))
      · rfl
    · rw [show decide (j + 1 > a) = false from decide_eq_false h]; rfl
theorem insOuter_eq {l1 l2 : α → α → Bool} (a b : Nat) (D : Array α) (hb : b ≤ D.size) (hq : ∀ p q, a ≤ q → q < p → p < b → l1 D[p]! D[q]! = l2 D[p]! D[q]!) :
    ∀ (n i : Nat) (d : Array α), b - i = n → a ≤ i → i ≤ b → PermIn a i D d → insOuter l1 a b i d = insOuter l2 a b i d
  | 0, i, d, hn, _, hib, _ => by rw [insOuter, if_neg (by omega), insOuter, if_neg (by omega)]
  | n + 1, i, d, hn, hai, hib, hp => by
    have hlt : i < b := by omega
    have hs : d.size = D.size := hp.1
    have u1 : insOuter l1 a b i d = insOuter l1 a b (i + 1) (insInner l1 a i d) := by rw [insOuter, if_pos hlt]
    have u2 : insOuter l2 a b i d = insOuter l2 a b (i + 1) (insInner l2 a i d) := by rw [insOuter, if_pos hlt]
    rw [u1, u2]
    have hdi : d[i]! = D[i]! := hp.2.1 i (.inr (Nat.le_refl _))
    have he : insInner l1 a i d = insInner l2 a i d := insInner_eq D[i]! a i d (by omega) hdi (fun q h1 h2 => permIn_all D d a i (fun y => l1 D[i]! y = l2 D[i]! y) (by omega) hp (fun k k1 k2 => hq i k k1 k2 hlt) q h1 h2)
    rw [he]
    refine insOuter_eq a b D hb hq n (i + 1) _ (by omega) (by omega) (by omega) ?_
    exact permIn_trans _ _ _ a (i + 1) (permIn_mono D d a i a (i + 1) (Nat.le_refl _) (by omega) (by omega) hp) (insInner_perm a i i d hai (Nat.le_refl _) (by omega))
theorem insertionSort_eq {l1 l2 : α → α → Bool} (a b : Nat) (D : Array α) (hb : b ≤ D.size) (hq : ∀ p q, a ≤ q → q < p → p < b → l1 D[p]! D[q]! = l2 D[p]! D[q]!) : insertionSort l1 D a b = insertionSort l2 D a b := by
  unfold insertionSort
  by_cases h : a + 1 ≤ b
  · refine insOuter_eq a b D hb hq _ (a + 1) D rfl (by omega) h (permIn_refl D a (a + 1))
  · rw [insOuter, if_neg (by omega), insOuter, if_neg (by omega)]

/-- One number before a sorted part. -/
theorem merge_one_left (hS : SWO lt) {a m b q : Nat} {d d' : Array α} (hm : m = a + 1) (h1 : m ≤ q) (h2 : q ≤ b) (hb : b ≤ d.size) (hs : SortedIn lt m b d) (c1 : q = m ∨ lt d[q - 1]! d[a]! = true) (c2 : q = b ∨ lt d[q]! d[a]! = false)
    (hv : Moved d d' (rotI a m q)) : SortedIn lt a b d' := by
  have g2 : ∀ k, a ≤ k → k < q - 1 → d'[k]! = d[k + 1]! := fun k hk hk2 => by rw [hv.2 k (by omega)]; congr 1; unfold rotI; (repeat' split) <;> omega
  have g3 : d'[q - 1]! = d[a]! := by rw [hv.2 _ (by omega)]; congr 1; unfold rotI; (repeat' split) <;> omega
  have g4 : ∀ k, q ≤ k → k < b → d'[k]! = d[k]! := fun k hk hk2 => by rw [hv.2 k (by omega)]; congr 1; unfold rotI; (repeat' split) <;> omega
  intro i j hi hij hj
  rcases (show i < q - 1 ∨ i = q - 1 ∨ q ≤ i by omega) with h | rfl | h
  · rw [g2 i hi h]
    rcases (show j < q - 1 ∨ j = q - 1 ∨ q ≤ j by omega) with h' | rfl | h'
    · rw [g2 j (by omega) h']; exact hs _ _ (by omega) (by omega) (by omega)
    · rw [g3]
      rcases c1 with c1 | c1
      · omega
      · exact hS.ntrans _ _ _ (hS.asymmA c1) (sorted_le hS hs (by omega) (by omega) (by omega))
    · rw [g4 j h' hj]; exact hs _ _ (by omega) (by omega) (by omega)
  · rw [g3, g4 j (by omega) hj]
    rcases c2 with c2 | c2
    · omega
    · exact hS.ntrans _ _ _ (sorted_le hS hs (by omega) (by omega) hj) c2
  · rw [g4 i h (by omega), g4 j (by omega) hj]; exact hs _ _ (by omega) hij hj
/-- One number behind a sorted part. -/
theorem merge_one_right (hS : SWO lt) {a m b q : Nat} {d d' : Array α} (hm : b = m + 1) (h1 : a ≤ q) (h2 : q ≤ m) (hb : b ≤ d.size) (hs : SortedIn lt a m d) (c1 : q = a ∨ lt d[m]! d[q - 1]! = false) (c2 : q = m ∨ lt d[m]! d[q]! = true)
    (hv : Moved d d' (rotI q m (m + 1))) : SortedIn lt a b d' := by
  have g1 : ∀ k, k < q → d'[k]! = d[k]! := fun k hk => by rw [hv.2 k (by omega)]; congr 1; unfold rotI; (repeat' split) <;> omega
  have g2 : d'[q]! = d[m]! := by rw [hv.2 _ (by omega)]; congr 1; unfold rotI; (repeat' split) <;> omega
  have g3 : ∀ k, q < k → k ≤ m → d'[k]! = d[k - 1]! := fun k hk hk2 => by rw [hv.2 k (by omega)]; congr 1; unfold rotI; (repeat' split) <;> omega
  intro i j hi hij hj
  rcases (show i < q ∨ i = q ∨ q < i by omega) with h | rfl | h
  · rw [g1 i h]
    rcases (show j < q ∨ j = q ∨ q < j by omega) with h' | rfl | h'
    · rw [g1 j h']; exact hs _ _ hi hij (by omega)
    · rw [g2]
      rcases c1 with c1 | c1
      · omega
      · exact hS.ntrans _ _ _ c1 (sorted_le hS hs hi (by omega) (by omega))
    · rw [g3 j h' (by omega)]; exact sorted_le hS hs hi (by omega) (by omega)
  · rw [g2, g3 j hij (by omega)]
    rcases c2 with c2 | c2
    · omega
    · exact hS.ntrans _ _ _ (sorted_le hS hs (by omega) (by omega) (by omega)) (hS.asymmA c2)
  · rw [g3 i h (by omega), g3 j (by omega) (by omega)]; exact hs _ _ (by omega) (by omega) (by omega)
/-- The search of the merge ends in a cut. -/
theorem cut_of {a m b mid n s lo hi : Nat} {d : Array α} (ham : a < m) (hmb : m < b) (hmid : mid = (a + b) / 2) (hn : n = mid + m) (h : (mid < m ∧ lo = n - b ∧ hi = mid) ∨ (m ≤ mid ∧ lo = a ∧ hi = m)) (h1 : lo ≤ s) (h2 : s ≤ hi)
    (c1 : s = lo ∨ lt d[n - s]! d[s - 1]! = false) (c2 : s = hi ∨ lt d[n - 1 - s]! d[s]! = true) : Cut lt a m b s (n - s) d ∧ s + (n - s - m) = mid ∧ a ≤ mid ∧ mid ≤ b := by
  refine ⟨⟨by omega, by omega, by omega, by omega, fun h3 h4 => ?_, fun h3 h4 => ?_⟩, by omega, by omega, by omega⟩
  · rcases c1 with c1 | c1
    · omega
    · exact c1
  · rcases c2 with c2 | c2
    · omega
    · rw [show n - s - 1 = n - 1 - s by omega]; exact c2
end Go.Proofs.YtfcjblnebaemgaaGreat
