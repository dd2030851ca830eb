/- Texts joined: JAD. -/
import Derived.Test.YtbgkbdhdkpjcdaaGreatBas
import Derived.Sort.Statements
import Derived.Sort.Lot0
import Derived.Sort.LotA
import Derived.Test.YtbgkbdhdkpjcdaaGreatJAB
import Derived.Test.YtbgkbdhdkpjcdaaGreatJAA
set_option linter.all false
namespace Go.Proofs.YtbgkbdhdkpjcdaaGreat
open Go Go.RowKit Go.Proofs

section
variable {P : Program} {ops : Array Oper}
theorem any_of_specsH (G : Nat → World → World → Prop) (J : World → Prop) (I : Nat → World → Prop) (hGs : ∀ i a b, G i a b → a.heap.size ≤ b.heap.size) (hJ : ∀ i a b, G i a b → J a → J b) (hI : ∀ k j a b, k ≠ j → k ∉ depsOf ops j → G j a b → I k a → I k b) {Q : Exit → Act → World → Prop} {R : Nat → Value → World → Prop} {fresh : Nat → Bool} {n : Nat} {a : Act} {w : World} {tail : List Oper}
    (hB : specB ops n = true) (hR : ∀ k j v a b, k ≠ j → G j a b → R k v a → R k v b)
    (hop : ∀ i oi, i < n → ops[i]? = some oi → ∀ (u : Nat → Value) (w1 : World), J w1 → I i w1 → (∀ k ∈ depsOf ops i, k < n → R k (u k) w1) → wpList P ops (EndOpG G Q R fresh ops i (putAll ops a u n) w1) [oi] (putAll ops a u n) w1)
    (htl : ∀ j, tail[j]? = ops[n + j]?) (htn : tail.length = ops.size - n)
    (htail : ∀ (u : Nat → Value) (w1 : World), J w1 → (∀ k, k < n → R k (u k) w1) → (∀ i j, i < n → j < n → i ≠ j → fresh i = true → fresh j = true → u i ≠ u j) → wpList P ops Q tail (putAll ops a u n) w1) :
    ∀ (m : Nat) (listed : Array Bool) (u : Nat → Value) (w1 : World), HeadInv .any ops n listed → ((List.range n).filter fun i => !listed.getD i false).length = m →
      SpecInvG I ops R fresh n listed u w1 → J w1 → wpAny P .any ops Q (m + (ops.size - n)) listed (putAll ops a u n) w1 := by
  simp only [specB, Bool.and_eq_true, decide_eq_true_eq] at hB
  obtain ⟨⟨⟨⟨⟨hn, hdist⟩, hforw⟩, hs⟩, hc⟩, hseq⟩ := hB
  intro m
  induction m with
  | zero =>
    intro listed u w1 inv hm sinv hb
    have all : ∀ i, i < n → listed.getD i false = true := by
      intro i hi
      have h0 := List.eq_nil_of_length_eq_zero hm
      rw [List.filter_eq_nil_iff] at h0
      have := h0 i (List.mem_range.2 hi)
      simpa using this
    have e := headDone_eq inv.size (by omega) all inv.tail
    subst e
    have := wpAny_of_seq (md := .any) (Q' := Q) tail n (headDone ops.size n) (putAll ops a u n) w1 htl (by rw [htn]; exact hseq)
      (htail u w1 hb (fun k hk => sinv.r k hk (all k hk)) (fun i j hi hj hij => sinv.d i j hi hj hij (all i hi) (all j hj)))
    rw [htn] at this
    rw [Nat.zero_add]
    exact this
  | succ m ih =>
    intro listed u w1 inv hm sinv hb
    -- some operation of the head has not come up
    obtain ⟨i0, hi0⟩ : ∃ i0, i0 ∈ (List.range n).filter fun i => !listed.getD i false := by
      cases hl : (List.range n).filter fun i => !listed.getD i false with
      | nil => rw [hl] at hm; simp at hm
      | cons x xs => exact ⟨x, by simp⟩
    obtain ⟨hi0n, hi0l⟩ := List.mem_filter.1 hi0
    have hi0n := List.mem_range.1 hi0n
    have hun : listed.getD i0 true = false := getD_in (by rw [inv.size]; omega) (by simpa using hi0l)
    have key : ∀ i ∈ Region.ready .any ops listed, i < n := fun i hi => Nat.lt_of_not_le fun h => tail_waits hs hc hn inv _ i0 rfl hi0n hun i h hi
    rw [show m + 1 + (ops.size - n) = (m + (ops.size - n)) + 1 by omega]
    refine ⟨fun h0 => ?_, fun i hi => ?_⟩
    · exfalso
      have low : ∀ i, i < n → listed.getD i false = false → False := by
        intro i
        induction i using Nat.strongRecOn with
        | _ i ih =>
          intro hin hl
          have hoi : ops[i]? = some ops[i] := Array.getElem?_eq_getElem (by omega)
          by_cases hall : ∀ e ∈ (ops[i]'(by omega)).after, Region.binds .any e = true → listed.getD e.on false = true
          · have : i ∈ Region.ready .any ops listed := mem_ready.2 ⟨getD_in (by rw [inv.size]; omega) hl, ops[i], hoi, hall⟩
            rw [h0] at this; cases this
          · have hex : ∃ e ∈ (ops[i]'(by omega)).after, Region.binds .any e = true ∧ listed.getD e.on false = false := by
              refine Classical.byContradiction fun hne => hall fun e he hbe => ?_
              cases hx : listed.getD e.on false with
              | true => rfl
              | false => exact absurd ⟨e, he, hbe, hx⟩ hne
            obtain ⟨e, he, hbe, hx⟩ := hex
            have hlt := forwB_lt hforw hin hoi (List.mem_map.2 ⟨e, List.mem_filter.2 ⟨by simpa using he, hbe⟩, rfl⟩)
            exact ih e.on hlt (by omega) hx
      exact low i0 hi0n (by simpa using hi0l)
    · have hin := key i hi
      obtain ⟨hil, oi, hoi, hall⟩ := mem_ready.1 hi
      refine wpOp_of_endG hoi (hop i oi hin hoi u w1 hb (sinv.o i hin (getD_both hil)) fun k hk hkn => ?_) fun v w' hb' hv hf => ?_
      · have : ∃ e ∈ oi.after.toList, Region.binds .any e = true ∧ e.on = k := by
          unfold depsOf at hk; rw [hoi] at hk
          simp only [List.mem_map, List.mem_filter] at hk
          obtain ⟨e, ⟨he, hbe⟩, rfl⟩ := hk
          exact ⟨e, he, hbe, rfl⟩
        obtain ⟨e, he, hbe, rfl⟩ := this
        exact sinv.r _ hkn (hall e (by simpa using he) hbe)
      · rw [← putAll_upd n hin hdist]
        have hl' : ∀ k, k ≠ i → (listed.setIfInBounds i true).getD k false = listed.getD k false := fun k hk => getD_set_ne false (Ne.symm hk)
        refine ih (listed.setIfInBounds i true) (upd u i v) w' (inv.set hi hin) ?_ ⟨?_, ?_, ?_, ?_⟩ (hJ i _ _ hb' hb)
        · have := cnt_set (n := n) (p := fun k => !listed.getD k false) (q := fun k => !(listed.setIfInBounds i true).getD k false) hin (by simpa using getD_both hil) (by rw [getD_set_self (by rw [inv.size]; omega)]; rfl) (fun k hk => by rw [hl' k hk])
          omega
        · intro k hk hkl
          by_cases e : k = i
          · subst e; rw [getD_set_self (by rw [inv.size]; omega)] at hkl; cases hkl
          · rw [hl' k e] at hkl; exact hI k i _ _ e (fun hc => by
              have : ∃ e ∈ oi.after.toList, Region.binds .any e = true ∧ e.on = k := by
                unfold depsOf at hc; rw [hoi] at hc
                simp only [List.mem_map, List.mem_filter] at hc
                obtain ⟨e2, ⟨he, hbe⟩, hk2⟩ := hc
                exact ⟨e2, he, hbe, hk2⟩
              obtain ⟨e3, he', hbe', hk3⟩ := this
              have h3 := hall e3 (by simpa using he') hbe'
              rw [hk3] at h3
              rw [hkl] at h3; cases h3) hb' (sinv.o k hk hkl)
        · intro k hk hkl
          by_cases e : k = i
          · subst e; rw [upd_same]; exact hv
          · rw [upd_ne e]; rw [hl' k e] at hkl; exact hR _ i _ _ _ e hb' (sinv.r k hk hkl)
        · intro k hk hkl hfk
          by_cases e : k = i
          · subst e; rw [upd_same]; obtain ⟨g, g1, g2, g3⟩ := hf hfk; exact ⟨g, g1, g3⟩
          · rw [upd_ne e]; rw [hl' k e] at hkl; obtain ⟨g, g1, g2⟩ := sinv.f k hk hkl hfk; exact ⟨g, g1, Nat.lt_of_lt_of_le g2 (hGs i _ _ hb')⟩
        · intro j k hj hk hjk hjl hkl hfj hfk
          by_cases e : j = i
          · subst e
            have e2 : k ≠ j := fun h => hjk h.symm
            rw [upd_same, upd_ne e2]; rw [hl' k e2] at hkl
            obtain ⟨g, g1, g2, g3⟩ := hf hfj
            obtain ⟨g', g1', g2'⟩ := sinv.f k hk hkl hfk
            rw [g1, g1']; intro h; injection h with h; injection h with h; injection h with h; omega
          · by_cases e2 : k = i
            · subst e2
              rw [upd_same, upd_ne e]; rw [hl' j e] at hjl
              obtain ⟨g, g1, g2, g3⟩ := hf hfk
              obtain ⟨g', g1', g2'⟩ := sinv.f j hj hjl hfj
              rw [g1, g1']; intro h; injection h with h; injection h with h; injection h with h; omega
            · rw [upd_ne e, upd_ne e2]; rw [hl' j e] at hjl; rw [hl' k e2] at hkl
              exact sinv.d j k hj hk hjk hjl hkl hfj hfk
/-- A region that draws: n operations, each by its specification, then a tail in a forced order. -/
theorem wp_region_specsH {id : Nat} {Q : Exit → Act → World → Prop} {a : Act} {w : World} {l : List Oper} (G : Nat → World → World → Prop) (J : World → Prop) (I : Nat → World → Prop) (hGs : ∀ i a b, G i a b → a.heap.size ≤ b.heap.size) (hJ : ∀ i a b, G i a b → J a → J b) (hI : ∀ k j a b, k ≠ j → k ∉ depsOf l.toArray j → G j a b → I k a → I k b) (hJ0 : J w.drew) (hI0 : ∀ i, I i w.drew) (n : Nat) (R : Nat → Value → World → Prop) (fresh : Nat → Bool)
    (hm : P.follows .mixedOrders = true) (hB : specB l.toArray n = true) (hR : ∀ k j v a b, k ≠ j → G j a b → R k v a → R k v b)
    (hop : ∀ i oi, i < n → l.toArray[i]? = some oi → ∀ (u : Nat → Value) (w1 : World), J w1 → I i w1 → (∀ k ∈ depsOf l.toArray i, k < n → R k (u k) w1) → wpList P l.toArray (EndOpG G Q R fresh l.toArray i (putAll l.toArray a u n) w1) [oi] (putAll l.toArray a u n) w1)
    (htail : ∀ (u : Nat → Value) (w1 : World), J w1 → (∀ k, k < n → R k (u k) w1) → (∀ i j, i < n → j < n → i ≠ j → fresh i = true → fresh j = true → u i ≠ u j) → wpList P l.toArray Q (l.drop n) (putAll l.toArray a u n) w1) :
    (Code.region id l.toArray true).wp P Q a w := by
  have hn : n < l.toArray.size := by simp only [specB, Bool.and_eq_true, decide_eq_true_eq] at hB; exact hB.1.1.1.1.1
  have hn' : n < l.length := by simpa using hn
  refine wp_region_any hm ?_
  have inv0 : HeadInv .any l.toArray n (Array.replicate l.toArray.size false) :=
    ⟨by simp, fun j oj _ hl => (by rw [getD_replicate_false] at hl; cases hl), fun t _ ht => getD_in (by simpa using ht) (getD_replicate_false _ _)⟩
  have hcnt : ((List.range n).filter fun i => !(Array.replicate l.toArray.size false).getD i false).length = n := by
    rw [List.filter_eq_self.2 (fun i _ => by rw [getD_replicate_false]; rfl), List.length_range]
  have := any_of_specsH G J I hGs hJ hI (P := P) (Q := Q) (R := R) (fresh := fresh) (n := n) (a := a) (w := w) (tail := l.drop n) hB hR hop (fun j => by simp [List.getElem?_drop]) (by simp) htail n
    (Array.replicate l.toArray.size false) (slotOf l.toArray a) w.drew inv0 hcnt ⟨fun k _ _ => hI0 k, fun k _ hl => (by rw [getD_replicate_false] at hl; cases hl), fun k _ hl => (by rw [getD_replicate_false] at hl; cases hl), fun j k _ _ _ hl => (by rw [getD_replicate_false] at hl; cases hl)⟩ hJ0
  rw [putAll_slot, show n + (l.toArray.size - n) = l.toArray.size by omega] at this
  exact this

/-- The same, the operations as a conjunction, the frame behind a name. -/
theorem wp_region_specH {id : Nat} {Q : Exit → Act → World → Prop} {a : Act} {w : World} {l : List Oper} (G : Nat → World → World → Prop) (J : World → Prop) (I : Nat → World → Prop) (hGs : ∀ i a b, G i a b → a.heap.size ≤ b.heap.size) (hJ : ∀ i a b, G i a b → J a → J b) (hI : ∀ k j a b, k ≠ j → k ∉ depsOf l.toArray j → G j a b → I k a → I k b) (hJ0 : J w.drew) (hI0 : ∀ i, I i w.drew) (n : Nat) (R : Nat → Value → World → Prop) (fresh : Nat → Bool)
    (hm : P.follows .mixedOrders = true) (hB : specB l.toArray n = true) (hR : ∀ k j v a b, k ≠ j → G j a b → R k v a → R k v b)
    (hop : allOps (fun i oi => ∀ (u : Nat → Value) (A : Act) (w1 : World), A = putAll l.toArray a u n → J w1 → I i w1 → (∀ k, k < n → (depsOf l.toArray i).contains k = true → R k (u k) w1) → wpList P l.toArray (EndOpG G Q R fresh l.toArray i A w1) [oi] A w1) 0 (l.take n))
    (htail : ∀ (u : Nat → Value) (A : Act) (w1 : World), A = putAll l.toArray a u n → J w1 → (∀ k, k < n → R k (u k) w1) → (∀ i j, i < n → j < n → i ≠ j → fresh i = true → fresh j = true → u i ≠ u j) → wpList P l.toArray Q (l.drop n) A w1) :
    (Code.region id l.toArray true).wp P Q a w :=
  wp_region_specsH G J I hGs hJ hI hJ0 hI0 n R fresh hm hB hR (fun i oi hi ho u w1 hb hi0 hd => by
    have := allOps_get _ _ hop i oi (by simpa [List.getElem?_take, hi] using ho) u (putAll l.toArray a u n) w1 rfl hb (by rw [Nat.zero_add]; exact hi0) (fun k hk hc => hd k (by simpa using hc) hk)
    rw [Nat.zero_add] at this
    exact this) (fun u w1 => htail u _ w1 rfl)
end
end Go.Proofs.YtbgkbdhdkpjcdaaGreat

namespace Go.Proofs.YtbgkbdhdkpjcdaaGreat
open Go Go.Sort

variable {α : Type} [Inhabited α] {lt : α → α → Bool}

/-- d' holds at k what d held at f k. -/
def Moved (d d' : Array α) (f : Nat → Nat) : Prop := d'.size = d.size ∧ ∀ k, k < d.size → d'[k]! = d[f k]!
/-- Where the numbers come from when [a, a + n) and [b, b + n) are exchanged. -/
def swrI (a b n k : Nat) : Nat := if a ≤ k ∧ k < a + n then k - a + b else if b ≤ k ∧ k < b + n then k - b + a else k
/-- Where they come from when [a, m) and [m, b) change places. -/
def rotI (a m b k : Nat) : Nat := if k < a then k else if k < a + (b - m) then m + (k - a) else if k < b then k - (b - m) else k
theorem Moved.refl (d : Array α) : Moved d d id := ⟨rfl, fun _ _ => rfl⟩
theorem swrI_zero (a b k : Nat) : swrI a b 0 k = k := by unfold swrI; (repeat' split) <;> omega
theorem swrI_step {d dk : Array α} {a b i n : Nat} (h : Moved d dk (swrI a b i)) (hi : i < n) (hab : a + n ≤ b) (hb : b + n ≤ d.size) : Moved d (swp dk (a + i) (b + i)) (swrI a b (i + 1)) := by
  refine ⟨by rw [size_swp, h.1], fun k hk => ?_⟩
  have hk' : k < dk.size := by rw [h.1]; exact hk
  rw [swp_get dk (i := a + i) (j := b + i) (by rw [h.1]; omega) (by rw [h.1]; omega)]
  split
  · rename_i e; subst e
    rw [h.2 _ (by omega)]; congr 1; unfold swrI; (repeat' split) <;> omega
  · split
    · rename_i e; subst e
      rw [h.2 _ (by omega)]; congr 1; unfold swrI; (repeat' split) <;> omega
    · rw [h.2 _ hk]; congr 1; unfold swrI; (repeat' split) <;> omega
/-- One round of the exchange of unlike parts. -/
theorem rot_gt {i j m k : Nat} (hi : i ≤ m) (hij : j < i) : swrI (m - i) m j (rotI (m - (i - j)) m (m + j) k) = rotI (m - i) m (m + j) k := by
  unfold swrI rotI; (repeat' split) <;> omega
theorem rot_lt {i j m k : Nat} (hi : i ≤ m) (hij : i < j) : swrI (m - i) (m + j - i) i (rotI (m - i) m (m + (j - i)) k) = rotI (m - i) m (m + j) k := by
  unfold swrI rotI; (repeat' split) <;> omega
theorem rot_eq {i m k : Nat} (hi : i ≤ m) : swrI (m - i) m i k = rotI (m - i) m (m + i) k := by
  unfold swrI rotI; (repeat' split) <;> omega
/-- One number on its way up, and down. -/
theorem rot_up {d dk : Array α} {a k i : Nat} (h : Moved d dk (rotI a (a + 1) (k + 1))) (hk : a ≤ k) (hi : k + 1 < i) (hs : i ≤ d.size) : Moved d (swp dk k (k + 1)) (rotI a (a + 1) (k + 2)) := by
  refine ⟨by rw [size_swp, h.1], fun q hq => ?_⟩
  rw [swp_get dk (i := k) (j := k + 1) (by rw [h.1]; omega) (by rw [h.1]; omega)]
  split
  · rename_i e; subst e
    rw [h.2 _ (by omega)]; congr 1; unfold rotI; (repeat' split) <;> omega
  · split
    · rename_i e; subst e
      rw [h.2 _ (by omega)]; congr 1; unfold rotI; (repeat' split) <;> omega
    · rw [h.2 _ hq]; congr 1; unfold rotI; (repeat' split) <;> omega
theorem rot_down {d dk : Array α} {m k : Nat} (h : Moved d dk (rotI k m (m + 1))) (hk : 0 < k) (hkm : k ≤ m) (hs : m < d.size) : Moved d (swp dk k (k - 1)) (rotI (k - 1) m (m + 1)) := by
  refine ⟨by rw [size_swp, h.1], fun q hq => ?_⟩
  rw [swp_get dk (i := k) (j := k - 1) (by rw [h.1]; omega) (by rw [h.1]; omega)]
  split
  · rename_i e; subst e
    rw [h.2 _ (by omega)]; congr 1; unfold rotI; (repeat' split) <;> omega
  · split
    · rename_i e; subst e
      rw [h.2 _ (by omega)]; congr 1; unfold rotI; (repeat' split) <;> omega
    · rw [h.2 _ hq]; congr 1; unfold rotI; (repeat' split) <;> omega

/-- Two sorted halves, none of the right one less than one of the left one. -/
theorem sorted_halves {a c b : Nat} {d : Array α} (h1 : SortedIn lt a c d) (h2 : SortedIn lt c b d) (hx : ∀ i j, a ≤ i → i < c → c ≤ j → j < b → lt d[j]! d[i]! = false) : SortedIn lt a b d := by
  intro i j hi hij hj
  by_cases h : j < c
  · exact h1 i j hi hij h
  · by_cases h' : i < c
    · exact hx i j hi h' (by omega) hj
    · exact h2 i j (by omega) hij hj
/-- How the merge is cut: s and e, the parts [s, m) and [m, e) change places. -/
structure Cut (lt : α → α → Bool) (a m b s e : Nat) (d : Array α) : Prop where
  p1 : a ≤ s
  p2 : s ≤ m
  p3 : m ≤ e
  p4 : e ≤ b
  p5 : a < s → e < b → lt d[e]! d[s - 1]! = false
  p6 : s < m → m < e → lt d[e - 1]! d[s]! = true
theorem sorted_le (hS : SWO lt) {a b : Nat} {d : Array α} (h : SortedIn lt a b d) {i j : Nat} (hi : a ≤ i) (hij : i ≤ j) (hj : j < b) : lt d[j]! d[i]! = false := by
  by_cases e : i = j
  · subst e; exact hS.irrefl _
  · exact h i j hi (by omega) hj
theorem Cut.cross (hS : SWO lt) {a m b s e : Nat} {d d' : Array α} (c : Cut lt a m b s e d) (hb : b ≤ d.size) (h1 : SortedIn lt a m d) (h2 : SortedIn lt m b d) (hm : Moved d d' (rotI s m e)) :
    SortedIn lt a s d' ∧ SortedIn lt s (s + (e - m)) d' ∧ SortedIn lt (s + (e - m)) e d' ∧ SortedIn lt e b d' ∧
      ∀ i j, a ≤ i → i < s + (e - m) → s + (e - m) ≤ j → j < b → lt d'[j]! d'[i]! = false := by
  obtain ⟨k1, k2, k3, k4, k5, k6⟩ := c
  have g1 : ∀ k, k < s → k < d.size → d'[k]! = d[k]! := fun k hk hd => by rw [hm.2 k hd]; congr 1; unfold rotI; (repeat' split) <;> omega
  have g2 : ∀ k, s ≤ k → k < s + (e - m) → d'[k]! = d[m + (k - s)]! := fun k hk hk2 => by rw [hm.2 k (by omega)]; congr 1; unfold rotI; (repeat' split) <;> omega
  have g3 : ∀ k, s + (e - m) ≤ k → k < e → d'[k]! = d[k - (e - m)]! := fun k hk hk2 => by rw [hm.2 k (by omega)]; congr 1; unfold rotI; (repeat' split) <;> omega
  have g4 : ∀ k, e ≤ k → k < b → d'[k]! = d[k]! := fun k hk hk2 => by rw [hm.2 k (by omega)]; congr 1; unfold rotI; (repeat' split) <;> omega
  refine ⟨fun i j hi hij hj => ?_, fun i j hi hij hj => ?_, fun i j hi hij hj => ?_, fun i j hi hij hj => ?_, fun i j hi hi2 hj hj2 => ?_⟩
  · rw [g1 i (by omega) (by omega), g1 j (by omega) (by omega)]; exact h1 i j hi hij (by omega)
  · rw [g2 i (by omega) (by omega), g2 j (by omega) (by omega)]; exact h2 _ _ (by omega) (by omega) (by omega)
  · rw [g3 i (by omega) (by omega), g3 j (by omega) (by omega)]; exact h1 _ _ (by omega) (by omega) (by omega)
  · rw [g4 i (by omega) (by omega), g4 j (by omega) (by omega)]; exact h2 _ _ (by omega) (by omega) (by omega)
  · by_cases hi3 : i < s
    · rw [g1 i hi3 (by omega)]
      by_cases hj3 : j < e
      · rw [g3 j hj hj3]; exact h1 _ _ hi (by omega) (by omega)
      · rw [g4 j (by omega) hj2]
        have hle := k5 (by omega) (by omega)
        exact hS.ntrans _ _ _ (hS.ntrans _ _ _ (sorted_le hS h2 (by omega) (by omega) hj2) hle) (sorted_le hS h1 hi (by omega) (by omega))
    · rw [g2 i (by omega) (by omega)]
      by_cases hj3 : j < e
      · rw [g3 j hj hj3]
        have hlt := hS.asymmA (k6 (by omega) (by omega))
        exact hS.ntrans _ _ _ (hS.ntrans _ _ _ (sorted_le hS h1 (by omega) (by omega) (by omega)) hlt) (sorted_le hS h2 (by omega) (by omega) (by omega))
      · rw [g4 j (by omega) hj2]; exact sorted_le hS h2 (by omega) (by omega) hj2

theorem insInner_perm (a i : Nat) : ∀ (j : Nat) (d : Array α), a ≤ j → j ≤ i → i < d.size → PermIn a (i + 1) d (insInner lt a j d)
  | 0, d, _, _, _ => by unfold insInner; exact permIn_refl d a (i + 1)
  | j + 1, d, haj, hji, hb => by
    unfold insInner
    split
    · rename_i hc
      simp only [Bool.and_eq_true, decide_eq_true_eq] at hc
      exact permIn_trans _ _ _ a (i + 1) (swp_permIn d a (i + 1) (j + 1) j haj (by omega) (by omega) (by omega) (by omega)) (insInner_perm a i j (swp d (j + 1) j) (by omega) (by omega) (by rw [swp_size]; exact hb))
    · exact permIn_refl d a (i + 1)
/-- Two orders that agree wherever they are asked sort alike. -/
theorem insInner_eq {l1 l2 : α → α → Bool} (x : α) (a : Nat) : ∀ (j : Nat) (d : Array α), j < d.size → d[j]! = x → (∀ q, a ≤ q → q < j → l1 x d[q]! = l2 x d[q]!) → insInner l1 a j d = insInner l2 a j d
  | 0, d, _, _, _ => by unfold insInner; rfl
  | j + 1, d, hj, hx, hq => by
    unfold insInner
    rw [hx]
    by_cases h : j + 1 > a
    · rw [hq j (by omega) (by omega)]
      split
      · exact insInner_eq x a j (swp d (j + 1) j) (by rw [swp_size]; omega) (by rw [swp_get d hj (by omega)]; simp [hx]) (fun q h1 h2 => by
          rw [swp_get d hj (by omega), if_neg (by omega), if_neg (by omega)]; exact hq q h1 (by omega))
      · rfl
    · rw [show decide (j + 1 > a) = false from decide_eq_false h]; rfl
theorem insOuter_eq {l1 l2 : α → α → Bool} (a b : Nat) (D : Array α) (hb : b ≤ D.size) (hq : ∀ p q, a ≤ q → q < p → p < b → l1 D[p]! D[q]! = l2 D[p]! D[q]!) :
    ∀ (n i : Nat) (d : Array α), b - i = n → a ≤ i → i ≤ b → PermIn a i D d → insOuter l1 a b i d = insOuter l2 a b i d
  | 0, i, d, hn, _, hib, _ => by rw [insOuter, if_neg (by omega), insOuter, if_neg (by omega)]
  | n + 1, i, d, hn, hai, hib, hp => by
    have hlt : i < b := by omega
    have hs : d.size = D.size := hp.1
    have u1 : insOuter l1 a b i d = insOuter l1 a b (i + 1) (insInner l1 a i d) := by rw [insOuter, if_pos hlt]
    have u2 : insOuter l2 a b i d = insOuter l2 a b (i + 1) (insInner l2 a i d) := by rw [insOuter, if_pos hlt]
    rw [u1, u2]
    have hdi : d[i]! = D[i]! := hp.2.1 i (.inr (Nat.le_refl _))
    have he : insInner l1 a i d = insInner l2 a i d := insInner_eq D[i]! a i d (by omega) hdi (fun q h1 h2 => permIn_all D d a i (fun y => l1 D[i]! y = l2 D[i]! y) (by omega) hp (fun k k1 k2 => hq i k k1 k2 hlt) q h1 h2)
    rw [he]
    refine insOuter_eq a b D hb hq n (i + 1) _ (by omega) (by omega) (by omega) ?_
    exact permIn_trans _ _ _ a (i + 1) (permIn_mono D d a i a (i + 1) (Nat.le_refl _) (by omega) (by omega) hp) (insInner_perm a i i d hai (Nat.le_refl _) (by omega))
theorem insertionSort_eq {l1 l2 : α → α → Bool} (a b : Nat) (D : Array α) (hb : b ≤ D.size) (hq : ∀ p q, a ≤ q → q < p → p < b → l1 D[p]! D[q]! = l2 D[p]! D[q]!) : insertionSort l1 D a b = insertionSort l2 D a b := by
  unfold insertionSort
  by_cases h : a + 1 ≤ b
  · refine insOuter_eq a b D hb hq _ (a + 1) D rfl (by omega) h (permIn_refl D a (a + 1))
  · rw [insOuter, if_neg (by omega), insOuter, if_neg (by omega)]

/-- One number before a sorted part. -/
theorem merge_one_left (hS : SWO lt) {a m b q : Nat} {d d' : Array α} (hm : m = a + 1) (h1 : m ≤ q) (h2 : q ≤ b) (hb : b ≤ d.size) (hs : SortedIn lt m b d) (c1 : q = m ∨ lt d[q - 1]! d[a]! = true) (c2 : q = b ∨ lt d[q]! d[a]! = false)
    (hv : Moved d d' (rotI a m q)) : SortedIn lt a b d' := by
  have g2 : ∀ k, a ≤ k → k < q - 1 → d'[k]! = d[k + 1]! := fun k hk hk2 => by rw [hv.2 k (by omega)]; congr 1; unfold rotI; (repeat' split) <;> omega
  have g3 : d'[q - 1]! = d[a]! := by rw [hv.2 _ (by omega)]; congr 1; unfold rotI; (repeat' split) <;> omega
  have g4 : ∀ k, q ≤ k → k < b → d'[k]! = d[k]! := fun k hk hk2 => by rw [hv.2 k (by omega)]; congr 1; unfold rotI; (repeat' split) <;> omega
  intro i j hi hij hj
  rcases (show i < q - 1 ∨ i = q - 1 ∨ q ≤ i by omega) with h | rfl | h
  · rw [g2 i hi h]
    rcases (show j < q - 1 ∨ j = q - 1 ∨ q ≤ j by omega) with h' | rfl | h'
    · rw [g2 j (by omega) h']; exact hs _ _ (by omega) (by omega) (by omega)
    · rw [g3]
      rcases c1 with c1 | c1
      · omega
      · exact hS.ntrans _ _ _ (hS.asymmA c1) (sorted_le hS hs (by omega) (by omega) (by omega))
    · rw [g4 j h' hj]; exact hs _ _ (by omega) (by omega) (by omega)
  · rw [g3, g4 j (by omega) hj]
    rcases c2 with c2 | c2
    · omega
    · exact hS.ntrans _ _ _ (sorted_le hS hs (by omega) (by omega) hj) c2
  · rw [g4 i h (by omega), g4 j (by omega) hj]; exact hs _ _ (by omega) hij hj
/-- One number behind a sorted part. -/
theorem merge_one_right (hS : SWO lt) {a m b q : Nat} {d d' : Array α} (hm : b = m + 1) (h1 : a ≤ q) (h2 : q ≤ m) (hb : b ≤ d.size) (hs : SortedIn lt a m d) (c1 : q = a ∨ lt d[m]! d[q - 1]! = false) (c2 : q = m ∨ lt d[m]! d[q]! = true)
    (hv : Moved d d' (rotI q m (m + 1))) : SortedIn lt a b d' := by
  have g1 : ∀ k, k < q → d'[k]! = d[k]! := fun k hk => by rw [hv.2 k (by omega)]; congr 1; unfold rotI; (repeat' split) <;> omega
  have g2 : d'[q]! = d[m]! := by rw [hv.2 _ (by omega)]; congr 1; unfold rotI; (repeat' split) <;> omega
  have g3 : ∀ k, q < k → k ≤ m → d'[k]! = d[k - 1]! := fun k hk hk2 => by rw [hv.2 k (by omega)]; congr 1; unfold rotI; (repeat' split) <;> omega
  intro i j hi hij hj
  rcases (show i < q ∨ i = q ∨ q < i by omega) with h | rfl | h
  · rw [g1 i h]
    rcases (show j < q ∨ j = q ∨ q < j by omega) with h' | rfl | h'
    · rw [g1 j h']; exact hs _ _ hi hij (by omega)
    · rw [g2]
      rcases c1 with c1 | c1
      · omega
      · exact hS.ntrans _ _ _ c1 (sorted_le hS hs hi (by omega) (by omega))
    · rw [g3 j h' (by omega)]; exact sorted_le hS hs hi (by omega) (by omega)
  · rw [g2, g3 j hij (by omega)]
    rcases c2 with c2 | c2
    · omega
    · exact hS.ntrans _ _ _ (sorted_le hS hs (by omega) (by omega) (by omega)) (hS.asymmA c2)
  · rw [g3 i h (by omega), g3 j (by omega) (by omega)]; exact hs _ _ (by omega) (by omega) (by omega)
/-- The search of the merge ends in a cut. -/
theorem cut_of {a m b mid n s lo hi : Nat} {d : Array α} (ham : a < m) (hmb : m < b) (hmid : mid = (a + b) / 2) (hn : n = mid + m) (h : (mid < m ∧ lo = n - b ∧ hi = mid) ∨ (m ≤ mid ∧ lo = a ∧ hi = m)) (h1 : lo ≤ s) (h2 : s ≤ hi)
    (c1 : s = lo ∨ lt d[n - s]! d[s - 1]! = false) (c2 : s = hi ∨ lt d[n - 1 - s]! d[s]! = true) : Cut lt a m b s (n - s) d ∧ s + (n - s - m) = mid ∧ a ≤ mid ∧ mid ≤ b := by
  refine ⟨⟨by omega, by omega, by omega, by omega, fun h3 h4 => ?_, fun h3 h4 => ?_⟩, by omega, by omega, by omega⟩
  · rcases c1 with c1 | c1
    · omega
    · exact c1
  · rcases c2 with c2 | c2
    · omega
    · rw [show n - s - 1 = n - 1 - s by omega]; exact c2
end Go.Proofs.YtbgkbdhdkpjcdaaGreat

namespace Go.Proofs.YtbgkbdhdkpjcdaaGreat
open Go Go.RowKit Go.Proofs

theorem rf_From_c (n lo hi : Int) (w : World) : Calls Tryz.prog 206 #[.int .i64 n, .int .i64 lo, .int .i64 hi] w fun e w' => e = .returned (.bool (inB n lo hi)) ∧ w = w' := by
  unfold inB
  by_cases h1 : lo ≤ n <;> by_cases h2 : n ≤ hi
  all_goals
    go_enter Tryz.func206, Tryz.ntmps206
    go_wp2
    go_ret
    exact ⟨by simp [h1, h2], rfl⟩
theorem vspan_two {lo hi : Int} : (inB lo (-1000000) 1000000 && inB hi lo 1000000) = vspan lo hi := by
  rw [Bool.eq_iff_iff]; unfold vspan inB; simp only [Bool.and_eq_true, decide_eq_true_eq]; omega

theorem rf_Valid_c (lo hi : Int) (w : World) : Calls Tryz.prog 173 #[.agg #[.int .i64 lo, .int .i64 hi]] w fun e w' => e = .returned (.bool (vspan lo hi)) ∧ Below w.heap.size w w' := by
  rw [← vspan_two]
  cases h1 : inB lo (-1000000) 1000000
  all_goals
    go_enter Tryz.func173, Tryz.ntmps173
    go_wp2_with (first | (go_at_call 206; (with_reducible refine (rf_From_c _ _ _ _).mono ?_); rintro e w1 ⟨rfl, rfl⟩))
    go_ret
    exact ⟨by simp, (by repeat' (first | exact Below.refl _ _ | assumption | refine Below.drew ?_ | refine bdn ?_ _ | refine bal ?_ _ | refine Below.setCell ?_ (by first | (simp; done) | omega | (simp; omega)) _))⟩

theorem rf_two_c (al ah bl bh : Int) (w : World) : Calls Tryz.prog 228 #[.agg #[.int .i64 al, .int .i64 ah], .agg #[.int .i64 bl, .int .i64 bh]] w fun e w' => e = .returned (.int .i64 (spanE (!vspan al ah || !vspan bl bh))) ∧ Below w.heap.size w w' := by
  cases h1 : vspan al ah <;> cases h2 : vspan bl bh
  all_goals
    go_enter Tryz.func228, Tryz.ntmps228
    go_wp2_with (first | (go_at_call 173; (with_reducible refine (rf_Valid_c _ _ _).mono ?_); rintro e w1 ⟨rfl, hb1⟩; have hB1 := bthen (show Below w.heap.size w _ from (by repeat' (first | exact Below.refl _ _ | assumption | refine Below.drew ?_ | refine bdn ?_ _ | refine bal ?_ _ | refine Below.setCell ?_ (by first | (simp; done) | omega | (simp; omega)) _))) hb1; have hz1 := hb1.size; (try simp at hz1); obtain ⟨hc1, hf1⟩ := bcell hb1; first | (have hE1 := bthen2 hE (by repeat' (first | exact Below.refl _ _ | refine Below.drew ?_ | refine bdn ?_ _ | refine bal ?_ _ | refine Below.setCell ?_ (by first | (simp; done) | omega | (simp; omega)) _)) hb1; clear hE; have hE := hE1; clear hE1; obtain ⟨hd1, hg1⟩ := bcell hE) | (have hE := hb1)))
    go_ret
    exact ⟨rfl, (by repeat' (first | exact Below.refl _ _ | assumption | refine Below.drew ?_ | refine bdn ?_ _ | refine bal ?_ _ | refine Below.setCell ?_ (by first | (simp; done) | omega | (simp; omega)) _))⟩

end Go.Proofs.YtbgkbdhdkpjcdaaGreat

/- Contracts: knots, CheckTable, filled of the references. -/
namespace Go.Proofs.YtbgkbdhdkpjcdaaGreat
open Go Go.RowKit Go.Proofs
set_option maxRecDepth 100000
set_option maxHeartbeats 4000000

end Go.Proofs.YtbgkbdhdkpjcdaaGreat

/- Contracts: filled of the reference. -/
namespace Go.Proofs.YtbgkbdhdkpjcdaaGreat
open Go Go.RowKit Go.Proofs
set_option maxRecDepth 100000
set_option maxHeartbeats 4000000

end Go.Proofs.YtbgkbdhdkpjcdaaGreat

/- Contracts: part of the references. -/
namespace Go.Proofs.YtbgkbdhdkpjcdaaGreat
open Go Go.RowKit Go.Proofs
set_option maxRecDepth 100000
set_option maxHeartbeats 4000000

end Go.Proofs.YtbgkbdhdkpjcdaaGreat
