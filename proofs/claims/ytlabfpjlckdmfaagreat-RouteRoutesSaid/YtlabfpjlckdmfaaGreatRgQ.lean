import Derived.Test.YtlabfpjlckdmfaaGreatKZA
set_option linter.all false
namespace Go.Proofs.YtlabfpjlckdmfaaGreat
open Go Go.RowKit Go.Proofs
section
variable {P : Program} {ops : Array Oper}
def retB (ops : Array Oper) (n : Nat) (ret : Nat → Nat) : Bool := (List.range n).all fun i => (decide (ret i ≤ n)) && (depsOf ops i).all fun k => decide (n ≤ k) || (decide (ret k = n) || decide (ret k = i))
theorem retB_of {ops : Array Oper} {n : Nat} {ret : Nat → Nat} (h : retB ops n ret = true) {i k : Nat} (hi : i < n) (hk : k ∈ depsOf ops i) (hkn : k < n) : ret k = n ∨ ret k = i := by
 have := List.all_eq_true.1 h i (List.mem_range.2 hi)
 simp only [Bool.and_eq_true] at this
 have := List.all_eq_true.1 this.2 k hk
 simp only [Bool.or_eq_true, decide_eq_true_eq] at this
 omega
structure SpecInvQ (ret : Nat → Nat) (ops : Array Oper) (R : Nat → Value → World → Prop) (fresh : Nat → Bool) (n : Nat) (listed : Array Bool) (u : Nat → Value) (w : World) : Prop where
 r : ∀ k, k < n → listed.getD k false = true → listed.getD (ret k) false = false → R k (u k) w
 f : ∀ k, k < n → listed.getD k false = true → fresh k = true → ∃ g, u k = .pointer (some ⟨g, 0, none⟩) ∧ g < w.heap.size
 d : ∀ j k, j < n → k < n → j ≠ k → listed.getD j false = true → listed.getD k false = true → fresh j = true → fresh k = true → u j ≠ u k
theorem any_of_specsQ (G : Nat → World → World → Prop) (J : World → Prop) (ret : Nat → Nat) (hGs : ∀ i a b, G i a b → a.heap.size ≤ b.heap.size) (hJ : ∀ i a b, G i a b → J a → J b) {Q : Exit → Act → World → Prop} {R : Nat → Value → World → Prop} {fresh : Nat → Bool} {n : Nat} {a : Act} {w : World} {tail : List Oper}
  (hB : specB ops n = true) (hret : retB ops n ret = true) (hR : ∀ k j v a b, k ≠ j → (depsOf ops k).contains j = false → j ≠ ret k → G j a b → R k v a → R k v b)
  (hop : ∀ i oi, i < n → ops[i]? = some oi → ∀ (u : Nat → Value) (w1 : World), J w1 → (∀ k ∈ depsOf ops i, k < n → R k (u k) w1) → wpList P ops (EndOpG G Q R fresh ops i (putAll ops a u n) w1) [oi] (putAll ops a u n) w1)
  (htl : ∀ j, tail[j]? = ops[n + j]?) (htn : tail.length = ops.size - n)
  (htail : ∀ (u : Nat → Value) (w1 : World), J w1 → (∀ k, k < n → ret k = n → R k (u k) w1) → (∀ i j, i < n → j < n → i ≠ j → fresh i = true → fresh j = true → u i ≠ u j) → wpList P ops Q tail (putAll ops a u n) w1) :
  ∀ (m : Nat) (listed : Array Bool) (u : Nat → Value) (w1 : World), HeadInv .any ops n listed → ((List.range n).filter fun i => !listed.getD i false).length = m →
   SpecInvQ ret ops R fresh n listed u w1 → J w1 → wpAny P .any ops Q (m + (ops.size - n)) listed (putAll ops a u n) w1 := by
 simp only [specB, Bool.and_eq_true, decide_eq_true_eq] at hB
 obtain ⟨⟨⟨⟨⟨hn, hdist⟩, hforw⟩, hs⟩, hc⟩, hseq⟩ := hB
 intro m
 induction m with
 | zero =>
  intro listed u w1 inv hm sinv hb
  have all : ∀ i, i < n → listed.getD i false = true := by
   intro i hi
   have h0 := List.eq_nil_of_length_eq_zero hm
   rw [List.filter_eq_nil_iff] at h0
   have := h0 i (List.mem_range.2 hi)
   simpa using this
  have e := headDone_eq inv.size (by omega) all inv.tail
  subst e
  have := wpAny_of_seq (md := .any) (Q' := Q) tail n (headDone ops.size n) (putAll ops a u n) w1 htl (by rw [htn]; exact hseq)
   (htail u w1 hb (fun k hk e => sinv.r k hk (all k hk) (by rw [e]; exact getD_both (inv.tail n (Nat.le_refl n) hn))) (fun i j hi hj hij => sinv.d i j hi hj hij (all i hi) (all j hj)))
  rw [htn] at this
  rw [Nat.zero_add]
  exact this
 | succ m ih =>
  intro listed u w1 inv hm sinv hb
  obtain ⟨i0, hi0⟩ : ∃ i0, i0 ∈ (List.range n).filter fun i => !listed.getD i false := by
   cases hl : (List.range n).filter fun i => !listed.getD i false with
   | nil => rw [hl] at hm; simp at hm
   | cons x xs => exact ⟨x, by simp⟩
  obtain ⟨hi0n, hi0l⟩ := List.mem_filter.1 hi0
  have hi0n := List.mem_range.1 hi0n
  have hun : listed.getD i0 true = false := getD_in (by rw [inv.size]; omega) (by simpa using hi0l)
  have key : ∀ i ∈ Region.ready .any ops listed, i < n := fun i hi => Nat.lt_of_not_le fun h => tail_waits hs hc hn inv _ i0 rfl hi0n hun i h hi
  rw [show m + 1 + (ops.size - n) = (m + (ops.size - n)) + 1 by omega]
  refine ⟨fun h0 => ?_, fun i hi => ?_⟩
  ·exfalso
   have low : ∀ i, i < n → listed.getD i false = false → False := by
    intro i
    induction i using Nat.strongRecOn with
    | _ i ih =>
     intro hin hl
     have hoi : ops[i]? = some ops[i] := Array.getElem?_eq_getElem (by omega)
     by_cases hall : ∀ e ∈ (ops[i]'(by omega)).after, Region.binds .any e = true → listed.getD e.on false = true
     ·have : i ∈ Region.ready .any ops listed := mem_ready.2 ⟨getD_in (by rw [inv.size]; omega) hl, ops[i], hoi, hall⟩
      rw [h0] at this; cases this
     ·have hex : ∃ e ∈ (ops[i]'(by omega)).after, Region.binds .any e = true ∧ listed.getD e.on false = false := by
       refine Classical.byContradiction fun hne => hall fun e he hbe => ?_
       cases hx : listed.getD e.on false with
       | true => rfl
       | false => exact absurd ⟨e, he, hbe, hx⟩ hne
      obtain ⟨e, he, hbe, hx⟩ := hex
      have hlt := forwB_lt hforw hin hoi (List.mem_map.2 ⟨e, List.mem_filter.2 ⟨by simpa using he, hbe⟩, rfl⟩)
      exact ih e.on hlt (by omega) hx
   exact low i0 hi0n (by simpa using hi0l)
  ·have hin := key i hi
   obtain ⟨hil, oi, hoi, hall⟩ := mem_ready.1 hi
   refine wpOp_of_endG hoi (hop i oi hin hoi u w1 hb fun k hk hkn => ?_) fun v w' hb' hv hf => ?_
   ·have hk0 := hk
    have : ∃ e ∈ oi.after.toList, Region.binds .any e = true ∧ e.on = k := by
     unfold depsOf at hk; rw [hoi] at hk
     simp only [List.mem_map, List.mem_filter] at hk
     obtain ⟨e, ⟨he, hbe⟩, rfl⟩ := hk
     exact ⟨e, he, hbe, rfl⟩
    obtain ⟨e, he, hbe, rfl⟩ := this
    refine sinv.r _ hkn (hall e (by simpa using he) hbe) ?_
    rcases retB_of hret hin hk0 hkn with q | q
    ·rw [q]; exact getD_both (inv.tail n (Nat.le_refl n) hn)
    ·rw [q]; exact getD_both hil
   ·rw [← putAll_upd n hin hdist]
    have hl' : ∀ k, k ≠ i → (listed.setIfInBounds i true).getD k false = listed.getD k false := fun k hk => getD_set_ne false (Ne.symm hk)
    refine ih (listed.setIfInBounds i true) (upd u i v) w' (inv.set hi hin) ?_ ⟨?_, ?_, ?_⟩ (hJ i _ _ hb' hb)
    ·have := cnt_set (n := n) (p := fun k => !listed.getD k false) (q := fun k => !(listed.setIfInBounds i true).getD k false) hin (by simpa using getD_both hil) (by rw [getD_set_self (by rw [inv.size]; omega)]; rfl) (fun k hk => by rw [hl' k hk])
     omega
    ·intro k hk hkl hrl
     by_cases e : k = i
     ·subst e; rw [upd_same]; exact hv
     ·rw [upd_ne e]; rw [hl' k e] at hkl
      have hri : ret k ≠ i := fun q => by rw [q, getD_set_self (by rw [inv.size]; omega)] at hrl; cases hrl
      rw [hl' (ret k) hri] at hrl
      refine hR _ i _ _ _ e ?_ (Ne.symm hri) hb' (sinv.r k hk hkl hrl)
      cases hq : (depsOf ops k).contains i with
      | false => rfl
      | true =>
       exfalso
       have hc := List.contains_iff_mem.1 hq
       unfold depsOf at hc
       cases hok : ops[k]? with
       | none => rw [hok] at hc; simp at hc
       | some ok =>
        rw [hok] at hc
        simp only [List.mem_map, List.mem_filter] at hc
        obtain ⟨e2, ⟨he, hbe⟩, hk2⟩ := hc
        have h3 := inv.closed k ok hok hkl e2 (by simpa using he) hbe
        rw [hk2, getD_both hil] at h3; cases h3
    ·intro k hk hkl hfk
     by_cases e : k = i
     ·subst e; rw [upd_same]; obtain ⟨g, g1, g2, g3⟩ := hf hfk; exact ⟨g, g1, g3⟩
     ·rw [upd_ne e]; rw [hl' k e] at hkl; obtain ⟨g, g1, g2⟩ := sinv.f k hk hkl hfk; exact ⟨g, g1, Nat.lt_of_lt_of_le g2 (hGs i _ _ hb')⟩
    ·intro j k hj hk hjk hjl hkl hfj hfk
     by_cases e : j = i
     ·subst e
      have e2 : k ≠ j := fun h => hjk h.symm
      rw [upd_same, upd_ne e2]; rw [hl' k e2] at hkl
      obtain ⟨g, g1, g2, g3⟩ := hf hfj
      obtain ⟨g', g1', g2'⟩ := sinv.f k hk hkl hfk
      rw [g1, g1']; intro h; injection h with h; injection h with h; injection h with h; omega
     ·by_cases e2 : k = i
      ·subst e2
       rw [upd_same, upd_ne e]; rw [hl' j e] at hjl
       obtain ⟨g, g1, g2, g3⟩ := hf hfk
       obtain ⟨g', g1', g2'⟩ := sinv.f j hj hjl hfj
       rw [g1, g1']; intro h; injection h with h; injection h with h; injection h with h; omega
      ·rw [upd_ne e, upd_ne e2]; rw [hl' j e] at hjl; rw [hl' k e2] at hkl
       exact sinv.d j k hj hk hjk hjl hkl hfj hfk
theorem wp_region_specsQ {id : Nat} {Q : Exit → Act → World → Prop} {a : Act} {w : World} {l : List Oper} (G : Nat → World → World → Prop) (J : World → Prop) (ret : Nat → Nat) (hGs : ∀ i a b, G i a b → a.heap.size ≤ b.heap.size) (hJ : ∀ i a b, G i a b → J a → J b) (hJ0 : J w.drew) (n : Nat) (R : Nat → Value → World → Prop) (fresh : Nat → Bool)
  (hm : P.follows .mixedOrders = true) (hB : specB l.toArray n = true) (hret : retB l.toArray n ret = true) (hR : ∀ k j v a b, k ≠ j → (depsOf l.toArray k).contains j = false → j ≠ ret k → G j a b → R k v a → R k v b)
  (hop : ∀ i oi, i < n → l.toArray[i]? = some oi → ∀ (u : Nat → Value) (w1 : World), J w1 → (∀ k ∈ depsOf l.toArray i, k < n → R k (u k) w1) → wpList P l.toArray (EndOpG G Q R fresh l.toArray i (putAll l.toArray a u n) w1) [oi] (putAll l.toArray a u n) w1)
  (htail : ∀ (u : Nat → Value) (w1 : World), J w1 → (∀ k, k < n → ret k = n → R k (u k) w1) → (∀ i j, i < n → j < n → i ≠ j → fresh i = true → fresh j = true → u i ≠ u j) → wpList P l.toArray Q (l.drop n) (putAll l.toArray a u n) w1) :
  (Code.region id l.toArray true).wp P Q a w := by
 have hn : n < l.toArray.size := by simp only [specB, Bool.and_eq_true, decide_eq_true_eq] at hB; exact hB.1.1.1.1.1
 have hn' : n < l.length := by simpa using hn
 refine wp_region_any hm ?_
 have inv0 : HeadInv .any l.toArray n (Array.replicate l.toArray.size false) :=
  ⟨by simp, fun j oj _ hl => (by rw [getD_replicate_false] at hl; cases hl), fun t _ ht => getD_in (by simpa using ht) (getD_replicate_false _ _)⟩
 have hcnt : ((List.range n).filter fun i => !(Array.replicate l.toArray.size false).getD i false).length = n := by
  rw [List.filter_eq_self.2 (fun i _ => by rw [getD_replicate_false]; rfl), List.length_range]
 have := any_of_specsQ G J ret hGs hJ (P := P) (Q := Q) (R := R) (fresh := fresh) (n := n) (a := a) (w := w) (tail := l.drop n) hB hret hR hop (fun j => by simp [List.getElem?_drop]) (by simp) htail n
  (Array.replicate l.toArray.size false) (slotOf l.toArray a) w.drew inv0 hcnt ⟨fun k _ hl _ => (by rw [getD_replicate_false] at hl; cases hl), fun k _ hl => (by rw [getD_replicate_false] at hl; cases hl), fun j k _ _ _ hl => (by rw [getD_replicate_false] at hl; cases hl)⟩ hJ0
 rw [putAll_slot, show n + (l.toArray.size - n) = l.toArray.size by omega] at this
 exact this
theorem wp_region_specQ {id : Nat} {Q : Exit → Act → World → Prop} {a : Act} {w : World} {l : List Oper} (G : Nat → World → World → Prop) (J : World → Prop) (ret : Nat → Nat) (hGs : ∀ i a b, G i a b → a.heap.size ≤ b.heap.size) (hJ : ∀ i a b, G i a b → J a → J b) (hJ0 : J w.drew) (n : Nat) (R : Nat → Value → World → Prop) (fresh : Nat → Bool)
  (hm : P.follows .mixedOrders = true) (hB : specB l.toArray n = true) (hret : retB l.toArray n ret = true) (hR : ∀ k j v a b, k ≠ j → (depsOf l.toArray k).contains j = false → j ≠ ret k → G j a b → R k v a → R k v b)
  (hop : allOps (fun i oi => ∀ (u : Nat → Value) (A : Act) (w1 : World), A = putAll l.toArray a u n → J w1 → (∀ k, k < n → (depsOf l.toArray i).contains k = true → R k (u k) w1) → wpList P l.toArray (EndOpG G Q R fresh l.toArray i A w1) [oi] A w1) 0 (l.take n))
  (htail : ∀ (u : Nat → Value) (A : Act) (w1 : World), A = putAll l.toArray a u n → J w1 → (∀ k, k < n → ret k = n → R k (u k) w1) → (∀ i j, i < n → j < n → i ≠ j → fresh i = true → fresh j = true → u i ≠ u j) → wpList P l.toArray Q (l.drop n) A w1) :
  (Code.region id l.toArray true).wp P Q a w :=
 wp_region_specsQ G J ret hGs hJ hJ0 n R fresh hm hB hret hR (fun i oi hi ho u w1 hb hd => by
  have := allOps_get _ _ hop i oi (by simpa [List.getElem?_take, hi] using ho) u (putAll l.toArray a u n) w1 rfl hb (fun k hk hc => hd k (by simpa using hc) hk)
  rw [Nat.zero_add] at this
  exact this) (fun u w1 => htail u _ w1 rfl)
end
end Go.Proofs.YtlabfpjlckdmfaaGreat
