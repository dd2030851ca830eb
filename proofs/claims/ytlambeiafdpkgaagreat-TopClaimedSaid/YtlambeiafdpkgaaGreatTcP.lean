import Derived.Test.YtlambeiafdpkgaaGreatTcF
import Derived.Test.YtlambeiafdpkgaaGreatDkT
import Derived.Test.YtlambeiafdpkgaaGreatJAT
set_option linter.all false
namespace Go.Proofs.YtlambeiafdpkgaaGreat
open Go Go.RowKit Go.Proofs
set_option maxRecDepth 100000
set_option maxHeartbeats 4000000
def hasL (l : List (Int × Int)) (n : Int) : Bool := l.any fun p => inB n p.1 p.2
theorem hasL_cons (p : Int × Int) (l : List (Int × Int)) (n : Int) : hasL (p :: l) n = (inB n p.1 p.2 || hasL l n) := rfl
theorem hasL_app (l k : List (Int × Int)) (n : Int) : hasL (l ++ k) n = (hasL l n || hasL k n) := by simp [hasL]
theorem inB_no {n a b : Int} (h : n < a ∨ b < n) : inB n a b = false := by
 cases e : inB n a b
 ·rfl
 ·have := inB_iff.1 e; omega
theorem inB_yes {n a b : Int} (h : a ≤ n ∧ n ≤ b) : inB n a b = true := inB_iff.2 h
theorem stR_low {is : Int → Bool} {te : Int} : ∀ (r : Nat) (t f n : Int), f ≤ t → n < f → hasL (strR is te 1 r t f) n = false
 | 0, _, _, _, _, _ => rfl
 | r + 1, t, f, n, h1, h2 => by
  unfold strR
  split
  ·exact stR_low r (t + 1) f n (by omega) h2
  ·split
   ·rw [hasL_cons, stR_low r (t + 1) (t + 1) n (by omega) (by omega), inB_no (.inl h2)]
    rfl
   ·exact stR_low r (t + 1) (t + 1) n (by omega) (by omega)
theorem stR_has {is : Int → Bool} {te : Int} : ∀ (r : Nat) (t f n : Int), t + r = te + 1 → f ≤ t → (t ≤ te ∨ f = t) → (∀ m, f ≤ m → m < t → is m = true) → f ≤ n → n < te → hasL (strR is te 1 r t f) n = is n
 | 0, t, f, n, h1, h2, h3, h4, h5, h6 => by omega
 | r + 1, t, f, n, h1, h2, h3, h4, h5, h6 => by
  unfold strR
  split
  ·rename_i hc
   simp only [Bool.and_eq_true, decide_eq_true_eq] at hc
   refine stR_has r (t + 1) f n (by omega) (by omega) (by omega) (fun m q1 q2 => ?_) h5 h6
   by_cases e : m = t
   ·rw [e]; exact hc.2
   ·exact h4 m q1 (by omega)
  ·rename_i hc
   have hrest : n ≤ t → hasL (strR is te 1 r (t + 1) (t + 1)) n = false := fun h => stR_low r (t + 1) (t + 1) n (by omega) (by omega)
   have hup : t < n → hasL (strR is te 1 r (t + 1) (t + 1)) n = is n := fun h => stR_has r (t + 1) (t + 1) n (by omega) (by omega) (by omega) (fun m q1 q2 => by omega) (by omega) h6
   have hat : n = t → is n = false := fun h => by
    subst h
    cases e : is n
    ·rfl
    ·exact absurd (by simp [e, h6]) hc
   split
   ·rw [hasL_cons]
    rcases Int.lt_trichotomy n t with h | h | h
    ·rw [h4 n h5 h, inB_yes ⟨h5, by show n ≤ t - 1; omega⟩]; rfl
    ·rw [hrest (by omega), hat h, inB_no (.inr (by show t - 1 < n; omega))]; rfl
    ·rw [hup h, inB_no (.inr (by show t - 1 < n; omega))]; rfl
   ·rcases Int.lt_trichotomy n t with h | h | h
    ·omega
    ·rw [hrest (by omega), hat h]
    ·exact hup h
theorem stR_bd {is : Int → Bool} {te : Int} : ∀ (r : Nat) (t f : Int) (p : Int × Int), t + r = te + 1 → f ≤ t → p ∈ strR is te 1 r t f → f ≤ p.1 ∧ p.1 ≤ p.2 ∧ p.2 < te
 | 0, _, _, _, _, _, h => by cases h
 | r + 1, t, f, p, h1, h2, h => by
  unfold strR at h
  split at h
  ·exact stR_bd r (t + 1) f p (by omega) (by omega) h
  ·split at h
   ·rcases List.mem_cons.1 h with rfl | h
    ·exact ⟨Int.le_refl _, by show f ≤ t - 1; omega, by show t - 1 < te; omega⟩
    ·have := stR_bd r (t + 1) (t + 1) p (by omega) (by omega) h; omega
   ·have := stR_bd r (t + 1) (t + 1) p (by omega) (by omega) h; omega
def WInv (l : List (Int × Int)) (f t : Int) : Prop := ∀ p ∈ l, f ≤ p.1 ∧ p.1 ≤ p.2 ∧ p.2 ≤ t - 1
theorem WInv.no {l : List (Int × Int)} {f t n : Int} (h : WInv l f t) (hn : t ≤ n) : hasL l n = false := by
 unfold hasL
 rw [List.any_eq_false]
 intro p hp
 have := h p hp
 rw [inB_no (.inr (by omega))]
 decide
theorem winA_both (l : List (Int × Int)) (f t n : Int) (h : WInv l f t) (hf : f ≤ t) : hasL (winA l t) n = (decide (n = t) || hasL l n) ∧ WInv (winA l t) f (t + 1) := by
 have hap : hasL (l ++ [(t, t)]) n = (decide (n = t) || hasL l n) ∧ WInv (l ++ [(t, t)]) f (t + 1) := by
  constructor
  ·rw [hasL_app, hasL_cons, show hasL [] n = false from rfl, Bool.or_false, Bool.or_comm]
   congr 1
   rw [Bool.eq_iff_iff, inB_iff, decide_eq_true_eq]
   show t ≤ n ∧ n ≤ t ↔ _
   omega
  ·intro p hp
   rcases List.mem_append.1 hp with hp | hp
   ·have := h p hp; omega
   ·obtain rfl : p = (t, t) := by simpa using hp
    exact ⟨hf, Int.le_refl _, by show t ≤ t + 1 - 1; omega⟩
 unfold winA
 split
 ·rename_i p hp
  split
  ·rename_i hq
   have hl : l = l.dropLast ++ [p] := by
    obtain ⟨ys, rfl⟩ := List.getLast?_eq_some_iff.1 hp
    simp
   have hp2 := h p (by rw [hl]; simp)
   constructor
   ·rw [hasL_app, show hasL l n = (hasL l.dropLast n || hasL [p] n) from by rw [← hasL_app, ← hl], hasL_cons, hasL_cons, show hasL [] n = false from rfl, Bool.or_false, Bool.or_false]
    have e : inB n p.1 t = (decide (n = t) || inB n p.1 p.2) := by
     rw [Bool.eq_iff_iff, Bool.or_eq_true, inB_iff, inB_iff, decide_eq_true_eq]
     omega
    show (hasL l.dropLast n || inB n p.1 t) = _
    rw [e]
    cases hasL l.dropLast n <;> cases decide (n = t) <;> rfl
   ·intro q hqm
    rcases List.mem_append.1 hqm with hqm | hqm
    ·have := h q (List.dropLast_subset _ hqm); omega
    ·obtain rfl : q = (p.1, t) := by simpa using hqm
     exact ⟨hp2.1, by show p.1 ≤ t; omega, by show t ≤ t + 1 - 1; omega⟩
  ·exact hap
 ·exact hap
theorem winR_both (op : Int → Bool) (f n : Int) : ∀ (k : Nat) (t : Int) (l : List (Int × Int)), WInv l f t → f ≤ t → hasL (winR op k t l) n = (if t ≤ n ∧ n < t + k then op n else hasL l n) ∧ WInv (winR op k t l) f (t + k)
 | 0, t, l, h, hf => ⟨by rw [if_neg (by omega)]; rfl, by simpa [winR] using h⟩
 | k + 1, t, l, h, hf => by
  unfold winR
  have hs : hasL (if op t then winA l t else l) n = (if n = t then op n else hasL l n) ∧ WInv (if op t then winA l t else l) f (t + 1) := by
   have ha := winA_both l f t n h hf
   by_cases ho : op t = true
   ·rw [if_pos ho]
    refine ⟨?_, ha.2⟩
    rw [ha.1]
    by_cases e : n = t
    ·subst e; rw [if_pos rfl, decide_eq_true rfl, ho]; rfl
    ·rw [if_neg e, decide_eq_false e]; rfl
   ·rw [if_neg ho]
    refine ⟨?_, fun p hp => by have := h p hp; omega⟩
    by_cases e : n = t
    ·subst e
     rw [if_pos rfl, h.no (Int.le_refl _)]
     simpa using ho
    ·rw [if_neg e]
  have ih := winR_both op f n k (t + 1) (if op t then winA l t else l) hs.2 (by omega)
  refine ⟨?_, by have := ih.2; rwa [show t + 1 + (k : Int) = t + ((k + 1 : Nat) : Int) by omega] at this⟩
  rw [ih.1, hs.1]
  by_cases h1 : t + 1 ≤ n ∧ n < t + 1 + k
  ·rw [if_pos h1, if_pos (by omega)]
  ·rw [if_neg h1]
   by_cases e : n = t
   ·subst e; rw [if_pos rfl, if_pos (by omega)]
   ·rw [if_neg e, if_neg (by omega)]
theorem stR_len {is : Int → Bool} {te : Int} : ∀ (r : Nat) (t f : Int), (strR is te 1 r t f).length ≤ r
 | 0, _, _ => Nat.le_refl _
 | r + 1, t, f => by
  unfold strR
  have h1 := stR_len (is := is) (te := te) r (t + 1) f
  have h2 := stR_len (is := is) (te := te) r (t + 1) (t + 1)
  split
  ·omega
  ·split
   ·rw [List.length_cons]; omega
   ·omega
theorem winA_len (l : List (Int × Int)) (t : Int) : (winA l t).length ≤ l.length + 1 := by
 unfold winA
 split
 ·split
  ·simp only [List.length_append, List.length_dropLast, List.length_cons, List.length_nil]; omega
  ·simp
 ·simp
theorem winR_len (op : Int → Bool) : ∀ (k : Nat) (t : Int) (l : List (Int × Int)), (winR op k t l).length ≤ l.length + k
 | 0, _, _ => Nat.le_refl _
 | k + 1, t, l => by
  unfold winR
  have h1 := winR_len op k (t + 1) (if op t then winA l t else l)
  have h2 := winA_len l t
  by_cases h : op t = true
  ·rw [if_pos h] at h1 ⊢; omega
  ·rw [if_neg h] at h1 ⊢; omega
def loL (l : List (Int × Int)) (i : Nat) : Int := (l[i]?.getD (0, 0)).1
def hiL (l : List (Int × Int)) (i : Nat) : Int := (l[i]?.getD (0, 0)).2
theorem any_list {α : Type} (l : List α) (d : α) (P : α → Bool) : ((List.range l.length).any fun j => P (l[j]?.getD d)) = l.any P := by
 induction l with
 | nil => rfl
 | cons a l ih =>
  rw [List.length_cons, List.range_succ_eq_map, List.any_cons, List.any_map, List.any_cons]
  show (P a || (List.range l.length).any _) = _
  rw [← ih]
  rfl
theorem inW_fst (k l : List (Int × Int)) (t : Int) : inW (loL (k ++ l)) (hiL (k ++ l)) 0 k.length t = hasL k t := by
 unfold inW hasL
 rw [← any_list k (0, 0)]
 refine any_congr fun j hj => ?_
 unfold loL hiL
 rw [Nat.zero_add, List.getElem?_append_left hj]
theorem inW_snd (k l : List (Int × Int)) (t : Int) : inW (loL (k ++ l)) (hiL (k ++ l)) k.length l.length t = hasL l t := by
 unfold inW hasL
 rw [← any_list l (0, 0)]
 refine any_congr fun j hj => ?_
 unfold loL hiL
 rw [List.getElem?_append_right (by omega), Nat.add_sub_cancel_left]
theorem both_law {is op : Int → Bool} {f u : Int} (hf : 0 ≤ f) (hfu : f < u) (k l : List (Int × Int)) (hk : k = strV is f u 1) (hl : l = winR op (u - f).toNat f []) (t : Int) :
  (f ≤ t → t < u → bothB k.length l.length (loL (k ++ l)) (hiL (k ++ l)) t = (is t && op t)) ∧ (u ≤ t → bothB k.length l.length (loL (k ++ l)) (hiL (k ++ l)) t = false) := by
 unfold bothB
 rw [inW_fst, inW_snd]
 have h2 := winR_both op f t (u - f).toNat f [] (fun p hp => by cases hp) (Int.le_refl _)
 constructor
 ·intro h0 h1
  rw [hk, hl, h2.1, if_pos ⟨h0, by omega⟩]
  congr 1
  exact stR_has _ f f t (by omega) (Int.le_refl _) (.inr rfl) (fun m q1 q2 => by omega) h0 h1
 ·intro h0
  have : hasL k t = false := by
   unfold hasL
   rw [List.any_eq_false]
   intro p hp
   rw [hk] at hp
   have := stR_bd (is := is) (te := u) _ f f p (by omega) (Int.le_refl _) hp
   rw [inB_no (.inr (by omega))]
   decide
  rw [this]
  rfl
theorem both_bd {is op : Int → Bool} {f u : Int} (hf : 0 ≤ f) (hfu : f < u) (hu : u ≤ 2000) (k l : List (Int × Int)) (hk : k = strV is f u 1) (hl : l = winR op (u - f).toNat f []) :
  ∀ i, i < k.length + l.length → 0 ≤ loL (k ++ l) i ∧ loL (k ++ l) i ≤ hiL (k ++ l) i ∧ hiL (k ++ l) i ≤ 2000 := by
 intro i hi
 have hi2 : i < (k ++ l).length := by simpa using hi
 unfold loL hiL
 rw [List.getElem?_eq_getElem hi2]
 show 0 ≤ (k ++ l)[i].1 ∧ (k ++ l)[i].1 ≤ (k ++ l)[i].2 ∧ (k ++ l)[i].2 ≤ 2000
 have hm := List.getElem_mem hi2
 generalize (k ++ l)[i] = p at *
 rcases List.mem_append.1 hm with hm | hm
 ·rw [hk] at hm
  have := stR_bd (is := is) (te := u) _ f f p (by omega) (Int.le_refl _) hm
  omega
 ·rw [hl] at hm
  have := (winR_both op f 0 (u - f).toNat f [] (fun p hp => by cases hp) (Int.le_refl _)).2 p hm
  omega
theorem tcOp {M : MetD} {lw ls lc f u q t : Int} (h : cwE M lw ls lc f u q = 0) (h0 : 0 ≤ t) (h1 : t ≤ 2000) : opE M lw ls lc q t = 0 := by
 unfold cwE at h
 by_cases hm : minE M lw ls lc = 0
 ·rw [if_pos hm] at h
  have hq : inB q 0 (M.places - 1) = true := by
   cases e : inB q 0 (M.places - 1)
   ·rw [e] at h; simp at h
   ·rfl
  have hb : M.bad = false := by
   cases e : M.bad
   ·rfl
   ·unfold minE at hm; rw [e] at hm; simp at hm
  unfold opE atE
  rw [if_pos hm, hb, hq, inB_yes ⟨h0, h1⟩]
  rfl
 ·rw [if_neg hm] at h; exact absurd h hm
def endV (B : Int → Bool) (u t : Int) : Int := if decide (t < u) && B t then untV B t - 1 else -1
theorem endV_no {B : Int → Bool} {u t : Int} (h : B t = false) : endV B u t = -1 := by unfold endV; rw [h, Bool.and_false]; rfl
theorem endV_end (B : Int → Bool) (u : Int) : endV B u u = -1 := by unfold endV; rw [decide_eq_false (by omega), Bool.false_and]; rfl
theorem endV_yes {B : Int → Bool} {u t : Int} (h : B t = true) (ht : t < u) : endV B u t = untV B t - 1 := by unfold endV; rw [h, decide_eq_true ht]; rfl
theorem endV_step {B : Int → Bool} {u t : Int} (hB : ∀ q, u ≤ q → B q = false) (ht0 : 0 ≤ t) (ht : t < u) (hu : u ≤ 2000) (h : B t = true) :
  (endV B u (t + 1) < 0 → untV B t - 1 = t) ∧ (¬ endV B u (t + 1) < 0 → untV B t - 1 = endV B u (t + 1)) := by
 have h1 : untV B t = untV B (t + 1) := by rw [untV_step (by omega), if_pos h]
 by_cases h2 : B (t + 1) = true
 ·have hlt : t + 1 < u := by
   rcases Int.lt_or_le (t + 1) u with q | q
   ·exact q
   ·rw [hB _ q] at h2; cases h2
  have h3 := endV_yes h2 hlt
  have h4 : t + 1 ≤ untV B (t + 1) := untR_ge _ _ _
  exact ⟨fun q => by omega, fun _ => by omega⟩
 ·have h2 : B (t + 1) = false := by simpa using h2
  have h3 := endV_no (u := u) h2
  have h4 : untV B (t + 1) = t + 1 := by rw [untV_step (by omega), h2]; rfl
  exact ⟨fun _ => by omega, fun q => by omega⟩
end Go.Proofs.YtlambeiafdpkgaaGreat
