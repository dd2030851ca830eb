/- Texts joined: JAZ. -/
import Derived.Test.YtbgkbdhdkpjcdaaGreatNbX
import Derived.Test.YtbgkbdhdkpjcdaaGreatJAQ
import Derived.Test.YtbgkbdhdkpjcdaaGreatNbM
set_option linter.all false
namespace Go.Proofs.YtbgkbdhdkpjcdaaGreat
open Go Go.RowKit Go.Proofs
set_option maxRecDepth 100000
/-- The flight with the most fuel. -/
def FliD.wet (F : FliD) : FliD := { F with fuel := 100000 }
def FliD.need (F : FliD) (h : HavD) : Int := F.res + F.burn * (h.t - F.dep)
theorem FliD.wet_at (F : FliD) (lt : Tab) : ∀ i, F.wet.at_ lt i = F.at_ lt i
  | 0 => rfl
  | i + 1 => by
    unfold FliD.at_
    rw [FliD.wet_at F lt i]; rfl
theorem FliD.wet_ix (F : FliD) (lt : Tab) (t : Int) : ∀ i, F.wet.ix lt t i = F.ix lt t i
  | 0 => rfl
  | i + 1 => by
    unfold FliD.ix
    rw [FliD.wet_at F lt (i + 1), FliD.wet_ix F lt t i]
theorem FliD.wet_reach (F : FliD) (lt tt : Tab) (t : Int) (p : Nat) : F.wet.reach lt tt t p = F.reach lt tt t p := by
  unfold FliD.reach
  rw [show F.wet.m = F.m from rfl, FliD.wet_ix]
  simp only [FliD.wet_at]
  rfl
theorem FliD.havK_filter (F : FliD) (lt tt : Tab) (op : Nat → Int → Bool) (t : Int) : ∀ k, F.wet.havK lt tt op t false k = (F.havK lt tt op t true k).filter fun h => decide (F.need h ≤ 100000)
  | 0 => rfl
  | k + 1 => by
    have ih := FliD.havK_filter F lt tt op t k
    unfold FliD.havK
    have hh : F.wet.havB lt tt op t false k = (F.havB lt tt op t true k && decide (F.need (F.hav1 lt tt t k) ≤ 100000)) := by
      unfold FliD.havB FliD.lasts
      rw [FliD.wet_reach]
      rw [show decide (F.wet.res ≤ F.wet.fuel - F.wet.burn * ((F.reach lt tt t k).1 - F.wet.dep)) = decide (F.need (F.hav1 lt tt t k) ≤ 100000) by
        unfold FliD.need FliD.hav1 FliD.wet
        dsimp only
        apply decide_eq_decide.2
        omega]
      simp [Bool.and_assoc]
    have h1 : F.wet.hav1 lt tt t k = F.hav1 lt tt t k := by unfold FliD.hav1; rw [FliD.wet_reach]
    rw [hh, h1, ih]
    cases F.havB lt tt op t true k
    · simp
    · by_cases hn : F.need (F.hav1 lt tt t k) ≤ 100000
      · simp [hn, List.filter_append]
      · simp [hn, List.filter_append]
theorem minH_least {f : Nat → HavD} : ∀ (k i : Nat), i ≤ k → (minH f k).t ≤ (f i).t
  | 0, i, h => by
    obtain rfl : i = 0 := by omega
    exact Int.le_refl _
  | k + 1, i, h => by
    unfold minH
    by_cases e : (f (k + 1)).t < (minH f k).t
    · rw [if_pos e]
      rcases Nat.lt_or_ge k i with q | q
      · obtain rfl : i = k + 1 := by omega
        exact Int.le_refl _
      · have := minH_least (f := f) k i q; omega
    · rw [if_neg e]
      rcases Nat.lt_or_ge k i with q | q
      · obtain rfl : i = k + 1 := by omega
        omega
      · exact minH_least k i q
theorem minH_mem2 {f : Nat → HavD} : ∀ (k : Nat), ∃ i, i ≤ k ∧ minH f k = f i
  | 0 => ⟨0, Nat.le_refl _, rfl⟩
  | k + 1 => by
    unfold minH
    by_cases e : (f (k + 1)).t < (minH f k).t
    · rw [if_pos e]; exact ⟨k + 1, Nat.le_refl _, rfl⟩
    · rw [if_neg e]
      obtain ⟨i, h1, h2⟩ := minH_mem2 (f := f) k
      exact ⟨i, by omega, h2⟩
theorem bestL_some {l : List HavD} {h : HavD} (e : bestL l = some h) : h ∈ l ∧ ∀ x ∈ l, h.t ≤ x.t := by
  unfold bestL at e
  by_cases h0 : l.length = 0
  · rw [if_pos h0] at e; cases e
  · rw [if_neg h0] at e
    obtain rfl : minH (hvx l) (l.length - 1) = h := Option.some.inj e
    have hg : ∀ i (hi : i < l.length), hvx l i = l[i] := fun i hi => by unfold hvx; rw [List.getD_eq_getElem?_getD, List.getElem?_eq_getElem hi]; rfl
    constructor
    · obtain ⟨i, h1, h2⟩ := minH_mem2 (f := hvx l) (l.length - 1)
      rw [h2, hg i (by omega)]
      exact List.getElem_mem _
    · intro x hx
      obtain ⟨i, hi, rfl⟩ := List.getElem_of_mem hx
      have := minH_least (f := hvx l) (l.length - 1) i (by omega)
      rw [hg i hi] at this
      exact this
theorem bestL_nil {l : List HavD} (e : bestL l = none) : l = [] := by
  unfold bestL at e
  by_cases h0 : l.length = 0
  · exact List.eq_nil_of_length_eq_zero h0
  · rw [if_neg h0] at e; cases e
/-- The best of the flight with the most fuel, by the best with no bound. -/
theorem best_wet {F : FliD} {l : List HavD} (hb : 0 ≤ F.burn) : match bestL l with
    | none => bestL (l.filter fun h => decide (F.need h ≤ 100000)) = none
    | some h => if F.need h ≤ 100000 then ∃ g, bestL (l.filter fun h => decide (F.need h ≤ 100000)) = some g ∧ g.t = h.t else bestL (l.filter fun h => decide (F.need h ≤ 100000)) = none := by
  cases e : bestL l with
  | none =>
    obtain rfl := bestL_nil e
    rfl
  | some h =>
    obtain ⟨h1, h2⟩ := bestL_some e
    dsimp only
    by_cases hn : F.need h ≤ 100000
    · rw [if_pos hn]
      cases e2 : bestL (l.filter fun h => decide (F.need h ≤ 100000)) with
      | none =>
        have h3 := bestL_nil e2
        have h4 : h ∈ l.filter fun h => decide (F.need h ≤ 100000) := List.mem_filter.2 ⟨h1, by simpa using hn⟩
        rw [h3] at h4; cases h4
      | some g =>
        obtain ⟨g1, g2⟩ := bestL_some e2
        have a1 := h2 g (List.mem_filter.1 g1).1
        have a2 := g2 h (List.mem_filter.2 ⟨h1, by simpa using hn⟩)
        exact ⟨g, rfl, by omega⟩
    · rw [if_neg hn]
      have h3 : (l.filter fun h => decide (F.need h ≤ 100000)) = [] := by
        apply List.filter_eq_nil_iff.2
        intro x hx
        have := h2 x hx
        have h4 : F.burn * (h.t - F.dep) ≤ F.burn * (x.t - F.dep) := Int.mul_le_mul_of_nonneg_left (by omega) hb
        unfold FliD.need at hn ⊢
        simp only [decide_eq_true_eq]
        omega
      rw [h3]; rfl
end Go.Proofs.YtbgkbdhdkpjcdaaGreat

namespace Go.Proofs.YtbgkbdhdkpjcdaaGreat
open Go Go.RowKit Go.Proofs
set_option maxRecDepth 100000
/-- The latest of d and the ticks of the first i havens. -/
def mxK (f : Nat → HavD) (d : Int) : Nat → Int
  | 0 => d
  | i + 1 => max (mxK f d i) (f i).t
theorem mxK_congr {f g : Nat → HavD} {d : Int} : ∀ n, (∀ i, i < n → (f i).t = (g i).t) → mxK f d n = mxK g d n
  | 0, _ => rfl
  | n + 1, h => by
    unfold mxK
    rw [mxK_congr n (fun i hi => h i (by omega)), h n (by omega)]
def mxL (l : List HavD) (d : Int) : Int := mxK (hvx l) d l.length
theorem mxL_snoc (l : List HavD) (g : HavD) (d : Int) : mxL (l ++ [g]) d = max (mxL l d) g.t := by
  unfold mxL
  rw [List.length_append, List.length_singleton]
  show max (mxK (hvx (l ++ [g])) d l.length) (hvx (l ++ [g]) l.length).t = _
  rw [hvx_app, if_pos rfl]
  congr 1
  exact mxK_congr _ fun i hi => by rw [hvx_app, if_neg (by omega), if_pos hi]
/-- What Least of the reference returns, by the proof. -/
def leaW (F : FliD) (R : List HavD × Int × Bool) : Int × Int := if R.2.2 = true then (F.res + F.burn * (mxL R.1 F.dep - F.dep), 0) else (0, 3)
theorem leaR_ge {F : FliD} {bf : Int → Option HavD} : ∀ (n : Nat) (t m k : Int), F.leaR bf n t m = some k → m ≤ k
  | 0, _, _, _, h => by unfold FliD.leaR at h; cases h; exact Int.le_refl _
  | n + 1, t, m, k, h => by
    unfold FliD.leaR at h
    cases e : bf t with
    | none => rw [e] at h; cases h
    | some x =>
      rw [e] at h
      have := leaR_ge n _ _ _ h
      omega
theorem leaR_gt {F : FliD} {bf : Int → Option HavD} {n : Nat} {t m : Int} (h : ¬ m ≤ 100000) : leaV (F.leaR bf n t m) = (0, 3) := by
  cases e : F.leaR bf n t m with
  | none => rfl
  | some k =>
    have := leaR_ge n _ _ _ e
    unfold leaV
    dsimp only
    rw [if_neg (by omega)]
def BestRel (F : FliD) (a b : Option HavD) : Prop := match a with
    | none => b = none
    | some h => if F.need h ≤ 100000 then ∃ g, b = some g ∧ g.t = h.t else b = none
theorem max_need {F : FliD} (hb : 0 ≤ F.burn) (a b : Int) : F.res + F.burn * (max a b - F.dep) = max (F.res + F.burn * (a - F.dep)) (F.res + F.burn * (b - F.dep)) := by
  rcases Int.le_total a b with h | h
  · have := Int.mul_le_mul_of_nonneg_left (show a - F.dep ≤ b - F.dep by omega) hb
    rw [Int.max_eq_right h, Int.max_eq_right (by omega)]
  · have := Int.mul_le_mul_of_nonneg_left (show b - F.dep ≤ a - F.dep by omega) hb
    rw [Int.max_eq_left h, Int.max_eq_left (by omega)]
theorem lea_prf {F : FliD} {bD bL : Int → Option HavD} (hb : 0 ≤ F.burn) (H : ∀ t, BestRel F (bD t) (bL t)) : ∀ (n : Nat) (t m : Int) (l : List HavD), m = F.res + F.burn * (mxL l F.dep - F.dep) → m ≤ 100000 → leaV (F.leaR bD n t m) = leaW F (prfR bL n t l)
  | 0, t, m, l, h, h1 => by
    unfold FliD.leaR leaV prfR leaW
    dsimp only
    rw [if_pos h1, if_pos rfl, h]
  | n + 1, t, m, l, h, h1 => by
    have q := H t
    unfold FliD.leaR prfR
    unfold BestRel at q
    cases e : bD t with
    | none =>
      rw [e] at q
      dsimp only at q
      rw [q]
      rfl
    | some x =>
      rw [e] at q
      dsimp only at q ⊢
      by_cases hn : F.need x ≤ 100000
      · rw [if_pos hn] at q
        obtain ⟨g, q1, q2⟩ := q
        rw [q1]
        dsimp only
        have hx : F.need x = F.res + F.burn * (x.t - F.dep) := rfl
        refine lea_prf hb H n (t + 1) _ (l ++ [g]) ?_ (by omega)
        rw [mxL_snoc, max_need hb, h, q2]
      · rw [if_neg hn] at q
        rw [q]
        have hx : F.need x = F.res + F.burn * (x.t - F.dep) := rfl
        rw [leaR_gt (by omega)]
        rfl
theorem FliD.reach_ge {F : FliD} {P : Nat} {lt tt : Tab} {t : Int} {p : Nat} (hok : F.ok P lt) (h0 : F.dep ≤ t) (h1 : t ≤ F.at_ lt (F.m - 1)) (h : (F.reach lt tt t p).2.2 = true) : t ≤ (F.reach lt tt t p).1 := by
  obtain ⟨hnu, hfl, hend⟩ := hok
  obtain ⟨hm, hd, -⟩ := FliD.nums_iff.1 hnu
  have hix := FliD.ix_le (F := F) (lt := lt) (t := t) (F.m - 1)
  have hixa := FliD.ix_at (F := F) (lt := lt) h0 (F.m - 1)
  have hlt := FliD.ix_lt (F := F) (lt := lt) (t := t) (F.m - 1)
  unfold FliD.reach at h ⊢
  generalize F.ix lt t (F.m - 1) = i at *
  dsimp only at h ⊢
  by_cases hc : t = F.at_ lt i
  · rw [if_pos hc] at h ⊢
    have := of_decide_eq_true h
    dsimp only; omega
  · rw [if_neg hc] at h ⊢
    have him : i < F.m - 1 := by
      rcases Nat.lt_or_ge i (F.m - 1) with q | q
      · exact q
      · have : i = F.m - 1 := by omega
        subst this
        omega
    have := hlt him
    by_cases h2 : t + (t - F.at_ lt i) + tt (F.R i).toNat p < F.at_ lt (i + 1) + tt (F.R (i + 1)).toNat p
    · rw [if_pos h2] at h ⊢
      have := of_decide_eq_true h
      dsimp only; omega
    · rw [if_neg h2] at h ⊢
      have := of_decide_eq_true h
      dsimp only; omega
theorem FliD.havK_ge {F : FliD} {P : Nat} {lt tt : Tab} {op : Nat → Int → Bool} {t : Int} {dry : Bool} (hok : F.ok P lt) (h0 : F.dep ≤ t) (h1 : t ≤ F.at_ lt (F.m - 1)) : ∀ k, ∀ x ∈ F.havK lt tt op t dry k, t ≤ x.t
  | 0, x, hx => by cases hx
  | k + 1, x, hx => by
    have ih := FliD.havK_ge (tt := tt) (op := op) (dry := dry) hok h0 h1 k
    unfold FliD.havK at hx
    by_cases hc : F.havB lt tt op t dry k = true
    · rw [if_pos hc] at hx
      rcases List.mem_append.1 hx with q | q
      · exact ih x q
      · obtain rfl := List.mem_singleton.1 q
        unfold FliD.havB at hc
        exact FliD.reach_ge hok h0 h1 (Bool.and_eq_true_iff.1 hc).1
    · rw [if_neg hc] at hx
      exact ih x hx
theorem least_wet {F : FliD} {P : Nat} {lt tt : Tab} {op : Nat → Int → Bool} (hok : F.ok P lt) : leaV (F.leaO lt tt op P) = leaW F (F.wet.prf lt tt op P) := by
  obtain ⟨hm, hd, hf, hr, hb1, hb2⟩ := FliD.nums_iff.1 hok.1
  have hb : 0 ≤ F.burn := by omega
  have hdl := FliD.dep_le hok
  have har : F.at_ lt (F.m - 1) = F.arr lt := rfl
  have H : ∀ t, BestRel F (bestL (F.havK lt tt op t true P)) (bestL (F.wet.havK lt tt op t false P)) := fun t => by
    rw [FliD.havK_filter]
    exact best_wet hb
  have ht : F.wet.ticks lt = F.ticks lt := by unfold FliD.ticks FliD.arr; rw [FliD.wet_at]; rfl
  unfold FliD.leaO FliD.prf
  rw [ht, show F.wet.dep = F.dep from rfl]
  obtain ⟨n, hn⟩ : ∃ n, F.ticks lt = n + 1 := ⟨F.ticks lt - 1, by unfold FliD.ticks; omega⟩
  rw [hn]
  have q := H F.dep
  unfold FliD.leaR prfR
  unfold BestRel at q
  cases e : bestL (F.havK lt tt op F.dep true P) with
  | none =>
    rw [e] at q
    dsimp only at q ⊢
    rw [q]
    rfl
  | some x =>
    have hge := FliD.havK_ge (tt := tt) (op := op) (dry := true) hok (Int.le_refl _) (by omega) P x (bestL_some e).1
    have hnn : 0 ≤ F.burn * (x.t - F.dep) := Int.mul_nonneg hb (by omega)
    rw [e] at q
    dsimp only at q ⊢
    have hx : F.need x = F.res + F.burn * (x.t - F.dep) := rfl
    by_cases hn : F.need x ≤ 100000
    · rw [if_pos hn] at q
      obtain ⟨g, q1, q2⟩ := q
      rw [q1]
      dsimp only
      refine lea_prf (bD := fun t => bestL (F.havK lt tt op t true P)) (bL := fun t => bestL (F.wet.havK lt tt op t false P)) hb H n (F.dep + 1) _ ([] ++ [g]) ?_ (by omega)
      rw [mxL_snoc, q2, show mxL [] F.dep = F.dep from rfl, Int.max_eq_right hge, Int.max_eq_right (by omega)]
    · rw [if_neg hn] at q
      rw [q]
      rw [leaR_gt (by omega)]
      rfl
end Go.Proofs.YtbgkbdhdkpjcdaaGreat
