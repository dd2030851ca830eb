/- Texts joined: JBA. -/
import Derived.Test.YtbgkbdhdkpjcdaaGreatJAZ
import Derived.Test.YtbgkbdhdkpjcdaaGreatJAU
set_option linter.all false
namespace Go.Proofs.YtbgkbdhdkpjcdaaGreat
open Go Go.RowKit Go.Proofs
set_option maxRecDepth 100000
theorem prfR_iff {bf : Int → Option HavD} : ∀ (n : Nat) (t : Int) (l : List HavD), (prfR bf n t l).2.2 = true ↔ ∀ q : Int, t ≤ q → q < t + (n : Nat) → (bf q).isSome = true
  | 0, t, l => ⟨fun _ q h1 h2 => absurd h2 (by omega), fun _ => rfl⟩
  | n + 1, t, l => by
    unfold prfR
    cases e : bf t with
    | none =>
      dsimp only
      refine ⟨fun h => absurd h (by decide), fun h => ?_⟩
      have := h t (Int.le_refl _) (by omega)
      rw [e] at this; exact absurd this (by decide)
    | some x =>
      dsimp only
      rw [prfR_iff n (t + 1) (l ++ [x])]
      refine ⟨fun h q h1 h2 => ?_, fun h q h1 h2 => h q (by omega) (by omega)⟩
      by_cases hq : q = t
      · rw [hq, e]; rfl
      · exact h q (by omega) (by omega)
theorem leaR_iff {F : FliD} {bf : Int → Option HavD} : ∀ (n : Nat) (t m k : Int), F.leaR bf n t m = some k → ∀ z : Int, k ≤ z ↔ (m ≤ z ∧ ∀ q : Int, t ≤ q → q < t + (n : Nat) → ∃ h, bf q = some h ∧ F.need h ≤ z)
  | 0, t, m, k, e, z => by
    unfold FliD.leaR at e
    obtain rfl : m = k := Option.some.inj e
    exact ⟨fun h => ⟨h, fun q h1 h2 => absurd h2 (by omega)⟩, fun h => h.1⟩
  | n + 1, t, m, k, e, z => by
    unfold FliD.leaR at e
    cases eb : bf t with
    | none => rw [eb] at e; cases e
    | some x =>
      rw [eb] at e
      have ih := leaR_iff n (t + 1) _ k e z
      rw [ih]
      have hx : F.need x = F.res + F.burn * (x.t - F.dep) := rfl
      rw [← hx]
      constructor
      · rintro ⟨h1, h2⟩
        refine ⟨by omega, fun q q1 q2 => ?_⟩
        by_cases hq : q = t
        · exact ⟨x, by rw [hq, eb], by omega⟩
        · exact h2 q (by omega) (by omega)
      · rintro ⟨h1, h2⟩
        obtain ⟨y, y1, y2⟩ := h2 t (Int.le_refl _) (by omega)
        rw [eb] at y1
        obtain rfl := Option.some.inj y1
        exact ⟨by omega, fun q q1 q2 => h2 q (by omega) (by omega)⟩
theorem leaR_none {F : FliD} {bf : Int → Option HavD} : ∀ (n : Nat) (t m : Int), F.leaR bf n t m = none → ∃ q : Int, t ≤ q ∧ q < t + (n : Nat) ∧ bf q = none
  | 0, t, m, e => by unfold FliD.leaR at e; cases e
  | n + 1, t, m, e => by
    unfold FliD.leaR at e
    cases eb : bf t with
    | none => exact ⟨t, Int.le_refl _, by omega, eb⟩
    | some x =>
      rw [eb] at e
      obtain ⟨q, q1, q2, q3⟩ := leaR_none n (t + 1) _ e
      exact ⟨q, by omega, by omega, q3⟩
theorem FliD.havK_fil (F : FliD) (lt tt : Tab) (op : Nat → Int → Bool) (t : Int) : ∀ k, F.havK lt tt op t false k = (F.havK lt tt op t true k).filter fun h => decide (F.need h ≤ F.fuel)
  | 0 => rfl
  | k + 1 => by
    have ih := FliD.havK_fil F lt tt op t k
    unfold FliD.havK
    have hh : F.havB lt tt op t false k = (F.havB lt tt op t true k && decide (F.need (F.hav1 lt tt t k) ≤ F.fuel)) := by
      unfold FliD.havB FliD.lasts
      rw [show decide (F.res ≤ F.fuel - F.burn * ((F.reach lt tt t k).1 - F.dep)) = decide (F.need (F.hav1 lt tt t k) ≤ F.fuel) by
        unfold FliD.need FliD.hav1
        dsimp only
        apply decide_eq_decide.2
        omega]
      simp [Bool.and_assoc]
    rw [hh, ih]
    cases F.havB lt tt op t true k
    · simp
    · by_cases hn : F.need (F.hav1 lt tt t k) ≤ F.fuel
      · simp [hn, List.filter_append]
      · simp [hn, List.filter_append]
theorem best_fil {F : FliD} {l : List HavD} (hb : 0 ≤ F.burn) (z : Int) : (bestL (l.filter fun h => decide (F.need h ≤ z))).isSome = true ↔ ∃ h, bestL l = some h ∧ F.need h ≤ z := by
  constructor
  · intro h
    cases e : bestL (l.filter fun h => decide (F.need h ≤ z)) with
    | none => rw [e] at h; exact absurd h (by decide)
    | some g =>
      obtain ⟨g1, -⟩ := bestL_some e
      obtain ⟨g2, g3⟩ := List.mem_filter.1 g1
      cases e2 : bestL l with
      | none => have := bestL_nil e2; rw [this] at g2; cases g2
      | some x =>
        obtain ⟨x1, x2⟩ := bestL_some e2
        have a1 := x2 g g2
        have a2 := of_decide_eq_true g3
        have h4 : F.burn * (x.t - F.dep) ≤ F.burn * (g.t - F.dep) := Int.mul_le_mul_of_nonneg_left (by omega) hb
        refine ⟨x, rfl, ?_⟩
        unfold FliD.need at a2 ⊢
        omega
  · rintro ⟨x, e, h⟩
    obtain ⟨x1, -⟩ := bestL_some e
    cases e2 : bestL (l.filter fun h => decide (F.need h ≤ z)) with
    | some g => rfl
    | none =>
      have h3 := bestL_nil e2
      have h4 : x ∈ l.filter fun h => decide (F.need h ≤ z) := List.mem_filter.2 ⟨x1, by simpa using h⟩
      rw [h3] at h4; cases h4
/-- A flight is safe exactly if its fuel is at least the least one. -/
theorem FliD.safe_iff {F : FliD} {P : Nat} {lt tt : Tab} {op : Nat → Int → Bool} (hok : F.ok P lt) : (F.prf lt tt op P).2.2 = true ↔ ∃ m, F.leaO lt tt op P = some m ∧ m ≤ F.fuel := by
  obtain ⟨hm, hd, hf, hr, hb1, hb2⟩ := FliD.nums_iff.1 hok.1
  unfold FliD.prf FliD.leaO
  rw [prfR_iff]
  have hq : ∀ q, (bestL (F.havK lt tt op q false P)).isSome = true ↔ ∃ h, bestL (F.havK lt tt op q true P) = some h ∧ F.need h ≤ F.fuel := fun q => by
    rw [FliD.havK_fil]; exact best_fil (by omega) _
  cases e : F.leaR (fun t => bestL (F.havK lt tt op t true P)) (F.ticks lt) F.dep 0 with
  | none =>
    obtain ⟨q, q1, q2, q3⟩ := leaR_none _ _ _ e
    refine ⟨fun h => ?_, fun ⟨m, h, _⟩ => nomatch h⟩
    obtain ⟨x, x1, -⟩ := (hq q).1 (h q q1 q2)
    rw [q3] at x1; cases x1
  | some k =>
    have hk := leaR_iff _ _ _ _ e F.fuel
    constructor
    · intro h
      exact ⟨k, rfl, hk.2 ⟨by omega, fun q q1 q2 => (hq q).1 (h q q1 q2)⟩⟩
    · rintro ⟨m, h1, h2⟩
      obtain rfl := Option.some.inj h1
      intro q q1 q2
      exact (hq q).2 ((hk.1 h2).2 q q1 q2)
theorem FliD.lea_nn {F : FliD} {P : Nat} {lt tt : Tab} {op : Nat → Int → Bool} {m : Int} (h : F.leaO lt tt op P = some m) : 0 ≤ m := by
  unfold FliD.leaO at h
  exact leaR_ge _ _ _ _ h
/-- Two flights that are the same way at the same time. -/
structure FliD.Like (F G : FliD) : Prop where
  m : F.m = G.m
  r : F.R = G.R
  d : F.dep = G.dep
theorem FliD.Like.at_ {F G : FliD} (h : F.Like G) (lt : Tab) : ∀ i, F.at_ lt i = G.at_ lt i
  | 0 => h.d
  | i + 1 => by
    unfold FliD.at_
    rw [h.at_ lt i, h.r]
theorem FliD.Like.ix {F G : FliD} (h : F.Like G) (lt : Tab) (t : Int) : ∀ i, F.ix lt t i = G.ix lt t i
  | 0 => rfl
  | i + 1 => by
    unfold FliD.ix
    rw [h.at_ lt (i + 1), h.ix lt t i]
theorem FliD.Like.reach {F G : FliD} (h : F.Like G) (lt tt : Tab) (t : Int) (p : Nat) : F.reach lt tt t p = G.reach lt tt t p := by
  unfold FliD.reach
  rw [h.m, h.ix]
  simp only [h.at_, h.r]
theorem FliD.Like.hav1 {F G : FliD} (h : F.Like G) (lt tt : Tab) (t : Int) (p : Nat) : F.hav1 lt tt t p = G.hav1 lt tt t p := by
  unfold FliD.hav1
  rw [h.reach]
theorem FliD.Like.arr {F G : FliD} (h : F.Like G) (lt : Tab) : F.arr lt = G.arr lt := by
  unfold FliD.arr
  rw [h.m, h.at_]
theorem FliD.Like.ticks {F G : FliD} (h : F.Like G) (lt : Tab) : F.ticks lt = G.ticks lt := by
  unfold FliD.ticks
  rw [h.arr, h.d]
theorem FliD.Like.dry {F G : FliD} (h : F.Like G) (lt tt : Tab) (op : Nat → Int → Bool) (t : Int) : ∀ k, F.havK lt tt op t true k = G.havK lt tt op t true k
  | 0 => rfl
  | k + 1 => by
    unfold FliD.havK FliD.havB
    rw [h.dry lt tt op t k, h.reach, h.hav1]
    simp only [Bool.true_or]
theorem FliD.leaR_like {F G : FliD} {bf : Int → Option HavD} (hd : F.dep = G.dep) (hb : F.burn = G.burn) (hr : F.res = G.res) : ∀ (n : Nat) (t m : Int), F.leaR bf n t m = G.leaR bf n t m
  | 0, _, _ => rfl
  | n + 1, t, m => by
    unfold FliD.leaR
    rw [hd, hb, hr]
    cases bf t with
    | none => rfl
    | some x => exact FliD.leaR_like hd hb hr n _ _
theorem FliD.Like.lea {F G : FliD} (h : F.Like G) (hb : F.burn = G.burn) (hr : F.res = G.res) (lt tt : Tab) (op : Nat → Int → Bool) (P : Nat) : F.leaO lt tt op P = G.leaO lt tt op P := by
  unfold FliD.leaO
  rw [h.ticks, h.d, FliD.leaR_like h.d hb hr]
  simp only [h.dry]
theorem FliD.Like.ok {F G : FliD} (h : F.Like G) {P : Nat} {lt : Tab} (hok : F.ok P lt) (hn : G.nums = true) : G.ok P lt := by
  refine ⟨hn, ?_, ?_⟩
  · have := hok.2.1
    unfold FliD.flown at *
    rw [← h.m, ← h.r]; exact this
  · rw [← h.m, ← h.at_]; exact hok.2.2
theorem FliD.havK_is {F : FliD} {lt tt : Tab} {op : Nat → Int → Bool} {t : Int} {dry : Bool} : ∀ k, (bestL (F.havK lt tt op t dry k)).isSome = true ↔ ∃ p, p < k ∧ F.havB lt tt op t dry p = true := fun k => by
  constructor
  · intro h
    cases e : bestL (F.havK lt tt op t dry k) with
    | none => rw [e] at h; exact absurd h (by decide)
    | some x =>
      obtain ⟨p, p1, -, p2⟩ := FliD.havK_mem k (bestL_some e).1
      exact ⟨p, p1, p2⟩
  · rintro ⟨p, p1, p2⟩
    have hmem : ∀ k, p < k → F.hav1 lt tt t p ∈ F.havK lt tt op t dry k := fun k => by
      induction k with
      | zero => intro h; omega
      | succ k ih =>
        intro h
        unfold FliD.havK
        by_cases hp : p = k
        · subst hp
          rw [if_pos p2]
          exact List.mem_append.2 (Or.inr (List.mem_singleton.2 rfl))
        · split
          · exact List.mem_append.2 (Or.inl (ih (by omega)))
          · exact ih (by omega)
    cases e : bestL (F.havK lt tt op t dry k) with
    | some x => rfl
    | none =>
      have h1 := hmem k p1
      rw [bestL_nil e] at h1; cases h1
/-- What makes havens of havens keeps a flight safe. -/
theorem FliD.Like.safe {F G : FliD} (h : F.Like G) {P : Nat} {lt tt : Tab} {op o2 : Nat → Int → Bool} (hm : ∀ t p, p < P → F.dep ≤ t → t ≤ F.arr lt → F.havB lt tt op t false p = true → G.havB lt tt o2 t false p = true) (hs : (F.prf lt tt op P).2.2 = true) : (G.prf lt tt o2 P).2.2 = true := by
  unfold FliD.prf at hs ⊢
  rw [prfR_iff] at hs ⊢
  intro q q1 q2
  rw [← h.d] at q1 q2
  rw [← h.ticks] at q2
  have := hs q q1 q2
  rw [FliD.havK_is] at this ⊢
  obtain ⟨p, p1, p2⟩ := this
  refine ⟨p, p1, hm q p p1 q1 ?_ p2⟩
  unfold FliD.ticks at q2
  omega
end Go.Proofs.YtbgkbdhdkpjcdaaGreat

namespace Go.Proofs.YtbgkbdhdkpjcdaaGreat
open Go Go.RowKit Go.Proofs
set_option maxRecDepth 100000
set_option maxHeartbeats 8000000

theorem minE_ok {M : MetD} {lw ls lc : Int} (h : minE M lw ls lc = 0) : M.bad = false ∧ (0 ≤ lw ∧ lw ≤ 300) ∧ (0 ≤ ls ∧ ls ≤ 20000) ∧ 0 ≤ lc ∧ lc ≤ 20000 := by
  have hb := minE_bad h
  unfold minE at h
  rw [hb, if_neg (by decide)] at h
  cases h1 : inB lw 0 300
  · rw [h1] at h; cases h
  · cases h2 : inB ls 0 20000
    · rw [h1, h2] at h; cases h
    · cases h3 : inB lc 0 20000
      · rw [h1, h2, h3] at h; cases h
      · exact ⟨hb, inB_iff.1 h1, inB_iff.1 h2, inB_iff.1 h3⟩
theorem minE_mk {M : MetD} {lw ls lc : Int} (hb : M.bad = false) (h1 : 0 ≤ lw ∧ lw ≤ 300) (h2 : 0 ≤ ls ∧ ls ≤ 20000) (h3 : 0 ≤ lc ∧ lc ≤ 20000) : minE M lw ls lc = 0 := by
  unfold minE
  rw [hb, inB_iff.2 h1, inB_iff.2 h2, inB_iff.2 h3]
  rfl
theorem opE_split {M : MetD} {lw ls lc p t : Int} (h : opE M lw ls lc p t = 0) : minE M lw ls lc = 0 ∧ atE M p t = 0 := by
  unfold opE at h
  by_cases he : minE M lw ls lc = 0
  · rw [if_pos he] at h; exact ⟨he, h⟩
  · rw [if_neg he] at h; exact absurd h he
theorem opE_mk {M : MetD} {lw ls lc p t : Int} (h1 : minE M lw ls lc = 0) (h2 : atE M p t = 0) : opE M lw ls lc p t = 0 := by
  unfold opE; rw [if_pos h1, h2]
theorem flyB_iff {we se ce : Int} {ic st : Bool} {lw ls lc : Int} {li lt : Bool} : flyB we se ce ic st lw ls lc li lt = true ↔ we ≤ lw ∧ ls ≤ se ∧ lc ≤ ce ∧ (ic = true → li = true) ∧ (st = true → lt = true) := by
  unfold flyB
  cases ic <;> cases st <;> cases li <;> cases lt <;> simp
theorem MetAt.alloc {w : World} {vF vS : Value} {M : MetD} (h : MetAt w vF vS M) (o : Obj) : MetAt (w.alloc o) vF vS M := h.below (bal (Below.refl _ _) _)
end Go.Proofs.YtbgkbdhdkpjcdaaGreat

namespace Go.Proofs.YtbgkbdhdkpjcdaaGreat
open Go Go.RowKit Go.Proofs
set_option maxRecDepth 100000
def FliD.withF (F : FliD) (z : Int) : FliD := { F with fuel := z }
def FliD.withR (F : FliD) (z : Int) : FliD := { F with res := z }
theorem FliD.withF_like (F : FliD) (z : Int) : F.Like (F.withF z) := ⟨rfl, rfl, rfl⟩
theorem FliD.withR_like (F : FliD) (z : Int) : F.Like (F.withR z) := ⟨rfl, rfl, rfl⟩
theorem FliD.withF_ok {F : FliD} {P : Nat} {lt : Tab} {z : Int} (h : F.ok P lt) (h0 : 0 ≤ z) (h1 : z ≤ 100000) : (F.withF z).ok P lt := by
  obtain ⟨a, b, -, d, e⟩ := FliD.nums_iff.1 h.1
  exact (F.withF_like z).ok h (FliD.nums_iff.2 ⟨a, b, ⟨h0, h1⟩, d, e⟩)
theorem FliD.withR_ok {F : FliD} {P : Nat} {lt : Tab} {z : Int} (h : F.ok P lt) (h0 : 0 ≤ z) (h1 : z ≤ 100000) : (F.withR z).ok P lt := by
  obtain ⟨a, b, c, -, e⟩ := FliD.nums_iff.1 h.1
  exact (F.withR_like z).ok h (FliD.nums_iff.2 ⟨a, b, c, ⟨h0, h1⟩, e⟩)
theorem FliD.safe_withF {F : FliD} {P : Nat} {lt tt : Tab} {op : Nat → Int → Bool} {z : Int} (h : F.ok P lt) (h0 : 0 ≤ z) (h1 : z ≤ 100000) : ((F.withF z).prf lt tt op P).2.2 = true ↔ ∃ m, F.leaO lt tt op P = some m ∧ m ≤ z := by
  rw [FliD.safe_iff (FliD.withF_ok h h0 h1), ← (F.withF_like z).lea rfl rfl]
  exact Iff.rfl
/-- What the first part of the law asks for. -/
theorem least_first {F : FliD} {P : Nat} {lt tt : Tab} {op : Nat → Int → Bool} (h : F.ok P lt) :
    (∃ n : Int, leaV (F.leaO lt tt op P) = (n, 0) ∧ 0 ≤ n ∧ n ≤ 100000 ∧ (F.prf lt tt op P).2.2 = decide (n ≤ F.fuel) ∧ ((F.withF n).prf lt tt op P).2.2 = true ∧ (0 < n → ((F.withF (n - 1)).prf lt tt op P).2.2 = false))
    ∨ (leaV (F.leaO lt tt op P) = (0, 3) ∧ (F.prf lt tt op P).2.2 = false) := by
  have hs := FliD.safe_iff (tt := tt) (op := op) h
  have hw := fun z h0 h1 => FliD.safe_withF (tt := tt) (op := op) (z := z) h h0 h1
  have hf := (FliD.nums_iff.1 h.1).2.2.1
  have hnn := fun m e => FliD.lea_nn (m := m) (show F.leaO lt tt op P = some m from e)
  cases e : F.leaO lt tt op P with
  | none =>
    right
    refine ⟨rfl, ?_⟩
    rw [e] at hs
    cases hp : (F.prf lt tt op P).2.2 with
    | false => rfl
    | true => obtain ⟨m, h1, -⟩ := hs.1 hp; cases h1
  | some m =>
    rw [e] at hs hw
    have h0 := hnn m e
    have hs2 : (F.prf lt tt op P).2.2 = true ↔ m ≤ F.fuel := hs.trans ⟨fun ⟨x, h1, h2⟩ => by obtain rfl := Option.some.inj h1; exact h2, fun h => ⟨m, rfl, h⟩⟩
    have hw2 : ∀ z, 0 ≤ z → z ≤ 100000 → (((F.withF z).prf lt tt op P).2.2 = true ↔ m ≤ z) := fun z a b => (hw z a b).trans ⟨fun ⟨x, h1, h2⟩ => by obtain rfl := Option.some.inj h1; exact h2, fun h => ⟨m, rfl, h⟩⟩
    unfold leaV
    dsimp only
    by_cases hm : m ≤ 100000
    · left
      rw [if_pos hm]
      refine ⟨m, rfl, h0, hm, ?_, (hw2 m h0 hm).2 (Int.le_refl _), fun hp => ?_⟩
      · cases hp : (F.prf lt tt op P).2.2 with
        | true => rw [decide_eq_true (hs2.1 hp)]
        | false => rw [decide_eq_false (fun q => by rw [hs2.2 q] at hp; cases hp)]
      · cases hq : ((F.withF (m - 1)).prf lt tt op P).2.2 with
        | false => rfl
        | true => have := (hw2 (m - 1) (by omega) (by omega)).1 hq; omega
    · right
      rw [if_neg hm]
      refine ⟨rfl, ?_⟩
      cases hp : (F.prf lt tt op P).2.2 with
      | false => rfl
      | true => have := hs2.1 hp; omega
theorem least_more {F : FliD} {P : Nat} {lt tt : Tab} {op : Nat → Int → Bool} (h : F.ok P lt) (hs : (F.prf lt tt op P).2.2 = true) : ((F.withF (min 100000 (F.fuel + 1))).prf lt tt op P).2.2 = true := by
  have hf := (FliD.nums_iff.1 h.1).2.2.1
  obtain ⟨m, h1, h2⟩ := (FliD.safe_iff h).1 hs
  exact (FliD.safe_withF h (by omega) (by omega)).2 ⟨m, h1, by omega⟩
theorem least_less {F : FliD} {P : Nat} {lt tt : Tab} {op : Nat → Int → Bool} {r : Int} (hr : r ≤ F.res) (hs : (F.prf lt tt op P).2.2 = true) : ((F.withR r).prf lt tt op P).2.2 = true := by
  refine (F.withR_like r).safe (fun t p hp h0 h1 hb => ?_) hs
  unfold FliD.havB FliD.lasts at hb ⊢
  rw [← (F.withR_like r).reach]
  simp only [Bool.and_eq_true, Bool.or_eq_true, decide_eq_true_eq, Bool.false_eq_true, false_or] at hb ⊢
  refine ⟨hb.1, hb.2.1, ?_⟩
  have := hb.2.2
  show r ≤ F.fuel - F.burn * ((F.reach lt tt t p).1 - F.dep)
  omega
theorem least_weak {F : FliD} {P : Nat} {lt tt : Tab} {op o2 : Nat → Int → Bool} (ho : ∀ p a, op p a = true → o2 p a = true) (hs : (F.prf lt tt op P).2.2 = true) : (F.prf lt tt o2 P).2.2 = true := by
  refine FliD.Like.safe (F := F) (G := F) ⟨rfl, rfl, rfl⟩ (fun t p hp h0 h1 hb => ?_) hs
  unfold FliD.havB at hb ⊢
  simp only [Bool.and_eq_true] at hb ⊢
  exact ⟨hb.1, ho _ _ hb.2.1, hb.2.2⟩
theorem open_weak {M : MetD} {lw ls lc lw2 ls2 lc2 : Int} {li lb li2 : Bool} (h1 : lw ≤ lw2) (h2 : lw2 ≤ 300) (h3 : 0 ≤ ls2) (h4 : ls2 ≤ ls) (h5 : 0 ≤ lc2) (h6 : lc2 ≤ lc) (h7 : li = true → li2 = true) (p : Nat) (a : Int) (h : opM M lw ls lc li lb p a = true) : opM M lw2 ls2 lc2 li2 lb p a = true := by
  unfold opM openV at *
  rw [Bool.and_eq_true, decide_eq_true_eq] at h ⊢
  obtain ⟨e, hv⟩ := h
  obtain ⟨k1, k2⟩ := opE_split e
  obtain ⟨hb, q1, q2, q3⟩ := minE_ok k1
  refine ⟨opE_mk (minE_mk hb (by omega) (by omega) (by omega)) k2, ?_⟩
  unfold openB at *
  rw [flyB_iff] at hv ⊢
  obtain ⟨v1, v2, v3, v4, v5⟩ := hv
  exact ⟨by omega, by omega, by omega, fun x => h7 (v4 x), v5⟩
end Go.Proofs.YtbgkbdhdkpjcdaaGreat
