import Derived.Test.YtlabfpjlckdmfaaGreatJAR
set_option linter.all false
namespace Go.Proofs.YtlabfpjlckdmfaaGreat
open Go Go.RowKit Go.Proofs
set_option maxRecDepth 100000
def isK (S : Tab) (a b D : Int) : Nat → Bool
 | 0 => false
 | k + 1 => isK S a b D k || (lgJ (S k 0) (S k 1) a b && decide (S k 2 = D))
theorem isK_of {S : Tab} {a b D : Int} : ∀ {n k : Nat}, k < n → lgJ (S k 0) (S k 1) a b = true → S k 2 = D → isK S a b D n = true
 | 0, k, hk, _, _ => absurd hk (Nat.not_lt_zero _)
 | n + 1, k, hk, hj, hd => by
  unfold isK
  by_cases e : k = n
  ·subst e; rw [hj, hd]; simp
  ·rw [isK_of (by omega) hj hd]; rfl
theorem lgJ_iff {x y a b : Int} : lgJ x y a b = true ↔ (x = a ∧ y = b) ∨ (x = b ∧ y = a) := by
 unfold lgJ
 simp only [Bool.or_eq_true, Bool.and_eq_true, beq_iff_eq]
theorem leg_tri {P n : Nat} {S : Tab} (hN : NetOk P S n) {k : Nat} (hk : k < n) : 0 ≤ timT S n P (S k 0).toNat (S k 1).toNat ∧ timT S n P (S k 0).toNat (S k 1).toNat ≤ S k 2 := by
 have ha := hN.a k hk
 have hb := hN.b k hk
 have hne := hN.ne k hk
 have ht := hN.t k hk
 have h0 : dgK (lgT S n) P (S k 0).toNat (S k 1).toNat = legK S ((S k 0).toNat : Nat) ((S k 1).toNat : Nat) n := by
  unfold dgK
  rw [if_neg (by omega)]
  exact lgT_leg hN _ _ n (Nat.le_refl _)
 have h1 := legK_le (S := S) (a := (S k 0).toNat) (b := (S k 1).toNat) n k hk (lgJ_iff.2 (Or.inl (by omega))) (by omega) (fun q hq => by have := hN.t q hq; omega)
 have h2 := (timT_tri hN).leg (S k 0).toNat (S k 1).toNat (by omega) (by omega) (by rw [h0]; exact h1.1)
 rw [h0] at h2
 omega
theorem step_leg {P n : Nat} {S : Tab} {F : FliD} (hN : NetOk P S n) (hok : F.ok P (lgT S n)) {i : Nat} (hi : i + 1 < F.m) :
  F.at_ (lgT S n) (i + 1) - F.at_ (lgT S n) i = legK S (F.R i) (F.R (i + 1)) n ∧ 0 ≤ legK S (F.R i) (F.R (i + 1)) n := by
 have h1 := hok.2.1.2 i hi
 have r1 := hok.2.1.1 i (by omega)
 have r2 := hok.2.1.1 (i + 1) hi
 have e : lgT S n (F.R i).toNat (F.R (i + 1)).toNat = legK S (F.R i) (F.R (i + 1)) n := by
  rw [lgT_leg hN _ _ n (Nat.le_refl _)]
  rw [show (((F.R i).toNat : Nat) : Int) = F.R i by omega, show (((F.R (i + 1)).toNat : Nat) : Int) = F.R (i + 1) by omega]
 rw [e] at h1
 refine ⟨?_, h1⟩
 show F.at_ (lgT S n) i + lgT S n (F.R i).toNat (F.R (i + 1)).toNat - F.at_ (lgT S n) i = _
 rw [e]; omega
theorem legK_le' {S : Tab} {a b : Int} (ha : 0 ≤ a) (hb : 0 ≤ b) {l k : Nat} (hk : k < l) (hj : lgJ (S k 0) (S k 1) a b = true) (hq : ∀ q, q < l → 0 ≤ S q 2) : legK S a b l ≤ S k 2 := by
 have := legK_le (S := S) (a := a.toNat) (b := b.toNat) l k hk (by rw [show ((a.toNat : Nat) : Int) = a by omega, show ((b.toNat : Nat) : Int) = b by omega]; exact hj) (hq k hk) hq
 rw [show ((a.toNat : Nat) : Int) = a by omega, show ((b.toNat : Nat) : Int) = b by omega] at this
 exact this.2
theorem legK_is' {S : Tab} {a b : Int} (ha : 0 ≤ a) (hb : 0 ≤ b) {l : Nat} (h : 0 ≤ legK S a b l) : isK S a b (legK S a b l) l = true := by
 have h' : 0 ≤ legK S ((a.toNat : Nat) : Int) ((b.toNat : Nat) : Int) l := by rw [show ((a.toNat : Nat) : Int) = a by omega, show ((b.toNat : Nat) : Int) = b by omega]; exact h
 obtain ⟨k, h1, h2, h3⟩ := legK_is l h'
 rw [show ((a.toNat : Nat) : Int) = a by omega, show ((b.toNat : Nat) : Int) = b by omega] at h2 h3
 exact isK_of h1 h2 h3
end Go.Proofs.YtlabfpjlckdmfaaGreat
