import Derived.Test.YtlambeiafdpkgaaGreatJAX
import Derived.Test.YtlambeiafdpkgaaGreatJAT
import Derived.Test.YtlambeiafdpkgaaGreatJBB
set_option linter.all false
namespace Go.Proofs.YtlambeiafdpkgaaGreat
open Go Go.RowKit Go.Proofs
set_option maxRecDepth 100000
theorem FliD.ix_top {F : FliD} {lt : Tab} {k : Nat} : F.ix lt (F.at_ lt k) k = k := by
 cases k with
 | zero => rfl
 | succ k => unfold FliD.ix; rw [if_neg (by omega)]
theorem reach_end {F : FliD} {lt tt : Tab} {p : Nat} : F.reach lt tt (F.at_ lt (F.m - 1)) p = (F.at_ lt (F.m - 1) + tt (F.R (F.m - 1)).toNat p, false, decide (0 ≤ tt (F.R (F.m - 1)).toNat p)) := by
 unfold FliD.reach
 rw [FliD.ix_top]
 dsimp only
 rw [if_pos rfl]
 refine Prod.ext (by show _ + (_ - _) + _ = _; omega) (Prod.ext ?_ rfl)
 exact decide_eq_false (by omega)
theorem havK_of {F : FliD} {lt tt : Tab} {op : Nat → Int → Bool} {t : Int} {dry : Bool} : ∀ {k p : Nat}, p < k → F.havB lt tt op t dry p = true → F.hav1 lt tt t p ∈ F.havK lt tt op t dry k
 | 0, p, h, _ => absurd h (Nat.not_lt_zero _)
 | k + 1, p, h, hb => by
  unfold FliD.havK
  by_cases e : p = k
  ·subst e; rw [if_pos hb]; simp
  ·have ih := havK_of (lt := lt) (tt := tt) (op := op) (t := t) (dry := dry) (show p < k by omega) hb
   split
   ·exact List.mem_append_left _ ih
   ·exact ih
theorem best_end {M : MetD} {lw ls lc : Int} {li lb : Bool} {F : FliD} {P : Nat} {lt tt : Tab} (hok : F.ok P lt) (hdg : ∀ i, i < P → tt i i = 0) (hoff : ∀ i j, i < P → j < P → i ≠ j → tt i j ≠ 0)
  (ho : openV M lw ls lc li lb (F.R (F.m - 1)) (F.at_ lt (F.m - 1)) = true) (hf : F.res ≤ F.fuel - F.burn * (F.at_ lt (F.m - 1) - F.dep)) :
  bestL (F.havK lt tt (opM M lw ls lc li lb) (F.at_ lt (F.m - 1)) false P) = some ⟨(F.R (F.m - 1)).toNat, F.at_ lt (F.m - 1), false⟩ := by
 obtain ⟨hm, -⟩ := FliD.nums_iff.1 hok.1
 have hr := hok.2.1.1 (F.m - 1) (by omega)
 have hlt : (F.R (F.m - 1)).toNat < P := by omega
 have hb : F.havB lt tt (opM M lw ls lc li lb) (F.at_ lt (F.m - 1)) false (F.R (F.m - 1)).toNat = true := by
  unfold FliD.havB
  rw [reach_end, hdg _ hlt]
  dsimp only
  rw [Int.add_zero]
  simp only [Bool.and_eq_true, Bool.false_or, decide_eq_true_eq]
  refine ⟨Int.le_refl _, ?_, ?_⟩
  ·unfold opM
   rw [show (((F.R (F.m - 1)).toNat : Nat) : Int) = F.R (F.m - 1) by omega]
   exact ho
  ·unfold FliD.lasts; exact decide_eq_true hf
 have h1 := havK_of hlt hb
 have e1 : F.hav1 lt tt (F.at_ lt (F.m - 1)) (F.R (F.m - 1)).toNat = ⟨(F.R (F.m - 1)).toNat, F.at_ lt (F.m - 1), false⟩ := by
  unfold FliD.hav1
  rw [reach_end, hdg _ hlt]
  dsimp only
  rw [Int.add_zero]
 rw [e1] at h1
 cases hbl : bestL (F.havK lt tt (opM M lw ls lc li lb) (F.at_ lt (F.m - 1)) false P) with
 | none => rw [bestL_nil hbl] at h1; cases h1
 | some x =>
  obtain ⟨q1, q2⟩ := bestL_some hbl
  have q3 := q2 _ h1
  obtain ⟨p, hp, rfl, hpb⟩ := FliD.havK_mem P q1
  unfold FliD.havB at hpb
  simp only [Bool.and_eq_true, Bool.false_or] at hpb
  have q4 := hpb.1
  unfold FliD.hav1 at q3 ⊢
  rw [reach_end] at q3 q4 ⊢
  dsimp only at q3 q4 ⊢
  have q5 := of_decide_eq_true q4
  by_cases e : p = (F.R (F.m - 1)).toNat
  ·subst e
   rw [hdg _ hlt, Int.add_zero]
  ·exact absurd (show tt (F.R (F.m - 1)).toNat p = 0 by omega) (hoff _ _ hlt hp (fun h => e h.symm))
theorem book_one {ok : Int → Bool} {t : Int} (h0 : 0 ≤ t) (h1 : t ≤ 2000) (h : ok t = true) : bkV ok t 1 = t := by
 unfold bkV
 obtain ⟨r, hr⟩ : ∃ r : Nat, (2001 - t).toNat = r + 1 := ⟨(2000 - t).toNat, by omega⟩
 rw [hr]
 unfold bkR
 rw [if_pos h, if_pos (by omega)]
 omega
theorem bsE_end {M : MetD} {lw ls lc : Int} {li lb : Bool} {S : Tab} {n : Nat} {F : FliD} (hN : NetOk M.places.toNat S n) (hok : F.ok M.places.toNat (lgT S n)) (h0 : F.dep ≤ F.at_ (lgT S n) (F.m - 1))
  (ho : openV M lw ls lc li lb (F.R (F.m - 1)) (F.at_ (lgT S n) (F.m - 1)) = true) (hf : F.res ≤ F.fuel - F.burn * (F.at_ (lgT S n) (F.m - 1) - F.dep)) :
  bsE (tkE 0 F (lgT S n) (F.at_ (lgT S n) (F.m - 1))) M lw ls lc li lb S n F (F.at_ (lgT S n) (F.m - 1)) = (⟨(F.R (F.m - 1)).toNat, F.at_ (lgT S n) (F.m - 1), false⟩, 0) := by
 have ht := timT_tri hN
 have hb := best_end (tt := timT S n M.places.toNat) hok ht.dg ht.off ho hf
 unfold tkE
 rw [if_pos rfl, inB_iff.2 (show F.dep ≤ F.at_ (lgT S n) (F.m - 1) ∧ F.at_ (lgT S n) (F.m - 1) ≤ F.arr (lgT S n) from ⟨h0, Int.le_refl _⟩), if_pos rfl]
 unfold bsE
 rw [if_pos rfl, hb]
 rfl
def t1T (t : Int) (a : AppD) : Nat → Nat → Int := fun _ j => [t, 1, a.size, a.weight, a.lw, a.ls, a.lc, 0, 0, a.place, a.lo, a.hi].getD j 0
def t1B (a : AppD) : Nat → Nat → Bool := fun _ j => if j = 7 then a.li else a.lt
theorem t1_ap (t : Int) (a : AppD) : apK (t1T t a) (t1B a) 0 = a := rfl
theorem book1_E {D : DekD} {M : MetD} {Mo : MovD} {a : AppD} {t : Int} (hs : scE D M Mo = 0) (ha : appE M a = 0) (h0 : 0 ≤ t) (h1 : t ≤ 2000) : bookE D M Mo (t1T t a) (t1B a) 1 = 0 := by
 unfold bookE
 rw [if_pos hs, if_neg (by decide), if_pos]
 refine List.all_eq_true.2 fun k hk => ?_
 obtain rfl : k = 0 := by have := List.mem_range.1 hk; omega
 unfold bkGood
 rw [t1_ap, ha]
 simp only [Bool.and_eq_true, decide_eq_true_eq, inB_iff]
 exact ⟨trivial, ⟨h0, h1⟩, (by show (1 : Int) ≤ 1; decide), (by show (1 : Int) ≤ 100; decide)⟩
theorem book1_O {D : DekD} {M : MetD} {Mo : MovD} {a : AppD} {t : Int} (hw : whyN D M Mo a t = 0) (h0 : 0 ≤ t) (h1 : t ≤ 2000) : bkO D M Mo (t1T t a) (t1B a) 0 = t := by
 unfold bkO
 rw [t1_ap]
 show bkV _ t 1 = t
 refine book_one h0 h1 ?_
 unfold bkOk
 rw [hw]
 rfl
theorem arr_dep {F : FliD} {P : Nat} {lt : Tab} (hl : LegIn P lt) (hok : F.ok P lt) : F.dep ≤ F.at_ lt (F.m - 1) := by
 have : ∀ i, i < F.m → F.dep ≤ F.at_ lt i := fun i => by
  induction i with
  | zero => intro _; exact Int.le_refl _
  | succ i ih =>
   intro h
   have h1 := ih (by omega)
   have h2 := hok.2.1.2 i h
   show F.dep ≤ F.at_ lt i + lt (F.R i).toNat (F.R (i + 1)).toNat
   omega
 obtain ⟨hm, -⟩ := FliD.nums_iff.1 hok.1
 exact this (F.m - 1) (by omega)
theorem nf0_ok {M : MetD} {S : Tab} {n : Nat} {F : FliD} (h : nfE (netE M S n) M S n F = 0) : netE M S n = 0 ∧ (M.places = (M.places.toNat : Int) ∧ (1 ≤ M.places.toNat ∧ M.places.toNat ≤ 8) ∧ LegIn M.places.toNat (lgT S n) ∧ NetOk M.places.toNat S n) ∧ F.ok M.places.toNat (lgT S n) := by
 unfold nfE at h
 by_cases h1 : netE M S n = 0
 ·rw [if_pos h1] at h
  obtain ⟨f1, f2⟩ := netE_ok h1
  refine ⟨h1, net_facts f1 f2, FliD.okB_iff.1 ?_⟩
  cases e : F.okB M.places.toNat (lgT S n)
  ·rw [e] at h; cases h
  ·rfl
 ·rw [if_neg h1] at h; exact absurd h h1
theorem appE_min {M : MetD} {a : AppD} (h : appE M a = 0) : minE M a.lw a.ls a.lc = 0 := by
 unfold appE at h
 split at h
 ·split at h
  ·split at h
   ·rename_i h3
    exact (opE_split h3).1
   ·cases h
  ·cases h
 ·cases h
theorem whyE_zero {D : DekD} {M : MetD} {Mo : MovD} {a : AppD} {t : Int} (hs : scE D M Mo = 0) (ha : appE M a = 0) (h0 : 0 ≤ t) (h1 : t ≤ 2000) : whyE D M Mo a t = 0 := by
 unfold whyE caE
 rw [if_pos hs, if_pos ha, inB_iff.2 ⟨h0, h1⟩]
 rfl
end Go.Proofs.YtlambeiafdpkgaaGreat
