/- Plain law of TopHavens: what is told of the best haven; weathers that may be are flyable there. -/
import Derived.Test.YtonfnhonbnfdoaaGreatJAW
import Derived.Test.YtonfnhonbnfdoaaGreatJAY
import Derived.Test.YtonfnhonbnfdoaaGreatJAU
set_option linter.all false
namespace Go.Proofs.YtonfnhonbnfdoaaGreat
open Go Go.RowKit Go.Proofs
set_option maxRecDepth 100000
theorem hav_law {M : MetD} {lw ls lc : Int} {li lb : Bool} {F : FliD} {P : Nat} {lt tt : Tab} {t : Int} {x : HavD} (hok : F.ok P lt) (h0 : F.dep ≤ t) (h1 : t ≤ F.at_ lt (F.m - 1)) (hx : bestL (F.havK lt tt (opM M lw ls lc li lb) t false P) = some x) :
    x.p < P ∧ openV M lw ls lc li lb (x.p : Int) x.t = true ∧ F.res ≤ F.fuel - F.burn * (x.t - F.dep) ∧ t ≤ x.t := by
  obtain ⟨p, hp, rfl, hb⟩ := FliD.havK_mem P (bestL_some hx).1
  unfold FliD.havB at hb
  simp only [Bool.and_eq_true, Bool.false_or] at hb
  obtain ⟨hb1, hb2, hb3⟩ := hb
  exact ⟨hp, hb2, of_decide_eq_true hb3, FliD.reach_ge hok h0 h1 hb1⟩
theorem openV_ok {M : MetD} {lw ls lc : Int} {li lb : Bool} {p t : Int} (h : openV M lw ls lc li lb p t = true) : opE M lw ls lc p t = 0 ∧ minE M lw ls lc = 0 ∧ atE M p t = 0 ∧ (0 ≤ t ∧ t ≤ 2000) ∧ (0 ≤ p ∧ p ≤ M.places - 1) ∧ openB (M.may p t) lw ls lc li lb = true := by
  unfold openV at h
  rw [Bool.and_eq_true, decide_eq_true_eq] at h
  obtain ⟨e, hv⟩ := h
  obtain ⟨k1, k2⟩ := opE_split e
  refine ⟨e, k1, k2, (atE_ok k2).2, ?_, hv⟩
  unfold atE at k2
  split at k2
  · cases k2
  · cases b1 : inB p 0 (M.places - 1)
    · rw [b1] at k2; cases k2
    · exact inB_iff.1 b1
theorem win_one {g : Int → Bool} {f : Int} (h : g f = true) : (winR g ((f + 1) - f).toNat f []).length = 1 := by
  rw [show ((f + 1) - f).toNat = 1 by omega]
  unfold winR
  rw [if_pos h]
  rfl
theorem cwE_one {M : MetD} {lw ls lc p f : Int} {li lb : Bool} (h : openV M lw ls lc li lb p f = true) (hf : f < 2000) : cwE M lw ls lc f (f + 1) p = 0 := by
  obtain ⟨-, h1, h2, h3, h4, -⟩ := openV_ok h
  unfold cwE
  rw [if_pos h1]
  have e1 : righB M.places 0 f (f + 1) = true := by
    unfold righB
    rw [show wrap64 (f + 1 - 1) = f by rw [show f + 1 - 1 = f by omega]; exact wrap64_in (by omega) (by omega)]
    simp only [Bool.and_eq_true, inB_iff, decide_eq_true_eq]
    omega
  rw [e1, inB_iff.2 h4]
  rfl
/-- The weather of the tick in which the flight comes there. -/
theorem real_fly {M : MetD} {lw ls lc p f t : Int} {li lb : Bool} {n : Nat} {G : Nat → Nat → Int} {H : Nat → Nat → Bool} (ho : openV M lw ls lc li lb p t = true) (hr : realE M p f n G = 0) (hv : (realV M p f n G H).2 = true) (h0 : f ≤ t) (h1 : t - f < n) :
    flyB (G (t - f).toNat 0) (G (t - f).toNat 1) (G (t - f).toNat 2) (H (t - f).toNat 3) (H (t - f).toNat 4) lw ls lc li lb = true := by
  obtain ⟨-, -, -, -, -, hb⟩ := openV_ok ho
  unfold realV at hv
  rw [if_pos hr] at hv
  have := real_all n 0 hv (t - f).toNat (Nat.zero_le _) (by omega)
  rw [show f + (((t - f).toNat : Nat) : Int) = t by omega] at this
  exact has_worst this hb
theorem bsE_cases {M : MetD} {lw ls lc : Int} {li lb : Bool} {S : Tab} {n : Nat} {F : FliD} {t E : Int} {x : HavD} (h : (x, E) = bsE (tkE 0 F (lgT S n) t) M lw ls lc li lb S n F t) :
    (E = 1 ∨ E = 3) ∨ (E = 0 ∧ F.dep ≤ t ∧ t ≤ F.at_ (lgT S n) (F.m - 1) ∧ bestL (F.havK (lgT S n) (timT S n M.places.toNat) (opM M lw ls lc li lb) t false M.places.toNat) = some x) := by
  unfold tkE at h
  rw [if_pos rfl] at h
  unfold bsE at h
  cases hi : inB t F.dep (F.arr (lgT S n))
  · rw [hi, if_neg (by decide), if_neg (by decide)] at h
    exact Or.inl (Or.inl (Prod.mk.inj h).2)
  · rw [hi, if_pos rfl, if_pos rfl] at h
    cases hb : bestL (F.havK (lgT S n) (timT S n M.places.toNat) (opM M lw ls lc li lb) t false M.places.toNat) with
    | none => rw [hb] at h; exact Or.inl (Or.inr (Prod.mk.inj h).2)
    | some y =>
      rw [hb] at h
      obtain ⟨e1, e2⟩ := Prod.mk.inj h
      subst e1
      exact Or.inr ⟨e2, (inB_iff.1 hi).1, (inB_iff.1 hi).2, rfl⟩
end Go.Proofs.YtonfnhonbnfdoaaGreat
