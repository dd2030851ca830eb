/- Texts joined: JAW. -/
import Derived.Test.YtonfnhonbnfdoaaGreatJAU
import Derived.Test.YtonfnhonbnfdoaaGreatJAS
import Derived.Test.YtonfnhonbnfdoaaGreatJAR
import Derived.Test.YtonfnhonbnfdoaaGreatNbC
import Derived.Test.YtonfnhonbnfdoaaGreatJAQ
set_option linter.all false
namespace Go.Proofs.YtonfnhonbnfdoaaGreat
open Go Go.RowKit Go.Proofs
set_option maxRecDepth 100000
theorem minH_least {f : Nat → HavD} : ∀ (k i : Nat), i ≤ k → (minH f k).t ≤ (f i).t
  | 0, i, h => by
    obtain rfl : i = 0 := by omega
    exact Int.le_refl _
  | k + 1, i, h => by
    unfold minH
    by_cases e : (f (k + 1)).t < (minH f k).t
    · rw [if_pos e]
      rcases Nat.lt_or_ge k i with q | q
      · obtain rfl : i = k + 1 := by omega
        exact Int.le_refl _
      · have := minH_least (f := f) k i q; omega
    · rw [if_neg e]
      rcases Nat.lt_or_ge k i with q | q
      · obtain rfl : i = k + 1 := by omega
        omega
      · exact minH_least k i q
theorem minH_mem2 {f : Nat → HavD} : ∀ (k : Nat), ∃ i, i ≤ k ∧ minH f k = f i
  | 0 => ⟨0, Nat.le_refl _, rfl⟩
  | k + 1 => by
    unfold minH
    by_cases e : (f (k + 1)).t < (minH f k).t
    · rw [if_pos e]; exact ⟨k + 1, Nat.le_refl _, rfl⟩
    · rw [if_neg e]
      obtain ⟨i, h1, h2⟩ := minH_mem2 (f := f) k
      exact ⟨i, by omega, h2⟩
theorem bestL_some {l : List HavD} {h : HavD} (e : bestL l = some h) : h ∈ l ∧ ∀ x ∈ l, h.t ≤ x.t := by
  unfold bestL at e
  by_cases h0 : l.length = 0
  · rw [if_pos h0] at e; cases e
  · rw [if_neg h0] at e
    obtain rfl : minH (hvx l) (l.length - 1) = h := Option.some.inj e
    have hg : ∀ i (hi : i < l.length), hvx l i = l[i] := fun i hi => by unfold hvx; rw [List.getD_eq_getElem?_getD, List.getElem?_eq_getElem hi]; rfl
    constructor
    · obtain ⟨i, h1, h2⟩ := minH_mem2 (f := hvx l) (l.length - 1)
      rw [h2, hg i (by omega)]
      exact List.getElem_mem _
    · intro x hx
      obtain ⟨i, hi, rfl⟩ := List.getElem_of_mem hx
      have := minH_least (f := hvx l) (l.length - 1) i (by omega)
      rw [hg i hi] at this
      exact this
theorem bestL_nil {l : List HavD} (e : bestL l = none) : l = [] := by
  unfold bestL at e
  by_cases h0 : l.length = 0
  · exact List.eq_nil_of_length_eq_zero h0
  · rw [if_neg h0] at e; cases e
end Go.Proofs.YtonfnhonbnfdoaaGreat

namespace Go.Proofs.YtonfnhonbnfdoaaGreat
open Go Go.RowKit Go.Proofs
set_option maxRecDepth 100000
set_option maxHeartbeats 8000000
end Go.Proofs.YtonfnhonbnfdoaaGreat

namespace Go.Proofs.YtonfnhonbnfdoaaGreat
open Go Go.RowKit Go.Proofs
set_option maxRecDepth 100000
set_option maxHeartbeats 8000000
theorem nfM_min {M : MetD} {lw ls lc : Int} {S : Tab} {n : Nat} {F : FliD} : nfE (netME M lw ls lc S n) M S n F = if minE M lw ls lc = 0 then nfE (netE M S n) M S n F else minE M lw ls lc := by
  cases hb : M.bad
  · have he : M.err = 0 := by unfold MetD.err; rw [hb]; rfl
    have hp := (MetD.ok_of hb).places
    by_cases hm : minE M lw ls lc = 0
    · have ho : opE M lw ls lc 0 0 = 0 := by
        unfold opE
        rw [if_pos hm]
        unfold atE
        have e1 : inB 0 0 (M.places - 1) = true := inB_iff.2 (by omega)
        rw [hb, e1]
        rfl
      have e : netME M lw ls lc S n = netE M S n := by unfold netME netE; rw [he, if_pos rfl, if_pos rfl, if_pos ho]
      rw [e, if_pos hm]
    · have ho : opE M lw ls lc 0 0 = minE M lw ls lc := by unfold opE; rw [if_neg hm]
      have e : netME M lw ls lc S n = minE M lw ls lc := by unfold netME; rw [he, if_pos rfl, ho, if_neg hm]
      rw [e, if_neg hm]
      unfold nfE
      rw [if_neg hm]
  · have he : M.err = 40 := by unfold MetD.err; rw [hb]; rfl
    have hm : minE M lw ls lc = 40 := by unfold minE; rw [hb]; rfl
    have e : netME M lw ls lc S n = 40 := by unfold netME; rw [he, if_neg (by decide)]
    rw [e, hm, if_neg (by decide)]
    rfl
end Go.Proofs.YtonfnhonbnfdoaaGreat

namespace Go.Proofs.YtonfnhonbnfdoaaGreat
open Go Go.RowKit Go.Proofs
set_option maxRecDepth 100000
set_option maxHeartbeats 8000000
end Go.Proofs.YtonfnhonbnfdoaaGreat

namespace Go.Proofs.YtonfnhonbnfdoaaGreat
open Go Go.RowKit Go.Proofs
set_option maxRecDepth 100000
theorem FliD.reach_ge {F : FliD} {P : Nat} {lt tt : Tab} {t : Int} {p : Nat} (hok : F.ok P lt) (h0 : F.dep ≤ t) (h1 : t ≤ F.at_ lt (F.m - 1)) (h : (F.reach lt tt t p).2.2 = true) : t ≤ (F.reach lt tt t p).1 := by
  obtain ⟨hnu, hfl, hend⟩ := hok
  obtain ⟨hm, hd, -⟩ := FliD.nums_iff.1 hnu
  have hix := FliD.ix_le (F := F) (lt := lt) (t := t) (F.m - 1)
  have hixa := FliD.ix_at (F := F) (lt := lt) h0 (F.m - 1)
  have hlt := FliD.ix_lt (F := F) (lt := lt) (t := t) (F.m - 1)
  unfold FliD.reach at h ⊢
  generalize F.ix lt t (F.m - 1) = i at *
  dsimp only at h ⊢
  by_cases hc : t = F.at_ lt i
  · rw [if_pos hc] at h ⊢
    have := of_decide_eq_true h
    dsimp only; omega
  · rw [if_neg hc] at h ⊢
    have him : i < F.m - 1 := by
      rcases Nat.lt_or_ge i (F.m - 1) with q | q
      · exact q
      · have : i = F.m - 1 := by omega
        subst this
        omega
    have := hlt him
    by_cases h2 : t + (t - F.at_ lt i) + tt (F.R i).toNat p < F.at_ lt (i + 1) + tt (F.R (i + 1)).toNat p
    · rw [if_pos h2] at h ⊢
      have := of_decide_eq_true h
      dsimp only; omega
    · rw [if_neg h2] at h ⊢
      have := of_decide_eq_true h
      dsimp only; omega
end Go.Proofs.YtonfnhonbnfdoaaGreat

namespace Go.Proofs.YtonfnhonbnfdoaaGreat
open Go Go.RowKit Go.Proofs
set_option maxRecDepth 100000
set_option maxHeartbeats 8000000

theorem minE_ok {M : MetD} {lw ls lc : Int} (h : minE M lw ls lc = 0) : M.bad = false ∧ (0 ≤ lw ∧ lw ≤ 300) ∧ (0 ≤ ls ∧ ls ≤ 20000) ∧ 0 ≤ lc ∧ lc ≤ 20000 := by
  have hb := minE_bad h
  unfold minE at h
  rw [hb, if_neg (by decide)] at h
  cases h1 : inB lw 0 300
  · rw [h1] at h; cases h
  · cases h2 : inB ls 0 20000
    · rw [h1, h2] at h; cases h
    · cases h3 : inB lc 0 20000
      · rw [h1, h2, h3] at h; cases h
      · exact ⟨hb, inB_iff.1 h1, inB_iff.1 h2, inB_iff.1 h3⟩
theorem minE_mk {M : MetD} {lw ls lc : Int} (hb : M.bad = false) (h1 : 0 ≤ lw ∧ lw ≤ 300) (h2 : 0 ≤ ls ∧ ls ≤ 20000) (h3 : 0 ≤ lc ∧ lc ≤ 20000) : minE M lw ls lc = 0 := by
  unfold minE
  rw [hb, inB_iff.2 h1, inB_iff.2 h2, inB_iff.2 h3]
  rfl
theorem opE_split {M : MetD} {lw ls lc p t : Int} (h : opE M lw ls lc p t = 0) : minE M lw ls lc = 0 ∧ atE M p t = 0 := by
  unfold opE at h
  by_cases he : minE M lw ls lc = 0
  · rw [if_pos he] at h; exact ⟨he, h⟩
  · rw [if_neg he] at h; exact absurd h he
theorem opE_mk {M : MetD} {lw ls lc p t : Int} (h1 : minE M lw ls lc = 0) (h2 : atE M p t = 0) : opE M lw ls lc p t = 0 := by
  unfold opE; rw [if_pos h1, h2]
theorem flyB_iff {we se ce : Int} {ic st : Bool} {lw ls lc : Int} {li lt : Bool} : flyB we se ce ic st lw ls lc li lt = true ↔ we ≤ lw ∧ ls ≤ se ∧ lc ≤ ce ∧ (ic = true → li = true) ∧ (st = true → lt = true) := by
  unfold flyB
  cases ic <;> cases st <;> cases li <;> cases lt <;> simp
theorem MetAt.alloc {w : World} {vF vS : Value} {M : MetD} (h : MetAt w vF vS M) (o : Obj) : MetAt (w.alloc o) vF vS M := h.below (bal (Below.refl _ _) _)
end Go.Proofs.YtonfnhonbnfdoaaGreat
