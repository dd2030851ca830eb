import Derived.Test.YtlabfpjlckdmfaaGreatJAT
import Derived.Test.YtlabfpjlckdmfaaGreatJAV
import Derived.Test.YtlabfpjlckdmfaaGreatJAR
import Derived.Test.YtlabfpjlckdmfaaGreatJAN
set_option linter.all false
namespace Go.Proofs.YtlabfpjlckdmfaaGreat
open Go Go.RowKit Go.Proofs
set_option maxRecDepth 100000
set_option maxHeartbeats 8000000
def SfW (b : Bool) (e : Ending) : Prop := ∃ s : Int, e = .returned (.tuple #[.int .i64 s, .bool b, .int .i64 0])
theorem safe_way (M : MetD) (vF vS : Value) (lw ls lc : Int) (li lb : Bool) (A : Option Addr) (n c : Nat) (S : Tab) (F : FliD) (vR : Value) (xs : List Nat) (w : World) (hnm : netME M lw ls lc S n = 0) (hok : (F.wayR xs).okB M.places.toNat (lgT S n) = true) (hM : MetAt w vF vS M) (hc1 : n ≤ c) (hc2 : c ≤ 9223372036854775807) (hL : RecsAt w A n 3 (nV S)) (hR : SlI w vR xs.length (rF xs)) :
  Calls Tryz.prog 17 #[.agg #[.int .i64 M.places, .int .i64 M.any.a0, .int .i64 M.any.a1, .int .i64 M.any.a2, .int .i64 M.any.a3, .int .i64 M.any.a4, .int .i64 M.any.a5, .bool M.any.i, .bool M.any.s, .int .i64 M.mw, .int .i64 M.ms, .int .i64 M.mc, vF, vS], .agg #[.int .i64 lw, .int .i64 ls, .int .i64 lc, .bool li, .bool lb], .slice A n c, .agg #[vR, .int .i64 F.dep, .int .i64 F.fuel, .int .i64 F.burn, .int .i64 F.res]] w fun e w' => SfW (F.goodR M.places.toNat (lgT S n) (timT S n M.places.toNat) (opM M lw ls lc li lb) xs) e ∧ RowKit.Below w.heap.size w w' := by
 have h := rSafe_c M vF vS lw ls lc li lb A n c S (F.wayR xs) vR w hM hc1 hc2 hL hR
 rw [nf_mk (F := F.wayR xs) hnm hok] at h
 unfold sfE at h
 simp only [if_true] at h
 refine h.mono ?_
 rintro e w1 ⟨rfl, hb⟩
 refine ⟨?_, hb⟩
 unfold SfW FliD.goodR
 rw [hok, Bool.true_and]
 exact ⟨_, rfl⟩
theorem arr_way (M : MetD) (vF vS : Value) (A : Option Addr) (n c : Nat) (S : Tab) (F : FliD) (vR : Value) (xs : List Nat) (w : World) (hnm : netE M S n = 0) (hok : (F.wayR xs).okB M.places.toNat (lgT S n) = true) (hM : MetAt w vF vS M) (hc1 : n ≤ c) (hc2 : c ≤ 9223372036854775807) (hL : RecsAt w A n 3 (nV S)) (hR : SlI w vR xs.length (rF xs)) :
  Calls Tryz.prog 9 #[.agg #[.int .i64 M.places, .int .i64 M.any.a0, .int .i64 M.any.a1, .int .i64 M.any.a2, .int .i64 M.any.a3, .int .i64 M.any.a4, .int .i64 M.any.a5, .bool M.any.i, .bool M.any.s, .int .i64 M.mw, .int .i64 M.ms, .int .i64 M.mc, vF, vS], .slice A n c, .agg #[vR, .int .i64 F.dep, .int .i64 F.fuel, .int .i64 F.burn, .int .i64 F.res]] w fun e w' => ∃ v, e = .returned (.tuple #[v, .int .i64 0]) ∧ RowKit.Below w.heap.size w w' ∧ SlI w' v xs.length ((F.wayR xs).at_ (lgT S n)) := by
 have h := rArrive_c M vF vS A n c S (F.wayR xs) vR w hM hc1 hc2 hL hR
 have e : nfE (netE M S n) M S n (F.wayR xs) = 0 := by unfold nfE; rw [if_pos hnm, if_pos hok]
 rw [e] at h
 refine h.mono ?_
 rintro e w1 ⟨v, rfl, hb, h1, -⟩
 exact ⟨v, rfl, hb, h1 rfl⟩
theorem sl_on {w : World} {v : Value} {m : Nat} {R : Nat → Int} (h : SlI w v m R) (h0 : ∀ i, i < m → 0 ≤ R i) : SlI w v (lsR m R).length (rF (lsR m R)) := by
 rw [lsR_len]
 obtain ⟨A, c, e, q1, q2, h⟩ := h
 refine ⟨A, c, e, q1, q2, fun hn => ?_⟩
 obtain ⟨b, off, e, hb, hc⟩ := h hn
 refine ⟨b, off, e, hb, fun i hi j hj => ?_⟩
 rw [hc i hi j hj]
 show some (Value.int .i64 (R i)) = some (Value.int .i64 (((lsR m R).getD i 0 : Nat) : Int))
 rw [lsR_at hi (h0 i hi)]
theorem getD_lastR : ∀ (zs : List Nat) (a : Nat), (a :: zs).getD zs.length 0 = zs.getLastD a
 | [], _ => rfl
 | z :: zs, a => by
  show (z :: zs).getD zs.length 0 = _
  rw [getD_lastR zs z]
  cases zs <;> rfl
theorem short_best {F : FliD} {P : Nat} {lt tt : Tab} {op : Nat → Int → Bool} {tg fr : Nat} {ys : List Nat} (hB : some ys = F.bestR P lt tt op (rtsL P lt tg 7 [fr] fr)) : F.goodR P lt tt op ys = true ∧ ∃ e2, ys.length = e2 + 1 ∧ rF ys 0 = fr ∧ rF ys e2 = tg ∧ e2 ≤ 7 ∧ ¬ ∃ i j, j < i ∧ i < ys.length ∧ rF ys i = rF ys j := by
 have h := F.least_best P lt tt op (rtsL P lt tg 7 [fr] fr)
 rw [← hB] at h
 obtain ⟨hm, hg, -⟩ := h
 refine ⟨hg, ?_⟩
 obtain ⟨zs, rfl, hl, hv⟩ := (mem_rts 7 [fr] fr _).1 hm
 refine ⟨zs.length, by simp, rfl, ?_, hl, ?_⟩
 ·show (((fr :: zs).getD zs.length 0 : Nat) : Int) = tg
  rw [getD_lastR, RtV_last _ _ _ hv]
 ·have hn := RtV_nodup _ _ _ hv (by simp)
  rintro ⟨i, j, hji, hi, e⟩
  unfold rF at e
  have e : ([fr] ++ zs).getD i 0 = ([fr] ++ zs).getD j 0 := by omega
  rw [List.getD_eq_getElem?_getD, List.getD_eq_getElem?_getD, List.getElem?_eq_getElem hi, List.getElem?_eq_getElem (Nat.lt_trans hji hi), Option.getD_some, Option.getD_some] at e
  exact List.pairwise_iff_getElem.1 hn j i (Nat.lt_trans hji hi) hi hji e.symm
theorem short_none {F : FliD} {P : Nat} {lt tt : Tab} {op : Nat → Int → Bool} {tg fr m : Nat} {R : Nat → Int} (hB : none = F.bestR P lt tt op (rtsL P lt tg 7 [fr] fr)) (hok : (F.onR m R).okB P lt = true) (h0 : R 0 = fr) (hl : R (m - 1) = tg) (hn : ¬ ∃ i j, j < i ∧ i < m ∧ R i = R j) : F.goodR P lt tt op (lsR m R) = false := by
 have h := F.least_best P lt tt op (rtsL P lt tg 7 [fr] fr)
 rw [← hB] at h
 exact h _ (mem_on (FliD.okB_iff.1 hok) h0 hl hn)
theorem short_some {F : FliD} {P : Nat} {lt tt : Tab} {op : Nat → Int → Bool} {tg fr m : Nat} {R : Nat → Int} {ys : List Nat} (hB : some ys = F.bestR P lt tt op (rtsL P lt tg 7 [fr] fr)) (hok : (F.onR m R).okB P lt = true) (h0 : R 0 = fr) (hl : R (m - 1) = tg) (hn : ¬ ∃ i j, j < i ∧ i < m ∧ R i = R j) (hg : F.goodR P lt tt op (lsR m R) = true) : F.finR lt ys < F.finR lt (lsR m R) ∨ (F.finR lt ys = F.finR lt (lsR m R) ∧ ys.length ≤ m) := by
 have h := F.least_best P lt tt op (rtsL P lt tg 7 [fr] fr)
 rw [← hB] at h
 have := h.2.2 _ (mem_on (FliD.okB_iff.1 hok) h0 hl hn) hg
 rwa [lsR_len] at this
theorem short_z {m e1 : Nat} {R : Nat → Int} {fr tg : Int} {zA zB zC z1 : Bool} (h : zA = ((m : Int) == 0) ∧ zB = (R 0 != fr) ∧ zC = (R e1 != tg) ∧ z1 = (zA || zB) ∧ false = (z1 || zC)) : 0 < m ∧ R 0 = fr ∧ R e1 = tg ∧ z1 = false := by
 obtain ⟨rfl, rfl, rfl, h1, h⟩ := h
 obtain ⟨h2, h3⟩ := Bool.or_eq_false_iff.1 h.symm
 rw [h2] at h1
 obtain ⟨h4, h5⟩ := Bool.or_eq_false_iff.1 h1.symm
 simp only [beq_eq_false_iff_ne, bne_eq_false_iff_eq, ne_eq] at h3 h4 h5
 exact ⟨by omega, h5, h3, h2⟩
end Go.Proofs.YtlabfpjlckdmfaaGreat
