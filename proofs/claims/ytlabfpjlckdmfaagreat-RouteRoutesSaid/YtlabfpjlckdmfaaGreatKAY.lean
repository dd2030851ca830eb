/- Texts joined: KAY. -/
import Derived.Test.YtlabfpjlckdmfaaGreatKAW
import Derived.Test.YtlabfpjlckdmfaaGreatKAX
import Derived.Test.YtlabfpjlckdmfaaGreatKZG
import Derived.Test.YtlabfpjlckdmfaaGreatKAR
set_option linter.all false
namespace Go.Proofs.YtlabfpjlckdmfaaGreat
open Go Go.RowKit Go.Proofs
set_option maxRecDepth 100000
set_option maxHeartbeats 8000000
def safR (bf : Int → Option HavD) : Nat → Int → Int
 | 0, _ => -1
 | n + 1, t => if (bf t).isNone = true then t else safR bf n (t + 1)
theorem prf_saf {bf : Int → Option HavD} : ∀ (n : Nat) (t : Int) (l : List HavD), 0 ≤ t → (prfR bf n t l).2 = (max (safR bf n t) 0, decide (safR bf n t < 0))
 | 0, _, _, _ => rfl
 | n + 1, t, l, h => by
  unfold prfR safR
  cases e : bf t with
  | none =>
   dsimp only
   rw [if_pos (by rfl), Int.max_eq_left h, decide_eq_false (by omega)]
  | some x =>
   dsimp only
   rw [if_neg (by simp)]
   exact prf_saf n (t + 1) _ (by omega)
theorem bestL_none {l : List HavD} : (bestL l).isNone = decide (l.length = 0) := by
 unfold bestL
 by_cases h : l.length = 0
 ·rw [if_pos h, decide_eq_true h]; rfl
 ·rw [if_neg h, decide_eq_false h]; rfl
theorem r5safe_c (M : MetD) (vF vS : Value) (lw ls lc : Int) (li lb : Bool) (A : Option Addr) (n c : Nat) (S : Tab) (F : FliD) (vR : Value) (w : World) (hM : MetAt w vF vS M) (hc1 : n ≤ c) (hc2 : c ≤ 9223372036854775807) (hL : RecsAt w A n 3 (nV S)) (hR : SlI w vR F.m F.R) (h0 : nfE (netME M lw ls lc S n) M S n F = 0) :
  Calls Tryz.prog 35 #[.agg #[.int .i64 M.places, .int .i64 M.any.a0, .int .i64 M.any.a1, .int .i64 M.any.a2, .int .i64 M.any.a3, .int .i64 M.any.a4, .int .i64 M.any.a5, .bool M.any.i, .bool M.any.s, .int .i64 M.mw, .int .i64 M.ms, .int .i64 M.mc, vF, vS], .agg #[.int .i64 lw, .int .i64 ls, .int .i64 lc, .bool li, .bool lb], .slice A n c, .agg #[vR, .int .i64 F.dep, .int .i64 F.fuel, .int .i64 F.burn, .int .i64 F.res]] w fun e w' => e = .returned (.int .i64 (safR (fun t => bestL (F.havK (lgT S n) (timT S n M.places.toNat) (opM M lw ls lc li lb) t false M.places.toNat)) (F.ticks (lgT S n)) F.dep)) ∧ RowKit.Below w.heap.size w w' := by
 have HM := hI9 hM
 have HL := hI9 hL
 have HR := hI9 hR
 obtain ⟨f3, f4, f5, f6, f7⟩ := nfM_ok h0
 have HEN := hI9 (fun w1 h2 h3 => r5end_c A n c S M.places.toNat F vR w1 hc1 hc2 h2 h3 f6 f7)
 have hdl := FliD.dep_le f7
 have hend := f7.2.2
 have hd0 := (FliD.nums_iff.1 f7.1).2.1
 have har : F.at_ (lgT S n) (F.m - 1) = F.arr (lgT S n) := rfl
 have HHV := hI9 (fun t w1 h1 h2 h3 ha hb => r5havens_c M vF vS lw ls lc li lb A n c S M.places.toNat F vR t w1 h1 hc1 hc2 h2 h3 f7 f6 f3 f4 ha hb)
 rw [har] at HHV hend
 obtain ⟨RES, hRES⟩ : ∃ z, z = safR (fun t => bestL (F.havK (lgT S n) (timT S n M.places.toNat) (opM M lw ls lc li lb) t false M.places.toNat)) (F.ticks (lgT S n)) F.dep := ⟨_, rfl⟩
 rw [← hRES]
 obtain ⟨nn, hnn⟩ : ∃ nn, nn = F.ticks (lgT S n) := ⟨_, rfl⟩
 rw [← hnn] at hRES
 have hnz : (nn : Int) = F.arr (lgT S n) - F.dep + 1 := by rw [hnn]; unfold FliD.ticks; omega
 have HRES := hI9 (show safR (fun t => bestL (F.havK (lgT S n) (timT S n M.places.toNat) (opM M lw ls lc li lb) t false M.places.toNat)) (nn - 0) (F.dep + (0 : Nat)) = RES by rw [hRES, Nat.sub_zero]; simp)
 clear hM hL hR f3 f4 f5 f6 f7 h0 har hRES hnn
 go_enter Tryz.func35, Tryz.ntmps35
 go_wp2_with (fail)
 have _x := tri_r w #[.int .i64 M.places, .int .i64 M.any.a0, .int .i64 M.any.a1, .int .i64 M.any.a2, .int .i64 M.any.a3, .int .i64 M.any.a4, .int .i64 M.any.a5, .bool M.any.i, .bool M.any.s, .int .i64 M.mw, .int .i64 M.ms, .int .i64 M.mc, vF, vS] #[.int .i64 lw, .int .i64 ls, .int .i64 lc, .bool li, .bool lb] #[vR, .int .i64 F.dep, .int .i64 F.fuel, .int .i64 F.burn, .int .i64 F.res] 29 31 37
 have HX := hI9 _x.1
 have HI := hI9 _x.2.1
 have HF := hI9 _x.2.2.1
 have HB := hI9 _x.2.2.2
 clear _x
 generalize World.alloc (World.alloc (World.alloc w _) _) _ = W at *
 have HW0 := hI9 (RowKit.Below.refl W.heap.size W)
 go_loopg [9] nn (fun gy iv wr => ∃ j : Nat, iv = .int .i64 (F.dep + j) ∧ j ≤ nn ∧ nn - j ≤ gy ∧ Hid (safR (fun t => bestL (F.havK (lgT S n) (timT S n M.places.toNat) (opM M lw ls lc li lb) t false M.places.toNat)) (nn - j) (F.dep + j) = RES) ∧ Hid (RowKit.Below W.heap.size W wr))
 case atStart => exact ⟨0, by simp, Nat.zero_le _, Nat.sub_le _ _, HRES, HW0⟩
 case round =>
  clear HRES HW0
  obtain ⟨j, rfl, hj, hgy, HN, HW⟩ := hrel
  obtain ⟨t, hte⟩ : ∃ t, t = F.dep + (j : Int) := ⟨_, rfl⟩
  have HTE := hI9 hte
  have hN := HN.out
  rw [← hte] at hN ⊢
  clear hte
  have HX2 := hI9 (HX.out.below HW.out)
  have HI2 := hI9 (HI.out.below HW.out)
  have HF2 := hI9 (HF.out.below HW.out)
  have tok : True := trivial
  have tok2 : True := trivial
  have tok3 : True := trivial
  go_wp2_with (first | (have _t := tok3; refine wpl_row rfl 37 (.tmp 7) rfl _ rfl _ 5 HF2.out Tryz.rowFli rfl ?_; simp only [Act.put]; clear tok3))
  refine (HEN.out _ (HL.out.below (bthen HB.out HW.out)) (HR.out.below (bthen HB.out HW.out))).mono ?_
  rintro e w3 ⟨rfl, hb3⟩
  have nW := hI9 (bthen HW.out hb3)
  clear HW hb3 HX2 HI2 HF2 tok tok2
  have HW := nW
  clear nW
  have hte := HTE.out
  by_cases hlt : j < nn
  case pos =>
   have h0 : F.dep ≤ t := by omega
   have h1 : t ≤ F.arr (lgT S n) := by omega
   have ht3 : 0 ≤ t ∧ t ≤ 10000 := by omega
   obtain ⟨i, hi⟩ : ∃ i, nn - j = i + 1 := ⟨nn - j - 1, by omega⟩
   rw [hi] at hN
   have hN2 : (if (bestL (F.havK (lgT S n) (timT S n M.places.toNat) (opM M lw ls lc li lb) t false M.places.toNat)).isNone = true then t else safR (fun t => bestL (F.havK (lgT S n) (timT S n M.places.toNat) (opM M lw ls lc li lb) t false M.places.toNat)) i (t + 1)) = RES := hN
   rw [bestL_none] at hN2
   have hhv := fun w1 h1' h2 h3 => HHV.out t w1 h1' h2 h3 h0 h1
   clear hN hte
   generalize F.havK (lgT S n) (timT S n M.places.toNat) (opM M lw ls lc li lb) t false M.places.toNat = l at *
   have HH := hI9 hhv
   clear hhv
   have HX2 := hI9 (HX.out.below HW.out)
   have HI2 := hI9 (HI.out.below HW.out)
   have HF2 := hI9 (HF.out.below HW.out)
   have tok : True := trivial
   have tok2 : True := trivial
   have tok3 : True := trivial
   go_wp2_with (first | (have _t := tok; refine wpl_row rfl 29 (.tmp 4) rfl _ rfl _ 14 HX2.out Tryz.rowMet rfl ?_; simp only [Act.put]; clear tok) | (have _t := tok2; refine wpl_row rfl 31 (.tmp 5) rfl _ rfl _ 5 HI2.out Tryz.rowMin rfl ?_; simp only [Act.put]; clear tok2) | (have _t := tok3; refine wpl_row rfl 37 (.tmp 7) rfl _ rfl _ 5 HF2.out Tryz.rowFli rfl ?_; simp only [Act.put]; clear tok3))
   refine (HH.out _ (HM.out.below (bthen HB.out HW.out)) (HL.out.below (bthen HB.out HW.out)) (HR.out.below (bthen HB.out HW.out))).mono ?_
   rintro e w4 ⟨vO, rfl, hb4, hO⟩
   obtain ⟨AO, cO, rfl, -⟩ := hO
   have nW := hI9 (bthen HW.out hb4)
   clear HW hb4 HX2 HI2 HF2
   by_cases hl : l.length = 0
   ·rw [decide_eq_true hl, if_pos rfl] at hN2
    obtain rfl : t = RES := hN2
    rw [hl]
    go_wp2_with (fail)
    go_ret
    exact ⟨rfl, bthen HB.out nW.out⟩
   ·rw [decide_eq_false hl, if_neg (by decide)] at hN2
    have hlz : ((l.length : Int) == 0) = false := beq_eq_false_iff_ne.2 (by omega)
    have HN2 := hI9 hN2
    clear hN2
    go_wp2_with (fail)
    go_roundg (nn - (j + 1))
    case measure => omega
    case rel => exact ⟨j + 1, by first | rfl | go_num | (congr 1; have := HTE.out; omega), by omega, Nat.le_refl _, hI9 (by rw [show nn - (j + 1) = i by omega, show F.dep + ((j + 1 : Nat) : Int) = t + 1 by have := HTE.out; omega]; exact HN2.out), nW⟩
  obtain rfl : nn = j := by omega
  rw [Nat.sub_self] at hN
  unfold safR at hN
  subst hN
  have hge : ¬ t ≤ F.arr (lgT S n) := by omega
  clear hte
  go_wp2_with (fail)
  go_ret
  exact ⟨rfl, bthen HB.out HW.out⟩
end Go.Proofs.YtlabfpjlckdmfaaGreat

namespace Go.Proofs.YtlabfpjlckdmfaaGreat
open Go Go.RowKit Go.Proofs
set_option maxRecDepth 100000
set_option maxHeartbeats 8000000
def LgB (e : Ending) : Prop := ∃ b : Bool, e = .returned (.bool b)
theorem l5Long_c (M : MetD) (vF vS : Value) (lw ls lc : Int) (li lb : Bool) (A : Option Addr) (n c : Nat) (S : Tab) (F : FliD) (vR : Value) (w : World) (hM : MetAt w vF vS M) (hc1 : n ≤ c) (hc2 : c ≤ 9223372036854775807) (hL : RecsAt w A n 3 (nV S)) (hR : SlI w vR F.m F.R) :
  Calls Tryz.prog 11 #[.agg #[.int .i64 M.places, .int .i64 M.any.a0, .int .i64 M.any.a1, .int .i64 M.any.a2, .int .i64 M.any.a3, .int .i64 M.any.a4, .int .i64 M.any.a5, .bool M.any.i, .bool M.any.s, .int .i64 M.mw, .int .i64 M.ms, .int .i64 M.mc, vF, vS, .int .i64 lw, .int .i64 ls, .int .i64 lc, .bool li, .bool lb, .slice A n c], .agg #[vR, .int .i64 F.dep, .int .i64 F.fuel, .int .i64 F.burn, .int .i64 F.res]] w fun e w' => LgB e ∧ RowKit.Below w.heap.size w w' := by
 have hal := fun w1 h1 h2 h3 => r5Arrive_c M vF vS A n c S F vR w1 h1 hc1 hc2 h2 h3
 have HM := hI9 hM
 have HL := hI9 hL
 have HR := hI9 hR
 obtain ⟨⟨A1, c1, rfl, -⟩, ⟨A2, c2, rfl, -⟩⟩ := id hM
 have HAL := hI9 hal
 clear hM hL hR hal
 have hok : nfE (netE M S n) M S n F = 0 → 1 ≤ F.m := fun h => by
  unfold nfE at h
  by_cases h1 : netE M S n = 0
  ·rw [if_pos h1] at h
   cases e : F.okB M.places.toNat (lgT S n)
   ·rw [e] at h; cases h
   ·exact (FliD.nums_iff.1 (FliD.okB_iff.1 e).1).1.1
  ·rw [if_neg h1] at h; exact absurd h h1
 generalize nfE (netE M S n) M S n F = NE at *
 have HOK := hI9 hok
 clear hok
 have tok : True := trivial
 have tok0 : True := trivial
 obtain ⟨q, hq1⟩ : ∃ q, IntKind.i64.wrap ((M.n : Int) + (M.m : Int)) = q := ⟨_, rfl⟩
 have hq2 : wrap64 ((M.n : Int) + (M.m : Int)) = q := by rw [← hq1, IntKind.wrap_i64, wrap64]
 go_enter Tryz.func11, Tryz.ntmps11
 go_wp2_with (first | (have _t := tok0; generalize hWX : World.alloc (World.alloc w _) _ = W; clear tok0; have _x := duo_r w #[.int .i64 M.places, .int .i64 M.any.a0, .int .i64 M.any.a1, .int .i64 M.any.a2, .int .i64 M.any.a3, .int .i64 M.any.a4, .int .i64 M.any.a5, .bool M.any.i, .bool M.any.s, .int .i64 M.mw, .int .i64 M.ms, .int .i64 M.mc, .slice A1 M.n c1, .slice A2 M.m c2, .int .i64 lw, .int .i64 ls, .int .i64 lc, .bool li, .bool lb, .slice A n c] #[vR, .int .i64 F.dep, .int .i64 F.fuel, .int .i64 F.burn, .int .i64 F.res] 34 37; rw [hWX] at _x; clear hWX; have HX := hI9 _x.1; have HY := hI9 _x.2.1; have HB := hI9 _x.2.2; clear _x; have x12 := HX.out.cell 12; have x13 := HX.out.cell 13; have x19 := HX.out.cell 19; simp only [gtA, gtS, gtZ] at x12 x13 x19) | (refine wpl_mid rfl 29 _ rfl w.heap.size 0 rfl 34 _ #[.int .i64 M.places, .int .i64 M.any.a0, .int .i64 M.any.a1, .int .i64 M.any.a2, .int .i64 M.any.a3, .int .i64 M.any.a4, .int .i64 M.any.a5, .bool M.any.i, .bool M.any.s, .int .i64 M.mw, .int .i64 M.ms, .int .i64 M.mc, .slice A1 M.n c1, .slice A2 M.m c2] 14 HX.out Tryz.rowMet [] [.int .i64 lw, .int .i64 ls, .int .i64 lc, .bool li, .bool lb, .slice A n c] rfl rfl rfl ?_; simp only [Act.put]) | (have _t := tok; refine wpl_row rfl 37 (.tmp 3) rfl _ rfl _ 5 HY.out Tryz.rowFli rfl ?_; simp only [Act.put]; clear tok))
 ·go_ret
  exact ⟨⟨_, rfl⟩, HB.out⟩
 ·skip
  refine (HAL.out _ (HM.out.below HB.out) (HL.out.below HB.out) (HR.out.below HB.out)).mono ?_
  rintro e w2 ⟨v, rfl, hb2, hv⟩
  have y1 : w2.cell? ⟨w.heap.size + 1, 1, none⟩ = some (.int .i64 F.dep) := (HY.out.below hb2).cell 1
  have HB2 := hI9 (bthen HB.out hb2)
  clear HX HY HB hb2
  by_cases h0 : NE = 0
  ·subst h0
   obtain ⟨A7, c7, rfl, e2, e3, e4⟩ := hv.1 rfl
   have hm1 := HOK.out rfl
   obtain ⟨b2, o2, rfl, hbb, hc2⟩ := e4 (by omega)
   obtain ⟨m, hme⟩ : ∃ m, m = F.m - 1 := ⟨_, rfl⟩
   have cl : w2.cell? ⟨b2, o2 + m, none⟩ = some (.int .i64 (F.at_ (lgT S n) m)) := by have := hc2 m (by omega) 0 (by omega); rw [Nat.mul_one, Nat.add_zero] at this; exact this
   have hmz : IntKind.i64.wrap ((F.m : Int) - 1) = (m : Int) := by rw [IntKind.wrap_i64]; omega
   have hmz2 : (m : Int) < (F.m : Int) := by omega
   clear hc2 e4 hv hme
   generalize F.at_ (lgT S n) m = D at *
   go_wp2_with (fail)
   (refine wp_region_drawnt 14 (by kernel_rfl) (by kernel_rfl) ?_; simp only [List.take_succ_cons, List.take_zero, List.drop_succ_cons, List.drop_zero]; (repeat (go_big_quiet_step ( fail))); refine wpQuiet_nil ?_; rintro _ ⟨nq, rfl⟩)
   go_wp2_with (fail)
   go_ret
   exact ⟨⟨_, rfl⟩, bdn HB2.out _⟩
  ·have h0z : (NE == 0) = false := by simpa using h0
   obtain rfl := hv.2 h0
   clear hv
   go_wp2_with (fail)
   (refine wp_region_drawnt 14 (by kernel_rfl) (by kernel_rfl) ?_; simp only [List.take_succ_cons, List.take_zero, List.drop_succ_cons, List.drop_zero]; (repeat (go_big_quiet_step ( fail))); refine wpQuiet_nil ?_; rintro _ ⟨nq, rfl⟩)
   go_wp2_with (fail)
   go_ret
   exact ⟨⟨_, rfl⟩, bdn HB2.out _⟩
 ·skip
  refine (HAL.out _ (HM.out.below HB.out) (HL.out.below HB.out) (HR.out.below HB.out)).mono ?_
  rintro e w2 ⟨v, rfl, hb2, hv⟩
  have y1 : w2.cell? ⟨w.heap.size + 1, 1, none⟩ = some (.int .i64 F.dep) := (HY.out.below hb2).cell 1
  have HB2 := hI9 (bthen HB.out hb2)
  clear HX HY HB hb2
  by_cases h0 : NE = 0
  ·subst h0
   obtain ⟨A7, c7, rfl, e2, e3, e4⟩ := hv.1 rfl
   have hm1 := HOK.out rfl
   obtain ⟨b2, o2, rfl, hbb, hc2⟩ := e4 (by omega)
   obtain ⟨m, hme⟩ : ∃ m, m = F.m - 1 := ⟨_, rfl⟩
   have cl : w2.cell? ⟨b2, o2 + m, none⟩ = some (.int .i64 (F.at_ (lgT S n) m)) := by have := hc2 m (by omega) 0 (by omega); rw [Nat.mul_one, Nat.add_zero] at this; exact this
   have hmz : IntKind.i64.wrap ((F.m : Int) - 1) = (m : Int) := by rw [IntKind.wrap_i64]; omega
   have hmz2 : (m : Int) < (F.m : Int) := by omega
   clear hc2 e4 hv hme
   generalize F.at_ (lgT S n) m = D at *
   go_wp2_with (fail)
   (refine wp_region_drawnt 14 (by kernel_rfl) (by kernel_rfl) ?_; simp only [List.take_succ_cons, List.take_zero, List.drop_succ_cons, List.drop_zero]; (repeat (go_big_quiet_step ( fail))); refine wpQuiet_nil ?_; rintro _ ⟨nq, rfl⟩)
   go_wp2_with (fail)
   go_ret
   exact ⟨⟨_, rfl⟩, bdn HB2.out _⟩
  ·have h0z : (NE == 0) = false := by simpa using h0
   obtain rfl := hv.2 h0
   clear hv
   go_wp2_with (fail)
   (refine wp_region_drawnt 14 (by kernel_rfl) (by kernel_rfl) ?_; simp only [List.take_succ_cons, List.take_zero, List.drop_succ_cons, List.drop_zero]; (repeat (go_big_quiet_step ( fail))); refine wpQuiet_nil ?_; rintro _ ⟨nq, rfl⟩)
   go_wp2_with (fail)
   go_ret
   exact ⟨⟨_, rfl⟩, bdn HB2.out _⟩
 ·skip
  refine (HAL.out _ (HM.out.below HB.out) (HL.out.below HB.out) (HR.out.below HB.out)).mono ?_
  rintro e w2 ⟨v, rfl, hb2, hv⟩
  have y1 : w2.cell? ⟨w.heap.size + 1, 1, none⟩ = some (.int .i64 F.dep) := (HY.out.below hb2).cell 1
  have HB2 := hI9 (bthen HB.out hb2)
  clear HX HY HB hb2
  by_cases h0 : NE = 0
  ·subst h0
   obtain ⟨A7, c7, rfl, e2, e3, e4⟩ := hv.1 rfl
   have hm1 := HOK.out rfl
   obtain ⟨b2, o2, rfl, hbb, hc2⟩ := e4 (by omega)
   obtain ⟨m, hme⟩ : ∃ m, m = F.m - 1 := ⟨_, rfl⟩
   have cl : w2.cell? ⟨b2, o2 + m, none⟩ = some (.int .i64 (F.at_ (lgT S n) m)) := by have := hc2 m (by omega) 0 (by omega); rw [Nat.mul_one, Nat.add_zero] at this; exact this
   have hmz : IntKind.i64.wrap ((F.m : Int) - 1) = (m : Int) := by rw [IntKind.wrap_i64]; omega
   have hmz2 : (m : Int) < (F.m : Int) := by omega
   clear hc2 e4 hv hme
   generalize F.at_ (lgT S n) m = D at *
   go_wp2_with (fail)
   (refine wp_region_drawnt 14 (by kernel_rfl) (by kernel_rfl) ?_; simp only [List.take_succ_cons, List.take_zero, List.drop_succ_cons, List.drop_zero]; (repeat (go_big_quiet_step ( fail))); refine wpQuiet_nil ?_; rintro _ ⟨nq, rfl⟩)
   go_wp2_with (fail)
   go_ret
   exact ⟨⟨_, rfl⟩, bdn HB2.out _⟩
  ·have h0z : (NE == 0) = false := by simpa using h0
   obtain rfl := hv.2 h0
   clear hv
   go_wp2_with (fail)
   (refine wp_region_drawnt 14 (by kernel_rfl) (by kernel_rfl) ?_; simp only [List.take_succ_cons, List.take_zero, List.drop_succ_cons, List.drop_zero]; (repeat (go_big_quiet_step ( fail))); refine wpQuiet_nil ?_; rintro _ ⟨nq, rfl⟩)
   go_wp2_with (fail)
   go_ret
   exact ⟨⟨_, rfl⟩, bdn HB2.out _⟩
end Go.Proofs.YtlabfpjlckdmfaaGreat
