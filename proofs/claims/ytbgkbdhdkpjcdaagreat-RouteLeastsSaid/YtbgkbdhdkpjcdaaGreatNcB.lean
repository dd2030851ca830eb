/- Contract: Proof of the reference of routes. -/
import Derived.Test.YtbgkbdhdkpjcdaaGreatJAX
set_option linter.all false
namespace Go.Proofs.YtbgkbdhdkpjcdaaGreat
open Go Go.RowKit Go.Proofs
set_option maxRecDepth 100000
set_option maxHeartbeats 8000000
theorem tkE_0 {NE : Int} {F : FliD} {lt : Tab} {t : Int} (h : NE = 0) (ha : F.dep ≤ t) (hb : t ≤ F.arr lt) : tkE NE F lt t = 0 := by
  unfold tkE
  rw [if_pos h, if_pos (inB_iff.2 ⟨ha, hb⟩)]
theorem r5Proof_c (M : MetD) (vF vS : Value) (lw ls lc : Int) (li lb : Bool) (A : Option Addr) (n c : Nat) (S : Tab) (F : FliD) (vR : Value) (w : World) (hM : MetAt w vF vS M) (hc1 : n ≤ c) (hc2 : c ≤ 9223372036854775807) (hL : RecsAt w A n 3 (nV S)) (hR : SlI w vR F.m F.R) :
   Calls Tryz.prog 51 #[.agg #[.int .i64 M.places, .int .i64 M.any.a0, .int .i64 M.any.a1, .int .i64 M.any.a2, .int .i64 M.any.a3, .int .i64 M.any.a4, .int .i64 M.any.a5, .bool M.any.i, .bool M.any.s, .int .i64 M.mw, .int .i64 M.ms, .int .i64 M.mc, vF, vS], .agg #[.int .i64 lw, .int .i64 ls, .int .i64 lc, .bool li, .bool lb], .slice A n c, .agg #[vR, .int .i64 F.dep, .int .i64 F.fuel, .int .i64 F.burn, .int .i64 F.res]] w fun e w' => ∃ vO, e = .returned (.tuple #[vO, .int .i64 (pfE (nfE (netME M lw ls lc S n) M S n F) M lw ls lc li lb S n F).2]) ∧ RowKit.Below w.heap.size w w' ∧ SlH w' vO (pfE (nfE (netME M lw ls lc S n) M S n F) M lw ls lc li lb S n F).1 := by
  have HM := Lib.hid hM
  have HL := Lib.hid hL
  have HR := Lib.hid hR
  have HCA := Lib.hid (fun w1 h1 h2 h3 => r5checkAll_c M vF vS lw ls lc li lb A n c S F vR w1 h1 hc1 hc2 h2 h3)
  obtain ⟨bf, hbf⟩ : ∃ bf : Int → Option HavD, bf = fun t => bestL (F.havK (lgT S n) (timT S n M.places.toNat) (opM M lw ls lc li lb) t false M.places.toNat) := ⟨_, rfl⟩
  have hbs : nfE (netME M lw ls lc S n) M S n F = 0 → ∀ t w1, MetAt w1 vF vS M → RecsAt w1 A n 3 (nV S) → SlI w1 vR F.m F.R → F.dep ≤ t → t ≤ F.arr (lgT S n) →
     Calls Tryz.prog 30 #[.agg #[.int .i64 M.places, .int .i64 M.any.a0, .int .i64 M.any.a1, .int .i64 M.any.a2, .int .i64 M.any.a3, .int .i64 M.any.a4, .int .i64 M.any.a5, .bool M.any.i, .bool M.any.s, .int .i64 M.mw, .int .i64 M.ms, .int .i64 M.mc, vF, vS], .agg #[.int .i64 lw, .int .i64 ls, .int .i64 lc, .bool li, .bool lb], .slice A n c, .agg #[vR, .int .i64 F.dep, .int .i64 F.fuel, .int .i64 F.burn, .int .i64 F.res], .int .i64 t] w1 fun e w' => e = .returned (.tuple #[.agg (hvC (besV (bf t)).1), .int .i64 (besV (bf t)).2]) ∧ RowKit.Below w1.heap.size w1 w' := by
    intro h0 t w1 h1 h2 h3 ha hb
    have h := r5Best_c M vF vS lw ls lc li lb A n c S F vR t w1 h1 hc1 hc2 h2 h3
    rw [tkE_0 h0 ha hb] at h
    unfold bsE at h
    rw [if_pos rfl] at h
    rw [hbf]
    exact h
  have HEN0 := Lib.hid (fun w1 P h2 h3 f6 f7 => r5end_c A n c S P F vR w1 hc1 hc2 h2 h3 f6 f7)
  have hok := fun h => nfM_ok (M := M) (lw := lw) (ls := ls) (lc := lc) (S := S) (n := n) (F := F) h
  clear hM hL hR
  have tok : True := trivial
  have tok2 : True := trivial
  have tok3 : True := trivial
  unfold pfE
  have hp : F.prf (lgT S n) (timT S n M.places.toNat) (opM M lw ls lc li lb) M.places.toNat = prfR bf (F.ticks (lgT S n)) F.dep [] := by rw [hbf]; rfl
  rw [hp]
  clear hp hbf
  generalize nfE (netME M lw ls lc S n) M S n F = NE at *
  by_cases h0 : NE = 0
  case neg =>
    rw [if_neg h0]
    have hz : (NE != 0) = true := by simpa using h0
    clear h0 hok hbs
    go_enter Tryz.func51, Tryz.ntmps51
    go_wp2_with (fail)
    have _x := frm3 w #[.int .i64 M.places, .int .i64 M.any.a0, .int .i64 M.any.a1, .int .i64 M.any.a2, .int .i64 M.any.a3, .int .i64 M.any.a4, .int .i64 M.any.a5, .bool M.any.i, .bool M.any.s, .int .i64 M.mw, .int .i64 M.ms, .int .i64 M.mc, vF, vS] 29 #[.int .i64 lw, .int .i64 ls, .int .i64 lc, .bool li, .bool lb] 31 #[vR, .int .i64 F.dep, .int .i64 F.fuel, .int .i64 F.burn, .int .i64 F.res] 37
    have HX := Lib.hid _x.1
    have HI := Lib.hid _x.2.1
    have HF := Lib.hid _x.2.2.1
    have HB := Lib.hid _x.2.2.2.1
    have zW := _x.2.2.2.2
    clear _x
    generalize World.alloc (World.alloc (World.alloc w _) _) _ = W at *
    go_wp2_with (first | (have _t := tok; refine wpl_row rfl 29 (.tmp 4) rfl _ rfl #[.int .i64 M.places, .int .i64 M.any.a0, .int .i64 M.any.a1, .int .i64 M.any.a2, .int .i64 M.any.a3, .int .i64 M.any.a4, .int .i64 M.any.a5, .bool M.any.i, .bool M.any.s, .int .i64 M.mw, .int .i64 M.ms, .int .i64 M.mc, vF, vS] 14 HX.out Tryz.rowMet rfl ?_; simp only [Act.put]; clear tok) | (have _t := tok2; refine wpl_row rfl 31 (.tmp 5) rfl _ rfl #[.int .i64 lw, .int .i64 ls, .int .i64 lc, .bool li, .bool lb] 5 HI.out Tryz.rowMin rfl ?_; simp only [Act.put]; clear tok2) | (have _t := tok3; refine wpl_row rfl 37 (.tmp 7) rfl _ rfl #[vR, .int .i64 F.dep, .int .i64 F.fuel, .int .i64 F.burn, .int .i64 F.res] 5 HF.out Tryz.rowFli rfl ?_; simp only [Act.put]; clear tok3) | (go_at_call 95; (with_reducible refine (HCA.out _ (HM.out.below HB.out) (HL.out.below HB.out) (HR.out.below HB.out)).mono ?_); rintro e w1 ⟨rfl, hb1⟩; have nHX := Lib.hid (HX.out.below hb1); have nHI := Lib.hid (HI.out.below hb1); have nHF := Lib.hid (HF.out.below hb1); have nHB := Lib.hid (bthen HB.out hb1); have zz1 := hb1.size; clear HX HI HF HB hb1; have HX := nHX; have HI := nHI; have HF := nHF; have HB := nHB; clear nHX nHI nHF nHB))
    go_ret2
    exact ⟨_, rfl, HB.out, SlH.nil _⟩
  subst h0
  rw [if_pos rfl]
  obtain ⟨f3, f4, f5, f6, f7⟩ := hok rfl
  have HEN := Lib.hid (fun w1 h2 h3 => HEN0.out w1 M.places.toNat h2 h3 f6 f7)
  have hdl := FliD.dep_le f7
  have hend := f7.2.2
  have hd0 := (FliD.nums_iff.1 f7.1).2.1
  have har : F.at_ (lgT S n) (F.m - 1) = F.arr (lgT S n) := rfl
  rw [har] at hend
  have HBS := Lib.hid (hbs rfl)
  obtain ⟨nn, hnn⟩ : ∃ nn, nn = F.ticks (lgT S n) := ⟨_, rfl⟩
  rw [← hnn]
  have hnz : (nn : Int) = F.arr (lgT S n) - F.dep + 1 := by rw [hnn]; unfold FliD.ticks; omega
  obtain ⟨R, hR⟩ : ∃ R, R = prfR bf nn F.dep [] := ⟨_, rfl⟩
  rw [← hR]
  obtain ⟨RES, hRES⟩ : ∃ z, z = (if R.2.2 = true then (R.1, (0 : Int)) else ([], 3)) := ⟨_, rfl⟩
  rw [← hRES]
  have HRES := Lib.hid hRES
  have HN0 := Lib.hid (show prfR bf (nn - 0) (F.dep + (0 : Nat)) [] = R by rw [hR, Nat.sub_zero]; simp)
  have hn2 : nn ≤ 3000 := by omega
  clear f3 f4 f5 f6 f7 hbs hok har hR hRES hnn HEN0
  go_enter Tryz.func51, Tryz.ntmps51
  go_wp2_with (fail)
  have _x := frm3 w #[.int .i64 M.places, .int .i64 M.any.a0, .int .i64 M.any.a1, .int .i64 M.any.a2, .int .i64 M.any.a3, .int .i64 M.any.a4, .int .i64 M.any.a5, .bool M.any.i, .bool M.any.s, .int .i64 M.mw, .int .i64 M.ms, .int .i64 M.mc, vF, vS] 29 #[.int .i64 lw, .int .i64 ls, .int .i64 lc, .bool li, .bool lb] 31 #[vR, .int .i64 F.dep, .int .i64 F.fuel, .int .i64 F.burn, .int .i64 F.res] 37
  have HX := Lib.hid _x.1
  have HI := Lib.hid _x.2.1
  have HF := Lib.hid _x.2.2.1
  have HB := Lib.hid _x.2.2.2.1
  have zW := _x.2.2.2.2
  clear _x
  generalize World.alloc (World.alloc (World.alloc w _) _) _ = W at *
  go_wp2_with (first | (have _t := tok; refine wpl_row rfl 29 (.tmp 4) rfl _ rfl #[.int .i64 M.places, .int .i64 M.any.a0, .int .i64 M.any.a1, .int .i64 M.any.a2, .int .i64 M.any.a3, .int .i64 M.any.a4, .int .i64 M.any.a5, .bool M.any.i, .bool M.any.s, .int .i64 M.mw, .int .i64 M.ms, .int .i64 M.mc, vF, vS] 14 HX.out Tryz.rowMet rfl ?_; simp only [Act.put]; clear tok) | (have _t := tok2; refine wpl_row rfl 31 (.tmp 5) rfl _ rfl #[.int .i64 lw, .int .i64 ls, .int .i64 lc, .bool li, .bool lb] 5 HI.out Tryz.rowMin rfl ?_; simp only [Act.put]; clear tok2) | (have _t := tok3; refine wpl_row rfl 37 (.tmp 7) rfl _ rfl #[vR, .int .i64 F.dep, .int .i64 F.fuel, .int .i64 F.burn, .int .i64 F.res] 5 HF.out Tryz.rowFli rfl ?_; simp only [Act.put]; clear tok3) | (go_at_call 95; (with_reducible refine (HCA.out _ (HM.out.below HB.out) (HL.out.below HB.out) (HR.out.below HB.out)).mono ?_); rintro e w1 ⟨rfl, hb1⟩; have nHX := Lib.hid (HX.out.below hb1); have nHI := Lib.hid (HI.out.below hb1); have nHF := Lib.hid (HF.out.below hb1); have nHB := Lib.hid (bthen HB.out hb1); have zz1 := hb1.size; clear HX HI HF HB hb1; have HX := nHX; have HI := nHI; have HF := nHF; have HB := nHB; clear nHX nHI nHF nHB; (try clear zHF); have zHF := HF.out.lt; (try clear cHF1); have cHF1 := HF.out.cell 1))
  clear HCA cHF1 zHF
  go_loopg [11, 12] nn (fun gy ov iv wr => ∃ (j : Nat) (l : List HavD), iv = .int .i64 (F.dep + j) ∧ j ≤ nn ∧ nn - j ≤ gy ∧ l.length ≤ j ∧ Hid (prfR bf (nn - j) (F.dep + j) l = R) ∧ Hid (HvK l ov w1 wr))
  case atStart => exact ⟨0, [], by first | rfl | simp, Nat.zero_le _, Nat.sub_le _ _, Nat.le_refl _, HN0, Lib.hid ⟨RowKit.Below.refl _ _, World.ownsRow_nil _ _ _ _⟩⟩
  case round =>
    clear HN0
    obtain ⟨j, l, rfl, hj, hgy, hlj, HN, K0⟩ := hrel
    obtain ⟨t, hte⟩ : ∃ t, t = F.dep + (j : Int) := ⟨_, rfl⟩
    have HTE := Lib.hid hte
    have hN := HN.out
    rw [← hte] at hN ⊢
    clear hte HN
    have HX2 := Lib.hid (HX.out.below K0.out.b)
    have HI2 := Lib.hid (HI.out.below K0.out.b)
    have HF2 := Lib.hid (HF.out.below K0.out.b)
    have tok : True := trivial
    have tok2 : True := trivial
    have tok3 : True := trivial
    go_wp2_with (first | (have _t := tok3; refine wpl_row rfl 37 (.tmp 7) rfl _ rfl #[vR, .int .i64 F.dep, .int .i64 F.fuel, .int .i64 F.burn, .int .i64 F.res] 5 HF2.out Tryz.rowFli rfl ?_; simp only [Act.put]; clear tok3))
    refine (HEN.out _ (HL.out.below (bthen HB.out K0.out.b)) (HR.out.below (bthen HB.out K0.out.b))).mono ?_
    rintro e w3 ⟨rfl, hb3⟩
    have nK := Lib.hid (K0.out.below hb3)
    clear K0 hb3 HX2 HI2 HF2 tok tok2
    have K0 := nK
    clear nK
    have hte := HTE.out
    by_cases hlt : j < nn
    case pos =>
      have h0 : F.dep ≤ t := by omega
      have h1 : t ≤ F.arr (lgT S n) := by omega
      have ht3 : 0 ≤ t ∧ t ≤ 10000 := by omega
      obtain ⟨i, hi⟩ : ∃ i, nn - j = i + 1 := ⟨nn - j - 1, by omega⟩
      rw [hi] at hN
      unfold prfR at hN
      clear hte
      have hbe := fun w1 h1' h2 h3 => HBS.out t w1 h1' h2 h3 h0 h1
      cases hbs : bf t with
      | none =>
        rw [hbs] at hN hbe
        obtain rfl : R = ([], t, false) := hN.symm
        have hre := HRES.out
        rw [if_neg (show ¬ (false = true) by decide)] at hre
        subst hre
        unfold besV at hbe
        dsimp only at hbe
        unfold hvC hvz at hbe
        dsimp only at hbe
        have HBE := Lib.hid hbe
        clear hbe hbs hN
        have HX2 := Lib.hid (HX.out.below K0.out.b)
        have HI2 := Lib.hid (HI.out.below K0.out.b)
        have HF2 := Lib.hid (HF.out.below K0.out.b)
        have tok : True := trivial
        have tok2 : True := trivial
        have tok3 : True := trivial
        go_wp2_with (first | (have _t := tok; refine wpl_row rfl 29 (.tmp 4) rfl _ rfl #[.int .i64 M.places, .int .i64 M.any.a0, .int .i64 M.any.a1, .int .i64 M.any.a2, .int .i64 M.any.a3, .int .i64 M.any.a4, .int .i64 M.any.a5, .bool M.any.i, .bool M.any.s, .int .i64 M.mw, .int .i64 M.ms, .int .i64 M.mc, vF, vS] 14 HX2.out Tryz.rowMet rfl ?_; simp only [Act.put]; clear tok) | (have _t := tok2; refine wpl_row rfl 31 (.tmp 5) rfl _ rfl #[.int .i64 lw, .int .i64 ls, .int .i64 lc, .bool li, .bool lb] 5 HI2.out Tryz.rowMin rfl ?_; simp only [Act.put]; clear tok2) | (have _t := tok3; refine wpl_row rfl 37 (.tmp 7) rfl _ rfl #[vR, .int .i64 F.dep, .int .i64 F.fuel, .int .i64 F.burn, .int .i64 F.res] 5 HF2.out Tryz.rowFli rfl ?_; simp only [Act.put]; clear tok3))
        refine (HBE.out _ (HM.out.below (bthen HB.out K0.out.b)) (HL.out.below (bthen HB.out K0.out.b)) (HR.out.below (bthen HB.out K0.out.b))).mono ?_
        rintro e w4 ⟨rfl, hb4⟩
        have HB4 := Lib.hid (bthen (bthen HB.out K0.out.b) hb4)
        clear hb4 K0 HX2 HI2 HF2
        go_wp2_with (fail)
        go_ret2
        exact ⟨_, rfl, bal HB4.out _, SlH.nil _⟩
      | some x =>
        rw [hbs] at hN hbe
        obtain ⟨xp, xt, xb⟩ := x
        unfold besV at hbe
        dsimp only at hbe hN
        unfold hvC at hbe
        dsimp only at hbe
        have HN := Lib.hid hN
        have HBE := Lib.hid hbe
        clear hbe hbs hN
        have HX2 := Lib.hid (HX.out.below K0.out.b)
        have HI2 := Lib.hid (HI.out.below K0.out.b)
        have HF2 := Lib.hid (HF.out.below K0.out.b)
        have tok : True := trivial
        have tok2 : True := trivial
        have tok3 : True := trivial
        go_wp2_with (first | (have _t := tok; refine wpl_row rfl 29 (.tmp 4) rfl _ rfl #[.int .i64 M.places, .int .i64 M.any.a0, .int .i64 M.any.a1, .int .i64 M.any.a2, .int .i64 M.any.a3, .int .i64 M.any.a4, .int .i64 M.any.a5, .bool M.any.i, .bool M.any.s, .int .i64 M.mw, .int .i64 M.ms, .int .i64 M.mc, vF, vS] 14 HX2.out Tryz.rowMet rfl ?_; simp only [Act.put]; clear tok) | (have _t := tok2; refine wpl_row rfl 31 (.tmp 5) rfl _ rfl #[.int .i64 lw, .int .i64 ls, .int .i64 lc, .bool li, .bool lb] 5 HI2.out Tryz.rowMin rfl ?_; simp only [Act.put]; clear tok2) | (have _t := tok3; refine wpl_row rfl 37 (.tmp 7) rfl _ rfl #[vR, .int .i64 F.dep, .int .i64 F.fuel, .int .i64 F.burn, .int .i64 F.res] 5 HF2.out Tryz.rowFli rfl ?_; simp only [Act.put]; clear tok3))
        refine (HBE.out _ (HM.out.below (bthen HB.out K0.out.b)) (HL.out.below (bthen HB.out K0.out.b)) (HR.out.below (bthen HB.out K0.out.b))).mono ?_
        rintro e w4 ⟨rfl, hb4⟩
        have nK := Lib.hid (K0.out.below (bal hb4 (.cells #[.int .i64 (xp : Int), .int .i64 xt, .bool xb] 47)))
        clear hb4 K0 HX2 HI2 HF2
        have hw4 : w1.heap.size ≤ w4.heap.size + 1 := by have := nK.out.b.size; simp at this; omega
        go_wp2_with (first | (at_builtin; refine wpl_appH rfl _ _ rfl w1.heap.size u11 l.length _ rfl (ownsRow_below nK.out.o (bal (RowKit.Below.refl _ _) _)) (w4.heap.size + 1) (xp : Int) xt xb rfl ?aZ ?cZ ?dZ (by omega) ?bZ ?_))
        (try case aZ => exact (Blk.newA (g := w4.heap.size + 1) _ _ _ (by simp)).cell 0)
        (try case cZ => exact (Blk.newA (g := w4.heap.size + 1) _ _ _ (by simp)).cell 1)
        (try case dZ => exact (Blk.newA (g := w4.heap.size + 1) _ _ _ (by simp)).cell 2)
        case bZ => simp; omega
        intro v' w6 ho hg
        have nK2 := Lib.hid (HvK.app (x := ⟨xp, xt, xb⟩) (nK.out.below (bal (RowKit.Below.refl _ _) _)) ho.out hg.out)
        go_wp2_with (fail)
        go_roundg (nn - (j + 1))
        case measure => omega
        case rel => exact ⟨j + 1, l ++ [⟨xp, xt, xb⟩], by first | rfl | go_num | (congr 1; have := HTE.out; omega), by omega, by omega, by simp; omega, Lib.hid (by rw [show nn - (j + 1) = i by omega, show F.dep + ((j + 1 : Nat) : Int) = t + 1 by have := HTE.out; omega]; exact HN.out), nK2⟩
    obtain rfl : nn = j := by omega
    rw [Nat.sub_self] at hN
    unfold prfR at hN
    subst hN
    have hre := HRES.out
    rw [if_pos rfl] at hre
    subst hre
    have hge : ¬ t ≤ F.arr (lgT S n) := by omega
    clear hte
    go_wp2_with (fail)
    go_ret2
    exact ⟨_, rfl, bthen HB.out K0.out.b, SlH.of_owns K0.out.o⟩
end Go.Proofs.YtbgkbdhdkpjcdaaGreat
