/- Contracts: checkAll, end, checkTick of the reference of routes; Havens of the program; sameHavens, Long of the laws. -/
import Derived.Test.YtbgkbdhdkpjcdaaGreatNbC
import Derived.Test.YtbgkbdhdkpjcdaaGreatJAR
import Derived.Test.YtbgkbdhdkpjcdaaGreatRwC
set_option linter.all false
namespace Go.Proofs.YtbgkbdhdkpjcdaaGreat
open Go Go.RowKit Go.Proofs
set_option maxRecDepth 100000
set_option maxHeartbeats 8000000
theorem nfM_min {M : MetD} {lw ls lc : Int} {S : Tab} {n : Nat} {F : FliD} : nfE (netME M lw ls lc S n) M S n F = if minE M lw ls lc = 0 then nfE (netE M S n) M S n F else minE M lw ls lc := by
  cases hb : M.bad
  · have he : M.err = 0 := by unfold MetD.err; rw [hb]; rfl
    have hp := (MetD.ok_of hb).places
    by_cases hm : minE M lw ls lc = 0
    · have ho : opE M lw ls lc 0 0 = 0 := by
        unfold opE
        rw [if_pos hm]
        unfold atE
        have e1 : inB 0 0 (M.places - 1) = true := inB_iff.2 (by omega)
        rw [hb, e1]
        rfl
      have e : netME M lw ls lc S n = netE M S n := by unfold netME netE; rw [he, if_pos rfl, if_pos rfl, if_pos ho]
      rw [e, if_pos hm]
    · have ho : opE M lw ls lc 0 0 = minE M lw ls lc := by unfold opE; rw [if_neg hm]
      have e : netME M lw ls lc S n = minE M lw ls lc := by unfold netME; rw [he, if_pos rfl, ho, if_neg hm]
      rw [e, if_neg hm]
      unfold nfE
      rw [if_neg hm]
  · have he : M.err = 40 := by unfold MetD.err; rw [hb]; rfl
    have hm : minE M lw ls lc = 40 := by unfold minE; rw [hb]; rfl
    have e : netME M lw ls lc S n = 40 := by unfold netME; rw [he, if_neg (by decide)]
    rw [e, hm, if_neg (by decide)]
    rfl
theorem r5checkAll_c (M : MetD) (vF vS : Value) (lw ls lc : Int) (li lb : Bool) (A : Option Addr) (n c : Nat) (S : Tab) (F : FliD) (vR : Value) (w : World) (hM : MetAt w vF vS M) (hc1 : n ≤ c) (hc2 : c ≤ 9223372036854775807) (hL : RecsAt w A n 3 (nV S)) (hR : SlI w vR F.m F.R) :
   Calls Tryz.prog 95 #[.agg #[.int .i64 M.places, .int .i64 M.any.a0, .int .i64 M.any.a1, .int .i64 M.any.a2, .int .i64 M.any.a3, .int .i64 M.any.a4, .int .i64 M.any.a5, .bool M.any.i, .bool M.any.s, .int .i64 M.mw, .int .i64 M.ms, .int .i64 M.mc, vF, vS], .agg #[.int .i64 lw, .int .i64 ls, .int .i64 lc, .bool li, .bool lb], .slice A n c, .agg #[vR, .int .i64 F.dep, .int .i64 F.fuel, .int .i64 F.burn, .int .i64 F.res]] w fun e w' => e = .returned (.int .i64 (nfE (netME M lw ls lc S n) M S n F)) ∧ RowKit.Below w.heap.size w w' := by
  have HM := Lib.hid hM
  have HL := Lib.hid hL
  have HR := Lib.hid hR
  clear hM hL hR
  have HCM := Lib.hid (fun w1 h => rw_CheckMinima_c M vF vS lw ls lc li lb w1 h)
  have HCK := Lib.hid (fun w1 h1 h2 h3 => r5Check_c M vF vS A n c S F vR w1 h1 hc1 hc2 h2 h3)
  rw [nfM_min]
  generalize nfE (netE M S n) M S n F = NE at *
  generalize minE M lw ls lc = ME at *
  have tok : True := trivial
  have tok2 : True := trivial
  by_cases h0 : ME = 0
  case neg =>
    rw [if_neg h0]
    have hz : (ME != 0) = true := by simpa using h0
    clear h0
    go_enter Tryz.func95, Tryz.ntmps95
    go_wp2_with (fail)
    have _x := frm3 w #[.int .i64 M.places, .int .i64 M.any.a0, .int .i64 M.any.a1, .int .i64 M.any.a2, .int .i64 M.any.a3, .int .i64 M.any.a4, .int .i64 M.any.a5, .bool M.any.i, .bool M.any.s, .int .i64 M.mw, .int .i64 M.ms, .int .i64 M.mc, vF, vS] 29 #[.int .i64 lw, .int .i64 ls, .int .i64 lc, .bool li, .bool lb] 31 #[vR, .int .i64 F.dep, .int .i64 F.fuel, .int .i64 F.burn, .int .i64 F.res] 37
    have HX := Lib.hid _x.1
    have HI := Lib.hid _x.2.1
    have HF := Lib.hid _x.2.2.1
    have HB := Lib.hid _x.2.2.2.1
    have zW := _x.2.2.2.2
    clear _x
    generalize World.alloc (World.alloc (World.alloc w _) _) _ = W at *
    go_wp2_with (first | (have _t := tok; refine wpl_row rfl 29 (.tmp 4) rfl _ rfl #[.int .i64 M.places, .int .i64 M.any.a0, .int .i64 M.any.a1, .int .i64 M.any.a2, .int .i64 M.any.a3, .int .i64 M.any.a4, .int .i64 M.any.a5, .bool M.any.i, .bool M.any.s, .int .i64 M.mw, .int .i64 M.ms, .int .i64 M.mc, vF, vS] 14 HX.out Tryz.rowMet rfl ?_; simp only [Act.put]; clear tok) | (have _t := tok2; refine wpl_row rfl 31 (.tmp 5) rfl _ rfl #[.int .i64 lw, .int .i64 ls, .int .i64 lc, .bool li, .bool lb] 5 HI.out Tryz.rowMin rfl ?_; simp only [Act.put]; clear tok2) | (go_at_call 17; (with_reducible refine (HCM.out _ (HM.out.below HB.out)).mono ?_); rintro e w1 ⟨rfl, hb1⟩; have nHX := Lib.hid (HX.out.below hb1); have nHI := Lib.hid (HI.out.below hb1); have nHF := Lib.hid (HF.out.below hb1); have nHB := Lib.hid (bthen HB.out hb1); have zz1 := hb1.size; clear HX HI HF HB hb1; have HX := nHX; have HI := nHI; have HF := nHF; have HB := nHB; clear nHX nHI nHF nHB))
    go_ret
    exact ⟨rfl, HB.out⟩
  subst h0
  rw [if_pos rfl]
  have tok3 : True := trivial
  have tok4 : True := trivial
  go_enter Tryz.func95, Tryz.ntmps95
  go_wp2_with (fail)
  have _x := frm3 w #[.int .i64 M.places, .int .i64 M.any.a0, .int .i64 M.any.a1, .int .i64 M.any.a2, .int .i64 M.any.a3, .int .i64 M.any.a4, .int .i64 M.any.a5, .bool M.any.i, .bool M.any.s, .int .i64 M.mw, .int .i64 M.ms, .int .i64 M.mc, vF, vS] 29 #[.int .i64 lw, .int .i64 ls, .int .i64 lc, .bool li, .bool lb] 31 #[vR, .int .i64 F.dep, .int .i64 F.fuel, .int .i64 F.burn, .int .i64 F.res] 37
  have HX := Lib.hid _x.1
  have HI := Lib.hid _x.2.1
  have HF := Lib.hid _x.2.2.1
  have HB := Lib.hid _x.2.2.2.1
  have zW := _x.2.2.2.2
  clear _x
  generalize World.alloc (World.alloc (World.alloc w _) _) _ = W at *
  go_wp2_with (first | (have _t := tok; refine wpl_row rfl 29 (.tmp 4) rfl _ rfl #[.int .i64 M.places, .int .i64 M.any.a0, .int .i64 M.any.a1, .int .i64 M.any.a2, .int .i64 M.any.a3, .int .i64 M.any.a4, .int .i64 M.any.a5, .bool M.any.i, .bool M.any.s, .int .i64 M.mw, .int .i64 M.ms, .int .i64 M.mc, vF, vS] 14 HX.out Tryz.rowMet rfl ?_; simp only [Act.put]; clear tok) | (have _t := tok3; refine wpl_row rfl 29 (.tmp 4) rfl _ rfl #[.int .i64 M.places, .int .i64 M.any.a0, .int .i64 M.any.a1, .int .i64 M.any.a2, .int .i64 M.any.a3, .int .i64 M.any.a4, .int .i64 M.any.a5, .bool M.any.i, .bool M.any.s, .int .i64 M.mw, .int .i64 M.ms, .int .i64 M.mc, vF, vS] 14 HX.out Tryz.rowMet rfl ?_; simp only [Act.put]; clear tok3) | (have _t := tok2; refine wpl_row rfl 31 (.tmp 5) rfl _ rfl #[.int .i64 lw, .int .i64 ls, .int .i64 lc, .bool li, .bool lb] 5 HI.out Tryz.rowMin rfl ?_; simp only [Act.put]; clear tok2) | (have _t := tok4; refine wpl_row rfl 37 (.tmp 7) rfl _ rfl #[vR, .int .i64 F.dep, .int .i64 F.fuel, .int .i64 F.burn, .int .i64 F.res] 5 HF.out Tryz.rowFli rfl ?_; simp only [Act.put]; clear tok4) | (go_at_call 17; (with_reducible refine (HCM.out _ (HM.out.below HB.out)).mono ?_); rintro e w1 ⟨rfl, hb1⟩; have nHX := Lib.hid (HX.out.below hb1); have nHI := Lib.hid (HI.out.below hb1); have nHF := Lib.hid (HF.out.below hb1); have nHB := Lib.hid (bthen HB.out hb1); have zz1 := hb1.size; clear HX HI HF HB hb1; have HX := nHX; have HI := nHI; have HF := nHF; have HB := nHB; clear nHX nHI nHF nHB) | (go_at_call 18; (with_reducible refine (HCK.out _ (HM.out.below HB.out) (HL.out.below HB.out) (HR.out.below HB.out)).mono ?_); rintro e w1 ⟨rfl, hb1⟩; have nHX := Lib.hid (HX.out.below hb1); have nHI := Lib.hid (HI.out.below hb1); have nHF := Lib.hid (HF.out.below hb1); have nHB := Lib.hid (bthen HB.out hb1); have zz1 := hb1.size; clear HX HI HF HB hb1; have HX := nHX; have HI := nHI; have HF := nHF; have HB := nHB; clear nHX nHI nHF nHB))
  go_ret
  exact ⟨rfl, HB.out⟩
theorem r5end_c (A : Option Addr) (n c : Nat) (S : Tab) (P : Nat) (F : FliD) (vR : Value) (w : World) (hc1 : n ≤ c) (hc2 : c ≤ 9223372036854775807) (hL : RecsAt w A n 3 (nV S)) (hR : SlI w vR F.m F.R) (hN : NetOk P S n) (hok : F.ok P (lgT S n)) :
   Calls Tryz.prog 96 #[.slice A n c, .agg #[vR, .int .i64 F.dep, .int .i64 F.fuel, .int .i64 F.burn, .int .i64 F.res]] w fun e w' => e = .returned (.int .i64 (F.arr (lgT S n))) ∧ RowKit.Below w.heap.size w w' := by
  obtain ⟨hnu, hfl, hend⟩ := hok
  obtain ⟨hm, hd, -⟩ := FliD.nums_iff.1 hnu
  have hlb := FliD.legB_iff.2 hfl.2
  have hflc := fun w1 h1 h2 => r5flown_c A n c S P F vR w1 hc1 hc2 h1 h2 hN hm hd hfl.1
  rw [hlb] at hflc
  have HFL := Lib.hid hflc
  have HL := Lib.hid hL
  have HR := Lib.hid hR
  unfold FliD.arr
  obtain ⟨m, hme⟩ : ∃ m, m = F.m - 1 := ⟨_, rfl⟩
  rw [← hme]
  clear hL hR hflc hlb hnu hfl hend hd hN
  go_enter Tryz.func96, Tryz.ntmps96
  go_wp2_with (fail)
  have _x := frm1 w #[vR, .int .i64 F.dep, .int .i64 F.fuel, .int .i64 F.burn, .int .i64 F.res] 37
  have HF := Lib.hid _x.1
  have HB := Lib.hid _x.2.1
  have zW := _x.2.2
  clear _x
  generalize World.alloc w _ = W at *
  go_wp2_with (refine wpl_row rfl 37 (.tmp 3) rfl _ rfl #[vR, .int .i64 F.dep, .int .i64 F.fuel, .int .i64 F.burn, .int .i64 F.res] 5 HF.out Tryz.rowFli rfl ?_; simp only [Act.put])
  refine (HFL.out _ (HL.out.below HB.out) (HR.out.below HB.out)).mono ?_
  rintro e w2 ⟨v, rfl, hb2, hv⟩
  obtain ⟨A2, c2, rfl, e2, e3, e4⟩ := hv (by trivial)
  obtain ⟨b2, o2, rfl, hbb, hc2⟩ := e4 (by omega)
  have cl : w2.cell? ⟨b2, o2 + m, none⟩ = some (.int .i64 (F.at_ (lgT S n) m)) := by have := hc2 m (by omega) 0 (by omega); rw [Nat.mul_one, Nat.add_zero] at this; exact this
  have hmz : IntKind.i64.wrap ((F.m : Int) - 1) = (m : Int) := by rw [IntKind.wrap_i64]; omega
  have hmz2 : (m : Int) < (F.m : Int) := by omega
  have HB2 := Lib.hid (bthen HB.out hb2)
  clear hc2 e4 hme hv hb2 HF HB
  go_wp2_with (fail)
  go_ret
  exact ⟨rfl, HB2.out⟩
theorem r5checkTick_c (M : MetD) (vF vS : Value) (lw ls lc : Int) (li lb : Bool) (A : Option Addr) (n c : Nat) (S : Tab) (F : FliD) (vR : Value) (t : Int) (w : World) (hM : MetAt w vF vS M) (hc1 : n ≤ c) (hc2 : c ≤ 9223372036854775807) (hL : RecsAt w A n 3 (nV S)) (hR : SlI w vR F.m F.R) :
   Calls Tryz.prog 82 #[.agg #[.int .i64 M.places, .int .i64 M.any.a0, .int .i64 M.any.a1, .int .i64 M.any.a2, .int .i64 M.any.a3, .int .i64 M.any.a4, .int .i64 M.any.a5, .bool M.any.i, .bool M.any.s, .int .i64 M.mw, .int .i64 M.ms, .int .i64 M.mc, vF, vS], .agg #[.int .i64 lw, .int .i64 ls, .int .i64 lc, .bool li, .bool lb], .slice A n c, .agg #[vR, .int .i64 F.dep, .int .i64 F.fuel, .int .i64 F.burn, .int .i64 F.res], .int .i64 t] w fun e w' => e = .returned (.int .i64 (tkE (nfE (netME M lw ls lc S n) M S n F) F (lgT S n) t)) ∧ RowKit.Below w.heap.size w w' := by
  have HM := Lib.hid hM
  have HL := Lib.hid hL
  have HR := Lib.hid hR
  clear hM hL hR
  have HCA := Lib.hid (fun w1 h1 h2 h3 => r5checkAll_c M vF vS lw ls lc li lb A n c S F vR w1 h1 hc1 hc2 h2 h3)
  have tok : True := trivial
  have tok2 : True := trivial
  have tok3 : True := trivial
  unfold tkE
  by_cases h0 : nfE (netME M lw ls lc S n) M S n F = 0
  case neg =>
    rw [if_neg h0]
    generalize nfE (netME M lw ls lc S n) M S n F = NE at *
    have hz : (NE != 0) = true := by simpa using h0
    clear h0
    go_enter Tryz.func82, Tryz.ntmps82
    go_wp2_with (fail)
    have _x := frm3 w #[.int .i64 M.places, .int .i64 M.any.a0, .int .i64 M.any.a1, .int .i64 M.any.a2, .int .i64 M.any.a3, .int .i64 M.any.a4, .int .i64 M.any.a5, .bool M.any.i, .bool M.any.s, .int .i64 M.mw, .int .i64 M.ms, .int .i64 M.mc, vF, vS] 29 #[.int .i64 lw, .int .i64 ls, .int .i64 lc, .bool li, .bool lb] 31 #[vR, .int .i64 F.dep, .int .i64 F.fuel, .int .i64 F.burn, .int .i64 F.res] 37
    have HX := Lib.hid _x.1
    have HI := Lib.hid _x.2.1
    have HF := Lib.hid _x.2.2.1
    have HB := Lib.hid _x.2.2.2.1
    have zW := _x.2.2.2.2
    clear _x
    generalize World.alloc (World.alloc (World.alloc w _) _) _ = W at *
    go_wp2_with (first | (have _t := tok; refine wpl_row rfl 29 (.tmp 5) rfl _ rfl #[.int .i64 M.places, .int .i64 M.any.a0, .int .i64 M.any.a1, .int .i64 M.any.a2, .int .i64 M.any.a3, .int .i64 M.any.a4, .int .i64 M.any.a5, .bool M.any.i, .bool M.any.s, .int .i64 M.mw, .int .i64 M.ms, .int .i64 M.mc, vF, vS] 14 HX.out Tryz.rowMet rfl ?_; simp only [Act.put]; clear tok) | (have _t := tok2; refine wpl_row rfl 31 (.tmp 6) rfl _ rfl #[.int .i64 lw, .int .i64 ls, .int .i64 lc, .bool li, .bool lb] 5 HI.out Tryz.rowMin rfl ?_; simp only [Act.put]; clear tok2) | (have _t := tok3; refine wpl_row rfl 37 (.tmp 8) rfl _ rfl #[vR, .int .i64 F.dep, .int .i64 F.fuel, .int .i64 F.burn, .int .i64 F.res] 5 HF.out Tryz.rowFli rfl ?_; simp only [Act.put]; clear tok3) | (go_at_call 95; (with_reducible refine (HCA.out _ (HM.out.below HB.out) (HL.out.below HB.out) (HR.out.below HB.out)).mono ?_); rintro e w1 ⟨rfl, hb1⟩; have nHX := Lib.hid (HX.out.below hb1); have nHI := Lib.hid (HI.out.below hb1); have nHF := Lib.hid (HF.out.below hb1); have nHB := Lib.hid (bthen HB.out hb1); have zz1 := hb1.size; clear HX HI HF HB hb1; have HX := nHX; have HI := nHI; have HF := nHF; have HB := nHB; clear nHX nHI nHF nHB))
    go_ret
    exact ⟨rfl, HB.out⟩
  rw [if_pos h0]
  obtain ⟨f3, f4, f5, f6, f7⟩ := nfM_ok h0
  rw [h0] at HCA
  have HEN := Lib.hid (fun w1 h2 h3 => r5end_c A n c S M.places.toNat F vR w1 hc1 hc2 h2 h3 f6 f7)
  have hwi := fun w1 => r5within_c t F.dep (F.arr (lgT S n)) w1
  clear f3 f4 f5 f6 f7 h0
  cases hin : inB t F.dep (F.arr (lgT S n))
  all_goals (rw [hin] at hwi; have HWI := Lib.hid hwi; clear hwi hin)
  · go_enter Tryz.func82, Tryz.ntmps82
    go_wp2_with (fail)
    have _x := frm3 w #[.int .i64 M.places, .int .i64 M.any.a0, .int .i64 M.any.a1, .int .i64 M.any.a2, .int .i64 M.any.a3, .int .i64 M.any.a4, .int .i64 M.any.a5, .bool M.any.i, .bool M.any.s, .int .i64 M.mw, .int .i64 M.ms, .int .i64 M.mc, vF, vS] 29 #[.int .i64 lw, .int .i64 ls, .int .i64 lc, .bool li, .bool lb] 31 #[vR, .int .i64 F.dep, .int .i64 F.fuel, .int .i64 F.burn, .int .i64 F.res] 37
    have HX := Lib.hid _x.1
    have HI := Lib.hid _x.2.1
    have HF := Lib.hid _x.2.2.1
    have HB := Lib.hid _x.2.2.2.1
    have zW := _x.2.2.2.2
    clear _x
    generalize World.alloc (World.alloc (World.alloc w _) _) _ = W at *
    go_wp2_with (first | (have _t := tok; refine wpl_row rfl 29 (.tmp 5) rfl _ rfl #[.int .i64 M.places, .int .i64 M.any.a0, .int .i64 M.any.a1, .int .i64 M.any.a2, .int .i64 M.any.a3, .int .i64 M.any.a4, .int .i64 M.any.a5, .bool M.any.i, .bool M.any.s, .int .i64 M.mw, .int .i64 M.ms, .int .i64 M.mc, vF, vS] 14 HX.out Tryz.rowMet rfl ?_; simp only [Act.put]; clear tok) | (have _t := tok2; refine wpl_row rfl 31 (.tmp 6) rfl _ rfl #[.int .i64 lw, .int .i64 ls, .int .i64 lc, .bool li, .bool lb] 5 HI.out Tryz.rowMin rfl ?_; simp only [Act.put]; clear tok2) | (have _t := tok3; refine wpl_row rfl 37 (.tmp 8) rfl _ rfl #[vR, .int .i64 F.dep, .int .i64 F.fuel, .int .i64 F.burn, .int .i64 F.res] 5 HF.out Tryz.rowFli rfl ?_; simp only [Act.put]; clear tok3) | (go_at_call 95; (with_reducible refine (HCA.out _ (HM.out.below HB.out) (HL.out.below HB.out) (HR.out.below HB.out)).mono ?_); rintro e w1 ⟨rfl, hb1⟩; have nHX := Lib.hid (HX.out.below hb1); have nHI := Lib.hid (HI.out.below hb1); have nHF := Lib.hid (HF.out.below hb1); have nHB := Lib.hid (bthen HB.out hb1); have zz1 := hb1.size; clear HX HI HF HB hb1; have HX := nHX; have HI := nHI; have HF := nHF; have HB := nHB; clear nHX nHI nHF nHB))
    have x1 : ∀ r : After w1, r.w.cell? ⟨w.heap.size + 1 + 1, 1, none⟩ = some (.int .i64 F.dep) := fun r => (HF.out.below r.below).cell 1
    have hF2 := Lib.hid (fun r : After w1 => HF.out.below r.below)
    have HE2 := Lib.hid (fun r : After w1 => HEN.out r.w ((HL.out.below HB.out).below r.below) ((HR.out.below HB.out).below r.below))
    refine wp_region_after (by kernel_rfl) (by kernel_rfl) ?_
    iterate 4 (go_big_quiet_step (fail))
    refine wpq_row rfl 37 _ rfl (w.heap.size + 1 + 1) rfl #[vR, .int .i64 F.dep, .int .i64 F.fuel, .int .i64 F.burn, .int .i64 F.res] 5 (fun _ hw => by obtain ⟨r, rfl⟩ := hw; exact hF2.out r) Tryz.rowFli rfl ?_; simp only [Act.put, List.setIfInBounds_toArray, List.set_cons_succ, List.set_cons_zero]
    go_big_quiet_step (first | (go_at_call 96; (with_reducible refine qafter (HE2.out _))))
    go_big_quiet_step (first | (go_at_call 84; (with_reducible refine qafter_same (HWI.out _))))
    go_big_quiet_step (fail)
    refine wpQuiet_nil ?_
    rintro W3 ⟨r3, hr3⟩
    have hb3 : RowKit.Below w1.heap.size w1 W3 := by rw [hr3]; exact r3.below
    clear hr3 r3 hF2 HE2 x1
    go_wp2_with (fail)
    all_goals go_ret
    all_goals exact ⟨rfl, bthen HB.out hb3⟩
  · go_enter Tryz.func82, Tryz.ntmps82
    go_wp2_with (fail)
    have _x := frm3 w #[.int .i64 M.places, .int .i64 M.any.a0, .int .i64 M.any.a1, .int .i64 M.any.a2, .int .i64 M.any.a3, .int .i64 M.any.a4, .int .i64 M.any.a5, .bool M.any.i, .bool M.any.s, .int .i64 M.mw, .int .i64 M.ms, .int .i64 M.mc, vF, vS] 29 #[.int .i64 lw, .int .i64 ls, .int .i64 lc, .bool li, .bool lb] 31 #[vR, .int .i64 F.dep, .int .i64 F.fuel, .int .i64 F.burn, .int .i64 F.res] 37
    have HX := Lib.hid _x.1
    have HI := Lib.hid _x.2.1
    have HF := Lib.hid _x.2.2.1
    have HB := Lib.hid _x.2.2.2.1
    have zW := _x.2.2.2.2
    clear _x
    generalize World.alloc (World.alloc (World.alloc w _) _) _ = W at *
    go_wp2_with (first | (have _t := tok; refine wpl_row rfl 29 (.tmp 5) rfl _ rfl #[.int .i64 M.places, .int .i64 M.any.a0, .int .i64 M.any.a1, .int .i64 M.any.a2, .int .i64 M.any.a3, .int .i64 M.any.a4, .int .i64 M.any.a5, .bool M.any.i, .bool M.any.s, .int .i64 M.mw, .int .i64 M.ms, .int .i64 M.mc, vF, vS] 14 HX.out Tryz.rowMet rfl ?_; simp only [Act.put]; clear tok) | (have _t := tok2; refine wpl_row rfl 31 (.tmp 6) rfl _ rfl #[.int .i64 lw, .int .i64 ls, .int .i64 lc, .bool li, .bool lb] 5 HI.out Tryz.rowMin rfl ?_; simp only [Act.put]; clear tok2) | (have _t := tok3; refine wpl_row rfl 37 (.tmp 8) rfl _ rfl #[vR, .int .i64 F.dep, .int .i64 F.fuel, .int .i64 F.burn, .int .i64 F.res] 5 HF.out Tryz.rowFli rfl ?_; simp only [Act.put]; clear tok3) | (go_at_call 95; (with_reducible refine (HCA.out _ (HM.out.below HB.out) (HL.out.below HB.out) (HR.out.below HB.out)).mono ?_); rintro e w1 ⟨rfl, hb1⟩; have nHX := Lib.hid (HX.out.below hb1); have nHI := Lib.hid (HI.out.below hb1); have nHF := Lib.hid (HF.out.below hb1); have nHB := Lib.hid (bthen HB.out hb1); have zz1 := hb1.size; clear HX HI HF HB hb1; have HX := nHX; have HI := nHI; have HF := nHF; have HB := nHB; clear nHX nHI nHF nHB))
    have x1 : ∀ r : After w1, r.w.cell? ⟨w.heap.size + 1 + 1, 1, none⟩ = some (.int .i64 F.dep) := fun r => (HF.out.below r.below).cell 1
    have hF2 := Lib.hid (fun r : After w1 => HF.out.below r.below)
    have HE2 := Lib.hid (fun r : After w1 => HEN.out r.w ((HL.out.below HB.out).below r.below) ((HR.out.below HB.out).below r.below))
    refine wp_region_after (by kernel_rfl) (by kernel_rfl) ?_
    iterate 4 (go_big_quiet_step (fail))
    refine wpq_row rfl 37 _ rfl (w.heap.size + 1 + 1) rfl #[vR, .int .i64 F.dep, .int .i64 F.fuel, .int .i64 F.burn, .int .i64 F.res] 5 (fun _ hw => by obtain ⟨r, rfl⟩ := hw; exact hF2.out r) Tryz.rowFli rfl ?_; simp only [Act.put, List.setIfInBounds_toArray, List.set_cons_succ, List.set_cons_zero]
    go_big_quiet_step (first | (go_at_call 96; (with_reducible refine qafter (HE2.out _))))
    go_big_quiet_step (first | (go_at_call 84; (with_reducible refine qafter_same (HWI.out _))))
    go_big_quiet_step (fail)
    refine wpQuiet_nil ?_
    rintro W3 ⟨r3, hr3⟩
    have hb3 : RowKit.Below w1.heap.size w1 W3 := by rw [hr3]; exact r3.below
    clear hr3 r3 hF2 HE2 x1
    go_wp2_with (fail)
    all_goals go_ret
    all_goals exact ⟨rfl, bthen HB.out hb3⟩
end Go.Proofs.YtbgkbdhdkpjcdaaGreat
