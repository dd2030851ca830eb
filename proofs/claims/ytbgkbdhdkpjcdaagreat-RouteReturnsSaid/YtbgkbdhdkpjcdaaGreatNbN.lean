/- Contract: NoReturn of the reference of routes. -/
import Derived.Test.YtbgkbdhdkpjcdaaGreatNbM
set_option linter.all false
namespace Go.Proofs.YtbgkbdhdkpjcdaaGreat
open Go Go.RowKit Go.Proofs
set_option maxRecDepth 100000
set_option maxHeartbeats 8000000
def rnrR (gF : Nat) (r l f : Value) (t : Int) (sl : Value) (bR oR p : Nat) (ra : Int) (rb : Bool) : Nat → Value → World → Prop
  | 0, v, _ => v = r
  | 1, v, _ => v = l
  | 2, v, _ => v = f
  | 3, v, _ => v = .int .i64 t
  | 4, v, _ => v = .pointer (some ⟨gF, 0, none⟩)
  | 5, v, _ => v = sl
  | 6, v, _ => v = .pointer (some ⟨bR, oR, none⟩)
  | 7, v, _ => v = .int .i64 (p : Int)
  | 8, v, _ => v = .tuple #[.int .i64 ra, .bool rb]
  | 9, v, _ => v = .tuple #[.int .i64 ra, .bool rb]
  | 10, v, _ => v = .int .i64 ra
  | 11, v, _ => v = .bool rb
  | _, _, _ => True
theorem rnrR_below {gF : Nat} {r l f : Value} {t : Int} {sl : Value} {bR oR p : Nat} {ra : Int} {rb : Bool} (k : Nat) (v : Value) (w w' : World) (hb : Below w.heap.size w w') (h : rnrR gF r l f t sl bR oR p ra rb k v w) : rnrR gF r l f t sl bR oR p ra rb k v w' := by
  unfold rnrR at *
  split at h <;> first | exact h
theorem r5NoReturn_c (M : MetD) (vF vS : Value) (A : Option Addr) (n c : Nat) (S : Tab) (F : FliD) (vR : Value) (w : World) (hM : MetAt w vF vS M) (hc1 : n ≤ c) (hc2 : c ≤ 9223372036854775807) (hL : RecsAt w A n 3 (nV S)) (hR : SlI w vR F.m F.R) :
   Calls Tryz.prog 46 #[.agg #[.int .i64 M.places, .int .i64 M.any.a0, .int .i64 M.any.a1, .int .i64 M.any.a2, .int .i64 M.any.a3, .int .i64 M.any.a4, .int .i64 M.any.a5, .bool M.any.i, .bool M.any.s, .int .i64 M.mw, .int .i64 M.ms, .int .i64 M.mc, vF, vS], .slice A n c, .agg #[vR, .int .i64 F.dep, .int .i64 F.fuel, .int .i64 F.burn, .int .i64 F.res]] w fun e w' => e = .returned (.tuple #[.int .i64 (norE (nfE (netE M S n) M S n F) S n M.places.toNat F).1, .int .i64 (norE (nfE (netE M S n) M S n F) S n M.places.toNat F).2]) ∧ RowKit.Below w.heap.size w w' := by
  have HM := Lib.hid hM
  have HL := Lib.hid hL
  have HR := Lib.hid hR
  have HCK := Lib.hid (fun w1 h1 h2 h3 => r5Check_c M vF vS A n c S F vR w1 h1 hc1 hc2 h2 h3)
  have tok : True := trivial
  have tok2 : True := trivial
  have tok3 : True := trivial
  have hok := fun h => nfN_ok (M := M) (S := S) (n := n) (F := F) h
  generalize nfE (netE M S n) M S n F = NE at *
  unfold norE
  by_cases h0 : NE = 0
  case neg =>
    rw [if_neg h0]
    have hz : (NE != 0) = true := by simpa using h0
    clear hM hL hR h0 hok
    go_enter Tryz.func46, Tryz.ntmps46
    go_wp2_with (fail)
    have _x := frm2 w #[.int .i64 M.places, .int .i64 M.any.a0, .int .i64 M.any.a1, .int .i64 M.any.a2, .int .i64 M.any.a3, .int .i64 M.any.a4, .int .i64 M.any.a5, .bool M.any.i, .bool M.any.s, .int .i64 M.mw, .int .i64 M.ms, .int .i64 M.mc, vF, vS] 29 #[vR, .int .i64 F.dep, .int .i64 F.fuel, .int .i64 F.burn, .int .i64 F.res] 37
    have HX := Lib.hid _x.1
    have HF := Lib.hid _x.2.1
    have HB := Lib.hid _x.2.2.1
    have zW := _x.2.2.2
    clear _x
    generalize World.alloc (World.alloc w _) _ = W at *
    go_wp2_with (first | (have _t := tok; refine wpl_row rfl 29 (.tmp 3) rfl _ rfl #[.int .i64 M.places, .int .i64 M.any.a0, .int .i64 M.any.a1, .int .i64 M.any.a2, .int .i64 M.any.a3, .int .i64 M.any.a4, .int .i64 M.any.a5, .bool M.any.i, .bool M.any.s, .int .i64 M.mw, .int .i64 M.ms, .int .i64 M.mc, vF, vS] 14 HX.out Tryz.rowMet rfl ?_; simp only [Act.put]; clear tok) | (have _t := tok2; refine wpl_row rfl 37 (.tmp 5) rfl _ rfl #[vR, .int .i64 F.dep, .int .i64 F.fuel, .int .i64 F.burn, .int .i64 F.res] 5 HF.out Tryz.rowFli rfl ?_; simp only [Act.put]; clear tok2) | (go_at_call 18; (with_reducible refine (HCK.out _ (HM.out.below HB.out) (HL.out.below HB.out) (HR.out.below HB.out)).mono ?_); rintro e w1 ⟨rfl, hb1⟩; have nHX := Lib.hid (HX.out.below hb1); have nHF := Lib.hid (HF.out.below hb1); have nHB := Lib.hid (bthen HB.out hb1); have zz1 := hb1.size; clear HX HF HB hb1; have HX := nHX; have HF := nHF; have HB := nHB; clear nHX nHF nHB))
    go_ret2
    exact ⟨rfl, HB.out⟩
  subst h0
  rw [if_pos rfl]
  obtain ⟨f3, f4, f5, f6, f7⟩ := hok rfl
  have hti := timT_in f6 f4.2
  have hjo := timT_joined f6
  have hdg := fun i hi => (timT_tri f6).dg i hi
  have hnu := f7.1
  have hn8 := FliD.nums_iff.1 hnu
  have hr0 := f7.2.1.1 0 (by omega)
  obtain ⟨p, hp⟩ : ∃ p : Nat, F.R 0 = p := Int.eq_ofNat_of_zero_le hr0.1
  have hpP : p < M.places.toNat := by omega
  have hdl := FliD.dep_le f7
  have HRS := Lib.hid (fun t h0 h1 => FliD.reach_is (t := t) f7 hjo hdg (k0 := 0) (by omega) h0 h1)
  have HRI := Lib.hid (fun t h0 h1 => FliD.reach_in (F := F) (t := t) (p := p) f7 f5 hti hpP h0 h1)
  have HRE := Lib.hid (fun t w1 h2 h3 h0 h1 => r5Reach_c M vF vS A n c S M.places.toNat F vR t p w1 hc1 hc2 h2 h3 f7 f6 f3 f4 hpP h0 h1)
  have HLA := Lib.hid (fun t ht w1 => r5lasts_c F vR t w1 hnu ht)
  have HEN := Lib.hid (fun w1 h2 h3 => r5end_c A n c S M.places.toNat F vR w1 hc1 hc2 h2 h3 f6 f7)
  obtain ⟨RES, hRES⟩ : ∃ q, q = norR (fun t => F.lasts (F.reach (lgT S n) (timT S n M.places.toNat) t (F.R 0).toNat).1) (F.ticks (lgT S n)) (F.arr (lgT S n)) := ⟨_, rfl⟩
  rw [← hRES]
  rw [hp, Int.toNat_natCast] at hRES HRS
  have har : F.at_ (lgT S n) (F.m - 1) = F.arr (lgT S n) := rfl
  have hend := f7.2.2
  rw [har] at HRS HRE HRI hend
  obtain ⟨nn, hnn⟩ : ∃ nn, nn = F.ticks (lgT S n) := ⟨_, rfl⟩
  rw [← hnn] at hRES
  have hnz : (nn : Int) = F.arr (lgT S n) - F.dep + 1 := by rw [hnn]; unfold FliD.ticks; omega
  have HRES := Lib.hid (show norR (fun t => F.lasts (F.reach (lgT S n) (timT S n M.places.toNat) t p).1) (nn - 0) (F.arr (lgT S n) - (0 : Nat)) = RES by rw [hRES, Nat.sub_zero]; simp)
  obtain ⟨AR, cR, hvR, r1, r2, r3⟩ := hR
  obtain ⟨bR, oR, rfl, hbR, hcR⟩ := r3 (by omega)
  have HVR := Lib.hid hvR
  have cr0 : w.cell? ⟨bR, oR, none⟩ = some (.int .i64 (p : Int)) := by rw [← hp]; have := hcR 0 (by omega) 0 (by omega); exact this
  have HCR := Lib.hid cr0
  have hm0 : (0 : Int) < (F.m : Int) := by omega
  have hd0 := hn8.2.1
  clear hM hL hvR r3 hcR cr0 hRES hnn har f3 f4 f5 f6 f7 hti hjo hdg hnu hr0 hok hpP
  go_enter Tryz.func46, Tryz.ntmps46
  go_wp2_with (fail)
  have _x := frm2 w #[.int .i64 M.places, .int .i64 M.any.a0, .int .i64 M.any.a1, .int .i64 M.any.a2, .int .i64 M.any.a3, .int .i64 M.any.a4, .int .i64 M.any.a5, .bool M.any.i, .bool M.any.s, .int .i64 M.mw, .int .i64 M.ms, .int .i64 M.mc, vF, vS] 29 #[vR, .int .i64 F.dep, .int .i64 F.fuel, .int .i64 F.burn, .int .i64 F.res] 37
  have HX := Lib.hid _x.1
  have HF := Lib.hid _x.2.1
  have HB := Lib.hid _x.2.2.1
  have zW := _x.2.2.2
  clear _x
  generalize World.alloc (World.alloc w _) _ = W at *
  go_wp2_with (first | (have _t := tok; refine wpl_row rfl 29 (.tmp 3) rfl _ rfl #[.int .i64 M.places, .int .i64 M.any.a0, .int .i64 M.any.a1, .int .i64 M.any.a2, .int .i64 M.any.a3, .int .i64 M.any.a4, .int .i64 M.any.a5, .bool M.any.i, .bool M.any.s, .int .i64 M.mw, .int .i64 M.ms, .int .i64 M.mc, vF, vS] 14 HX.out Tryz.rowMet rfl ?_; simp only [Act.put]; clear tok) | (have _t := tok2; refine wpl_row rfl 37 (.tmp 5) rfl _ rfl #[vR, .int .i64 F.dep, .int .i64 F.fuel, .int .i64 F.burn, .int .i64 F.res] 5 HF.out Tryz.rowFli rfl ?_; simp only [Act.put]; clear tok2) | (have _t := tok3; refine wpl_row rfl 37 (.tmp 5) rfl _ rfl #[vR, .int .i64 F.dep, .int .i64 F.fuel, .int .i64 F.burn, .int .i64 F.res] 5 HF.out Tryz.rowFli rfl ?_; simp only [Act.put]; clear tok3) | (go_at_call 18; (with_reducible refine (HCK.out _ (HM.out.below HB.out) (HL.out.below HB.out) (HR.out.below HB.out)).mono ?_); rintro e w1 ⟨rfl, hb1⟩; have nHX := Lib.hid (HX.out.below hb1); have nHF := Lib.hid (HF.out.below hb1); have nHB := Lib.hid (bthen HB.out hb1); have zz1 := hb1.size; clear HX HF HB hb1; have HX := nHX; have HF := nHF; have HB := nHB; clear nHX nHF nHB))
  refine (HEN.out _ (HL.out.below HB.out) (HR.out.below HB.out)).mono ?_
  rintro e w2 ⟨rfl, hb2⟩
  have nHX := Lib.hid (HX.out.below hb2)
  have nHF := Lib.hid (HF.out.below hb2)
  have nHB := Lib.hid (bthen HB.out hb2)
  clear HX HF HB hb2
  have HX := nHX
  have HF := nHF
  have HB := nHB
  clear nHX nHF nHB
  have HW0 := Lib.hid (RowKit.Below.refl w2.heap.size w2)
  go_wp2_with (fail)
  go_loopg [9] nn (fun gy iv wr => ∃ j : Nat, iv = .int .i64 (F.arr (lgT S n) - j) ∧ j ≤ nn ∧ nn - j ≤ gy ∧ Hid (norR (fun t => F.lasts (F.reach (lgT S n) (timT S n M.places.toNat) t p).1) (nn - j) (F.arr (lgT S n) - j) = RES) ∧ Hid (RowKit.Below w2.heap.size w2 wr))
  case atStart => exact ⟨0, by simp, Nat.zero_le _, Nat.sub_le _ _, HRES, HW0⟩
  case round =>
    clear HRES HW0
    obtain ⟨j, rfl, hj, hgy, HN, HW⟩ := hrel
    have y1 := (HF.out.below HW.out).cell 1
    simp only [List.getElem?_toArray, List.getElem?_cons_succ, List.getElem?_cons_zero] at y1
    obtain ⟨t, hte⟩ : ∃ t, t = F.arr (lgT S n) - (j : Int) := ⟨_, rfl⟩
    have HTE := Lib.hid hte
    have hN := HN.out
    rw [← hte] at hN ⊢
    by_cases hlt : j < nn
    case pos =>
      have h0 : F.dep ≤ t := by omega
      have h1 : t ≤ F.arr (lgT S n) := by omega
      have ht3 : -1000000 ≤ t ∧ t ≤ 1000000 := by omega
      have hre := fun w1 h2 h3 => HRE.out t w1 h2 h3 h0 h1
      have his := HRS.out t h0 h1
      have hri := HRI.out t h0 h1
      obtain ⟨i, hi⟩ : ∃ i, nn - j = i + 1 := ⟨nn - j - 1, by omega⟩
      rw [hi] at hN
      have hN2 : (if F.lasts (F.reach (lgT S n) (timT S n M.places.toNat) t p).1 = true then some t else norR (fun t => F.lasts (F.reach (lgT S n) (timT S n M.places.toNat) t p).1) i (t - 1)) = RES := hN
      have href : F.refR (lgT S n) (timT S n M.places.toNat) t p = ((F.reach (lgT S n) (timT S n M.places.toNat) t p).1, (F.reach (lgT S n) (timT S n M.places.toNat) t p).2.1) := if_pos his
      rw [href] at hre
      rcases hrv : F.reach (lgT S n) (timT S n M.places.toNat) t p with ⟨ra, rb, rc⟩
      rw [hrv] at hre hri hN2
      dsimp only at hre hri hN2
      have HRT := Lib.hid hre
      have HLA0 := fun w1 => HLA.out ra (by omega) w1
      clear hN hte hrv hre href his
      cases hl : F.lasts ra
      case false =>
        rw [hl] at HLA0 hN2
        rw [if_neg (by decide)] at hN2
        have HLB := Lib.hid HLA0
        have HN2 := Lib.hid hN2
        clear HLA0 hN2 hl
        go_wp2_with (fail)
        refine wp_region_specL 12 [11] (rnrR (w.heap.size + 1) (.agg #[.int .i64 M.places, .int .i64 M.any.a0, .int .i64 M.any.a1, .int .i64 M.any.a2, .int .i64 M.any.a3, .int .i64 M.any.a4, .int .i64 M.any.a5, .bool M.any.i, .bool M.any.s, .int .i64 M.mw, .int .i64 M.ms, .int .i64 M.mc, vF, vS]) (.slice A n c) (.agg #[vR, .int .i64 F.dep, .int .i64 F.fuel, .int .i64 F.burn, .int .i64 F.res]) t (.slice (some ⟨bR, oR, none⟩) F.m cR) bR oR p ra rb) (fun i => false) (by kernel_rfl) (by kernel_rfl) (by decide) rnrR_below ?hop1 ?htail1
        case hop1 =>
          simp only [List.take_succ_cons, List.take_zero, allOps]
          refine ⟨?_, ?_, ?_, ?_, ?_, ?_, ?_, ?_, ?_, ?_, ?_, ?_, trivial⟩
          all_goals intro u A w1 hA hb hd
          all_goals simp only [putAll, dstOf, List.getElem?_toArray, List.getElem?_cons_succ, List.getElem?_cons_zero, Option.bind_some, Option.bind, Act.put, List.setIfInBounds_toArray, List.set_cons_succ, List.set_cons_zero] at hA; subst hA
          all_goals have HB1 := Lib.hid hb
          · refine OpOk.now rfl ?_
            clear hb hd
            go_wp2_with (refine wpl_row rfl 29 (.tmp 3) rfl _ rfl #[.int .i64 M.places, .int .i64 M.any.a0, .int .i64 M.any.a1, .int .i64 M.any.a2, .int .i64 M.any.a3, .int .i64 M.any.a4, .int .i64 M.any.a5, .bool M.any.i, .bool M.any.s, .int .i64 M.mw, .int .i64 M.ms, .int .i64 M.mc, vF, vS] 14 ((HX.out.below HW.out).below HB1.out) Tryz.rowMet rfl ?_; simp only [Act.put])
            exact ⟨_, rfl, Below.refl _ _, rfl, fun h => absurd h (by decide)⟩
          · refine OpOk.now rfl ?_
            clear hb hd
            go_wp2
            exact ⟨_, rfl, Below.refl _ _, rfl, fun h => absurd h (by decide)⟩
          · refine OpOk.now rfl ?_
            clear hb hd
            go_wp2_with (refine wpl_row rfl 37 (.tmp 5) rfl _ rfl #[vR, .int .i64 F.dep, .int .i64 F.fuel, .int .i64 F.burn, .int .i64 F.res] 5 ((HF.out.below HW.out).below HB1.out) Tryz.rowFli rfl ?_; simp only [Act.put])
            exact ⟨_, rfl, Below.refl _ _, rfl, fun h => absurd h (by decide)⟩
          · refine OpOk.now rfl ?_
            clear hb hd
            go_wp2
            exact ⟨_, rfl, Below.refl _ _, rfl, fun h => absurd h (by decide)⟩
          · refine OpOk.now rfl ?_
            clear hb hd
            go_wp2
            exact ⟨_, rfl, Below.refl _ _, rfl, fun h => absurd h (by decide)⟩
          · refine OpOk.now rfl ?_
            have d4 : u 4 = _ := hd 4 (by omega) (by kernel_rfl)
            clear hb hd
            rw [d4]
            clear d4
            have y0 := ((HF.out.below HW.out).below HB1.out).cell 0
            simp only [List.getElem?_toArray, List.getElem?_cons_zero] at y0
            rw [HVR.out] at y0
            go_wp2
            exact ⟨_, rfl, Below.refl _ _, rfl, fun h => absurd h (by decide)⟩
          · refine OpOk.now rfl ?_
            have d5 : u 5 = _ := hd 5 (by omega) (by kernel_rfl)
            clear hb hd
            rw [d5]
            clear d5
            go_wp2
            exact ⟨_, rfl, Below.refl _ _, rfl, fun h => absurd h (by decide)⟩
          · refine OpOk.now rfl ?_
            have d6 : u 6 = _ := hd 6 (by omega) (by kernel_rfl)
            clear hb hd
            rw [d6]
            clear d6
            have cr : w1.cell? ⟨bR, oR, none⟩ = some (.int .i64 (p : Int)) := ((bthen (bthen HB.out HW.out) HB1.out).cell (p := ⟨bR, oR, none⟩) hbR).trans HCR.out
            go_wp2
            exact ⟨_, rfl, Below.refl _ _, rfl, fun h => absurd h (by decide)⟩
          · refine OpOk.now rfl ?_
            have d0 : u 0 = _ := hd 0 (by omega) (by kernel_rfl)
            have d1 : u 1 = _ := hd 1 (by omega) (by kernel_rfl)
            have d2 : u 2 = _ := hd 2 (by omega) (by kernel_rfl)
            have d3 : u 3 = _ := hd 3 (by omega) (by kernel_rfl)
            have d7 : u 7 = _ := hd 7 (by omega) (by kernel_rfl)
            clear hb hd
            rw [d0, d1, d2, d3, d7]
            clear d0 d1 d2 d3 d7
            go_wp2_with (go_at_call 55; (with_reducible refine (HRT.out _ (HL.out.below (bthen (bthen HB.out HW.out) HB1.out)) (HR.out.below (bthen (bthen HB.out HW.out) HB1.out))).mono ?_); rintro e w2 ⟨rfl, hb2⟩)
            exact ⟨_, rfl, hb2, rfl, fun h => absurd h (by decide)⟩
          · refine OpOk.now rfl ?_
            have d8 : u 8 = _ := hd 8 (by omega) (by kernel_rfl)
            clear hb hd
            rw [d8]
            clear d8
            go_wp2
            exact ⟨_, rfl, Below.refl _ _, rfl, fun h => absurd h (by decide)⟩
          · refine OpOk.now rfl ?_
            have d9 : u 9 = _ := hd 9 (by omega) (by kernel_rfl)
            clear hb hd
            rw [d9]
            clear d9
            go_wp2
            exact ⟨_, rfl, Below.refl _ _, rfl, fun h => absurd h (by decide)⟩
          · have d9 : u 9 = _ := hd 9 (by omega) (by kernel_rfl)
            clear hb hd
            rw [d9]
            clear d9
            refine OpOk.late rfl ?_
            exact ⟨_, yields_extract rfl _ _ rfl _ rfl _ rfl, rfl⟩
        case htail1 =>
          intro u A w1 hA hb hd hf
          simp only [putAll, dstOf, List.getElem?_toArray, List.getElem?_cons_succ, List.getElem?_cons_zero, Option.bind_some, Option.bind, Act.put, List.setIfInBounds_toArray, List.set_cons_succ, List.set_cons_zero] at hA; subst hA
          have e0 : u 0 = _ := hd 0 (by omega)
          have e1 : u 1 = _ := hd 1 (by omega)
          have e2 : u 2 = _ := hd 2 (by omega)
          have e3 : u 3 = _ := hd 3 (by omega)
          have e4 : u 4 = _ := hd 4 (by omega)
          have e5 : u 5 = _ := hd 5 (by omega)
          have e6 : u 6 = _ := hd 6 (by omega)
          have e7 : u 7 = _ := hd 7 (by omega)
          have e8 : u 8 = _ := hd 8 (by omega)
          have e9 : u 9 = _ := hd 9 (by omega)
          have e10 : u 10 = _ := hd 10 (by omega)
          have e11 : u 11 = _ := hd 11 (by omega)
          first | rw [e0, e1, e2, e3, e4, e5, e6, e7, e8, e9, e10, e11] | simp only [e0, e1, e2, e3, e4, e5, e6, e7, e8, e9, e10, e11]
          clear e0 e1 e2 e3 e4 e5 e6 e7 e8 e9 e10 e11
          clear hd hf
          have HW2 := Lib.hid (bthen HW.out hb)
          have HF2 := Lib.hid (HF.out.below HW2.out)
          clear hb
          have tokF : True := trivial
          go_wp2_with (fail)
          (try dsimp only [NoPanic])
          go_wp2_with (first | (have _t := tokF; refine wpl_row rfl 37 (.tmp 5) rfl _ rfl #[vR, .int .i64 F.dep, .int .i64 F.fuel, .int .i64 F.burn, .int .i64 F.res] 5 HF2.out Tryz.rowFli rfl ?_; simp only [Act.put]; clear tokF) | (go_at_call 99; refine (HLB.out _).mono ?_; rintro e w5 ⟨rfl, hb5⟩; have HW5 := Lib.hid (bthen HW2.out hb5); clear hb5))
          go_roundg (nn - (j + 1))
          case measure => omega
          case rel => exact ⟨j + 1, by first | rfl | go_num | (congr 1; have := HTE.out; omega), by omega, Nat.le_refl _, Lib.hid (by rw [show nn - (j + 1) = i by omega, show F.arr (lgT S n) - ((j + 1 : Nat) : Int) = t - 1 by have := HTE.out; omega]; exact HN2.out), HW5⟩
      case true =>
        rw [hl] at HLA0 hN2
        rw [if_pos rfl] at hN2
        have HLB := Lib.hid HLA0
        obtain rfl : RES = some t := hN2.symm
        clear HLA0 hN2 hl
        go_wp2_with (fail)
        refine wp_region_specL 12 [11] (rnrR (w.heap.size + 1) (.agg #[.int .i64 M.places, .int .i64 M.any.a0, .int .i64 M.any.a1, .int .i64 M.any.a2, .int .i64 M.any.a3, .int .i64 M.any.a4, .int .i64 M.any.a5, .bool M.any.i, .bool M.any.s, .int .i64 M.mw, .int .i64 M.ms, .int .i64 M.mc, vF, vS]) (.slice A n c) (.agg #[vR, .int .i64 F.dep, .int .i64 F.fuel, .int .i64 F.burn, .int .i64 F.res]) t (.slice (some ⟨bR, oR, none⟩) F.m cR) bR oR p ra rb) (fun i => false) (by kernel_rfl) (by kernel_rfl) (by decide) rnrR_below ?hop2 ?htail2
        case hop2 =>
          simp only [List.take_succ_cons, List.take_zero, allOps]
          refine ⟨?_, ?_, ?_, ?_, ?_, ?_, ?_, ?_, ?_, ?_, ?_, ?_, trivial⟩
          all_goals intro u A w1 hA hb hd
          all_goals simp only [putAll, dstOf, List.getElem?_toArray, List.getElem?_cons_succ, List.getElem?_cons_zero, Option.bind_some, Option.bind, Act.put, List.setIfInBounds_toArray, List.set_cons_succ, List.set_cons_zero] at hA; subst hA
          all_goals have HB1 := Lib.hid hb
          · refine OpOk.now rfl ?_
            clear hb hd
            go_wp2_with (refine wpl_row rfl 29 (.tmp 3) rfl _ rfl #[.int .i64 M.places, .int .i64 M.any.a0, .int .i64 M.any.a1, .int .i64 M.any.a2, .int .i64 M.any.a3, .int .i64 M.any.a4, .int .i64 M.any.a5, .bool M.any.i, .bool M.any.s, .int .i64 M.mw, .int .i64 M.ms, .int .i64 M.mc, vF, vS] 14 ((HX.out.below HW.out).below HB1.out) Tryz.rowMet rfl ?_; simp only [Act.put])
            exact ⟨_, rfl, Below.refl _ _, rfl, fun h => absurd h (by decide)⟩
          · refine OpOk.now rfl ?_
            clear hb hd
            go_wp2
            exact ⟨_, rfl, Below.refl _ _, rfl, fun h => absurd h (by decide)⟩
          · refine OpOk.now rfl ?_
            clear hb hd
            go_wp2_with (refine wpl_row rfl 37 (.tmp 5) rfl _ rfl #[vR, .int .i64 F.dep, .int .i64 F.fuel, .int .i64 F.burn, .int .i64 F.res] 5 ((HF.out.below HW.out).below HB1.out) Tryz.rowFli rfl ?_; simp only [Act.put])
            exact ⟨_, rfl, Below.refl _ _, rfl, fun h => absurd h (by decide)⟩
          · refine OpOk.now rfl ?_
            clear hb hd
            go_wp2
            exact ⟨_, rfl, Below.refl _ _, rfl, fun h => absurd h (by decide)⟩
          · refine OpOk.now rfl ?_
            clear hb hd
            go_wp2
            exact ⟨_, rfl, Below.refl _ _, rfl, fun h => absurd h (by decide)⟩
          · refine OpOk.now rfl ?_
            have d4 : u 4 = _ := hd 4 (by omega) (by kernel_rfl)
            clear hb hd
            rw [d4]
            clear d4
            have y0 := ((HF.out.below HW.out).below HB1.out).cell 0
            simp only [List.getElem?_toArray, List.getElem?_cons_zero] at y0
            rw [HVR.out] at y0
            go_wp2
            exact ⟨_, rfl, Below.refl _ _, rfl, fun h => absurd h (by decide)⟩
          · refine OpOk.now rfl ?_
            have d5 : u 5 = _ := hd 5 (by omega) (by kernel_rfl)
            clear hb hd
            rw [d5]
            clear d5
            go_wp2
            exact ⟨_, rfl, Below.refl _ _, rfl, fun h => absurd h (by decide)⟩
          · refine OpOk.now rfl ?_
            have d6 : u 6 = _ := hd 6 (by omega) (by kernel_rfl)
            clear hb hd
            rw [d6]
            clear d6
            have cr : w1.cell? ⟨bR, oR, none⟩ = some (.int .i64 (p : Int)) := ((bthen (bthen HB.out HW.out) HB1.out).cell (p := ⟨bR, oR, none⟩) hbR).trans HCR.out
            go_wp2
            exact ⟨_, rfl, Below.refl _ _, rfl, fun h => absurd h (by decide)⟩
          · refine OpOk.now rfl ?_
            have d0 : u 0 = _ := hd 0 (by omega) (by kernel_rfl)
            have d1 : u 1 = _ := hd 1 (by omega) (by kernel_rfl)
            have d2 : u 2 = _ := hd 2 (by omega) (by kernel_rfl)
            have d3 : u 3 = _ := hd 3 (by omega) (by kernel_rfl)
            have d7 : u 7 = _ := hd 7 (by omega) (by kernel_rfl)
            clear hb hd
            rw [d0, d1, d2, d3, d7]
            clear d0 d1 d2 d3 d7
            go_wp2_with (go_at_call 55; (with_reducible refine (HRT.out _ (HL.out.below (bthen (bthen HB.out HW.out) HB1.out)) (HR.out.below (bthen (bthen HB.out HW.out) HB1.out))).mono ?_); rintro e w2 ⟨rfl, hb2⟩)
            exact ⟨_, rfl, hb2, rfl, fun h => absurd h (by decide)⟩
          · refine OpOk.now rfl ?_
            have d8 : u 8 = _ := hd 8 (by omega) (by kernel_rfl)
            clear hb hd
            rw [d8]
            clear d8
            go_wp2
            exact ⟨_, rfl, Below.refl _ _, rfl, fun h => absurd h (by decide)⟩
          · refine OpOk.now rfl ?_
            have d9 : u 9 = _ := hd 9 (by omega) (by kernel_rfl)
            clear hb hd
            rw [d9]
            clear d9
            go_wp2
            exact ⟨_, rfl, Below.refl _ _, rfl, fun h => absurd h (by decide)⟩
          · have d9 : u 9 = _ := hd 9 (by omega) (by kernel_rfl)
            clear hb hd
            rw [d9]
            clear d9
            refine OpOk.late rfl ?_
            exact ⟨_, yields_extract rfl _ _ rfl _ rfl _ rfl, rfl⟩
        case htail2 =>
          intro u A w1 hA hb hd hf
          simp only [putAll, dstOf, List.getElem?_toArray, List.getElem?_cons_succ, List.getElem?_cons_zero, Option.bind_some, Option.bind, Act.put, List.setIfInBounds_toArray, List.set_cons_succ, List.set_cons_zero] at hA; subst hA
          have e0 : u 0 = _ := hd 0 (by omega)
          have e1 : u 1 = _ := hd 1 (by omega)
          have e2 : u 2 = _ := hd 2 (by omega)
          have e3 : u 3 = _ := hd 3 (by omega)
          have e4 : u 4 = _ := hd 4 (by omega)
          have e5 : u 5 = _ := hd 5 (by omega)
          have e6 : u 6 = _ := hd 6 (by omega)
          have e7 : u 7 = _ := hd 7 (by omega)
          have e8 : u 8 = _ := hd 8 (by omega)
          have e9 : u 9 = _ := hd 9 (by omega)
          have e10 : u 10 = _ := hd 10 (by omega)
          have e11 : u 11 = _ := hd 11 (by omega)
          first | rw [e0, e1, e2, e3, e4, e5, e6, e7, e8, e9, e10, e11] | simp only [e0, e1, e2, e3, e4, e5, e6, e7, e8, e9, e10, e11]
          clear e0 e1 e2 e3 e4 e5 e6 e7 e8 e9 e10 e11
          clear hd hf
          have HW2 := Lib.hid (bthen HW.out hb)
          have HF2 := Lib.hid (HF.out.below HW2.out)
          clear hb
          have tokF : True := trivial
          go_wp2_with (fail)
          (try dsimp only [NoPanic])
          go_wp2_with (first | (have _t := tokF; refine wpl_row rfl 37 (.tmp 5) rfl _ rfl #[vR, .int .i64 F.dep, .int .i64 F.fuel, .int .i64 F.burn, .int .i64 F.res] 5 HF2.out Tryz.rowFli rfl ?_; simp only [Act.put]; clear tokF) | (go_at_call 99; refine (HLB.out _).mono ?_; rintro e w5 ⟨rfl, hb5⟩; have HW5 := Lib.hid (bthen HW2.out hb5); clear hb5))
          (go_ret2; exact ⟨rfl, bthen HB.out HW5.out⟩)
    obtain rfl : nn = j := by omega
    rw [Nat.sub_self] at hN
    obtain rfl : RES = none := hN.symm
    have hge : ¬ F.dep ≤ t := by omega
    clear hN hte
    go_wp2_with (fail)
    go_ret2
    exact ⟨rfl, bthen HB.out HW.out⟩
end Go.Proofs.YtbgkbdhdkpjcdaaGreat
