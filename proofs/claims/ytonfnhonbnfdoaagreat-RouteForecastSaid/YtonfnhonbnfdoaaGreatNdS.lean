/- Law: RouteForecast. -/
import Derived.Test.YtonfnhonbnfdoaaGreatJAV
import Derived.Test.YtonfnhonbnfdoaaGreatNdU
import Derived.Test.YtonfnhonbnfdoaaGreatJAX
import Derived.Test.YtonfnhonbnfdoaaGreatJAT
import Derived.Test.YtonfnhonbnfdoaaGreatJAW
set_option linter.all false
namespace Go.Proofs.YtonfnhonbnfdoaaGreat
open Go Go.RowKit Go.Proofs
set_option maxRecDepth 100000
set_option maxHeartbeats 8000000
theorem fx_one (d0 d1 d2 d4 d5 d6 d7 d8 d9 : Int) (b0 b1 : Bool) : ∀ u ∈ ([.int .i64 d0, .int .i64 d1, .int .i64 d2, .int .i64 2000, .int .i64 d4, .int .i64 d5, .int .i64 d6, .int .i64 d7, .int .i64 d8, .int .i64 d9, .bool b0, .bool b1] : List Value), u.oneCell' = true := by simp [Value.oneCell']
def rfcR (w0 : Nat) (gP : Nat) (vF : Value) (L : List Value) (n : Nat) (X : Value) (row : List Value) : Nat → Value → World → Prop
  | 0, v, _ => v = .pointer (some ⟨gP, 0, none⟩)
  | 1, v, _ => v = .pointer (some ⟨gP, 12, none⟩)
  | 2, v, _ => v = vF
  | 3, v, w => w.ownsRow w0 68 12 v n L
  | 4, v, _ => v = X
  | 5, v, w => RowNew v row w
  | _, _, _ => True
theorem rfcR_below {w0 : Nat} {gP : Nat} {vF : Value} {L : List Value} {n : Nat} {X : Value} {row : List Value} (k : Nat) (v : Value) (w w' : World) (hb : Below w.heap.size w w') (h : rfcR w0 gP vF L n X row k v w) : rfcR w0 gP vF L n X row k v w' := by
  unfold rfcR at *
  split at h <;> first | exact h | exact ownsRow_below h hb | exact RowNew.below h hb
theorem RouteForecast_c (M : MetD) (vF vS : Value) (lw ls lc : Int) (li lb : Bool) (A : Option Addr) (n c : Nat) (S : Tab) (F : FliD) (vR : Value) (d0 d1 d2 d3 d4 d5 d6 d7 d8 d9 : Int) (b0 b1 : Bool) (w : World) (hM : MetAt w vF vS M) (hc1 : n ≤ c) (hc2 : c ≤ 9223372036854775807) (hL : RecsAt w A n 3 (nV S)) (hR : SlI w vR F.m F.R) :
   Calls Tryz.prog 5 #[.agg #[.int .i64 M.places, .int .i64 M.any.a0, .int .i64 M.any.a1, .int .i64 M.any.a2, .int .i64 M.any.a3, .int .i64 M.any.a4, .int .i64 M.any.a5, .bool M.any.i, .bool M.any.s, .int .i64 M.mw, .int .i64 M.ms, .int .i64 M.mc, vF, vS, .int .i64 lw, .int .i64 ls, .int .i64 lc, .bool li, .bool lb, .slice A n c], .agg #[vR, .int .i64 F.dep, .int .i64 F.fuel, .int .i64 F.burn, .int .i64 F.res], .agg #[.int .i64 d0, .int .i64 d1, .int .i64 d2, .int .i64 d3, .int .i64 d4, .int .i64 d5, .int .i64 d6, .int .i64 d7, .int .i64 d8, .int .i64 d9, .bool b0, .bool b1]] w fun e w' => e = .returned (.bool true) ∧ RowKit.Below w.heap.size w w' := by
  have HM := Lib.hid hM
  have HL := Lib.hid hL
  have HR := Lib.hid hR
  obtain ⟨AR, cR, rfl, -, -, -⟩ := hR
  have HRT := Lib.hid (fun w1 h1 h2 h3 => l5right_c M vF vS lw ls lc li lb A n c S F (.slice AR F.m cR) w1 h1 hc1 hc2 h2 h3)
  have tok : True := trivial
  have tok2 : True := trivial
  have tok0 : True := trivial
  go_enter Tryz.func5, Tryz.ntmps5
  go_wp2_with (first | (have _t := tok0; generalize hWX : World.alloc (World.alloc (World.alloc w _) _) _ = W; clear tok0; have _x := tri_r w #[.int .i64 M.places, .int .i64 M.any.a0, .int .i64 M.any.a1, .int .i64 M.any.a2, .int .i64 M.any.a3, .int .i64 M.any.a4, .int .i64 M.any.a5, .bool M.any.i, .bool M.any.s, .int .i64 M.mw, .int .i64 M.ms, .int .i64 M.mc, vF, vS, .int .i64 lw, .int .i64 ls, .int .i64 lc, .bool li, .bool lb, .slice A n c] #[.slice AR F.m cR, .int .i64 F.dep, .int .i64 F.fuel, .int .i64 F.burn, .int .i64 F.res] #[.int .i64 d0, .int .i64 d1, .int .i64 d2, .int .i64 d3, .int .i64 d4, .int .i64 d5, .int .i64 d6, .int .i64 d7, .int .i64 d8, .int .i64 d9, .bool b0, .bool b1] 34 37 68; rw [hWX] at _x; clear hWX; have HX := Lib.hid _x.1; have HY := Lib.hid _x.2.1; have HW := Lib.hid _x.2.2.1; have HB := Lib.hid _x.2.2.2; clear _x) | (have _t := tok; refine wpl_row rfl 34 (.tmp 3) rfl _ rfl #[.int .i64 M.places, .int .i64 M.any.a0, .int .i64 M.any.a1, .int .i64 M.any.a2, .int .i64 M.any.a3, .int .i64 M.any.a4, .int .i64 M.any.a5, .bool M.any.i, .bool M.any.s, .int .i64 M.mw, .int .i64 M.ms, .int .i64 M.mc, vF, vS, .int .i64 lw, .int .i64 ls, .int .i64 lc, .bool li, .bool lb, .slice A n c] 20 HX.out Tryz.rowPlan rfl ?_; simp only [Act.put]; clear tok) | (have _t := tok2; refine wpl_row rfl 37 (.tmp 4) rfl _ rfl #[.slice AR F.m cR, .int .i64 F.dep, .int .i64 F.fuel, .int .i64 F.burn, .int .i64 F.res] 5 HY.out Tryz.rowFli rfl ?_; simp only [Act.put]; clear tok2))
  refine (HRT.out _ (HM.out.below HB.out) (HL.out.below HB.out) (HR.out.below HB.out)).mono ?_
  rintro e w1 ⟨⟨bb, rfl, hgood⟩, hb1⟩
  have nHX := Lib.hid (HX.out.below hb1)
  have nHY := Lib.hid (HY.out.below hb1)
  have nHW := Lib.hid (HW.out.below hb1)
  have nHB := Lib.hid (bthen HB.out hb1)
  clear HX HY HW HB hb1
  have HX := nHX
  have HY := nHY
  have HW := nHW
  have HB := nHB
  clear nHX nHY nHW nHB
  cases bb
  case false =>
    clear hgood hM hL
    go_wp2_with (first | (go_at_call 18; (with_reducible refine (rworks_c _).mono ?_); rintro e w1 ⟨rfl, hb1⟩; have nHX := Lib.hid (HX.out.below hb1); have nHY := Lib.hid (HY.out.below hb1); have nHB := Lib.hid (bthen HB.out hb1); have zz1 := hb1.size; clear HX HY HB hb1; have HX := nHX; have HY := nHY; have HB := nHB; clear nHX nHY nHB))
    go_ret
    exact ⟨rfl, HB.out⟩

  have x1 := HW.out.cell 1
  have x2 := HW.out.cell 2
  have x12 := HX.out.cell 12
  have x19 := HX.out.cell 19
  obtain ⟨⟨AF, cF, rfl, hF1, hF2, hF3⟩, ⟨AS, cS, rfl, hS1, hS2, hS3⟩⟩ := hM
  simp only [List.getElem?_toArray, List.getElem?_cons_succ, List.getElem?_cons_zero] at x1 x2 x12 x19
  obtain ⟨hme, hke⟩ := hgood rfl
  have hnf : nfE (netME M lw ls lc S n) M S n F = 0 := by rw [nfM_min, if_pos hme]; exact hke
  have hsa := fun w1 h1 h2 h3 => rSafe_c M (.slice AF M.n cF) (.slice AS M.m cS) lw ls lc li lb A n c S F (.slice AR F.m cR) w1 h1 hc1 hc2 h2 h3
  unfold sfE at hsa
  rw [if_pos hnf] at hsa
  obtain ⟨R, hRR⟩ : ∃ R, R = F.prf (lgT S n) (timT S n M.places.toNat) (opM M lw ls lc li lb) M.places.toNat := ⟨_, rfl⟩
  rw [← hRR] at hsa
  have HRR := Lib.hid hRR
  have HNF := Lib.hid hnf
  have HSA := Lib.hid hsa
  clear hRR hsa hnf hme hke
  clear HRT hgood hL
  have tok2 : True := trivial
  have tok3 : True := trivial
  have tok4 : True := trivial
  go_wp2_with (first | (have _t := tok3; refine wpl_mid rfl 29 _ rfl w.heap.size 0 rfl 34 #[.int .i64 M.places, .int .i64 M.any.a0, .int .i64 M.any.a1, .int .i64 M.any.a2, .int .i64 M.any.a3, .int .i64 M.any.a4, .int .i64 M.any.a5, .bool M.any.i, .bool M.any.s, .int .i64 M.mw, .int .i64 M.ms, .int .i64 M.mc, .slice AF M.n cF, .slice AS M.m cS, .int .i64 lw, .int .i64 ls, .int .i64 lc, .bool li, .bool lb, .slice A n c] #[.int .i64 M.places, .int .i64 M.any.a0, .int .i64 M.any.a1, .int .i64 M.any.a2, .int .i64 M.any.a3, .int .i64 M.any.a4, .int .i64 M.any.a5, .bool M.any.i, .bool M.any.s, .int .i64 M.mw, .int .i64 M.ms, .int .i64 M.mc, .slice AF M.n cF, .slice AS M.m cS] 14 HX.out Tryz.rowMet [] [.int .i64 lw, .int .i64 ls, .int .i64 lc, .bool li, .bool lb, .slice A n c] rfl rfl rfl ?_; simp only [Act.put]; clear tok3) | (have _t := tok4; refine wpl_mid rfl 31 _ rfl w.heap.size 14 rfl 34 #[.int .i64 M.places, .int .i64 M.any.a0, .int .i64 M.any.a1, .int .i64 M.any.a2, .int .i64 M.any.a3, .int .i64 M.any.a4, .int .i64 M.any.a5, .bool M.any.i, .bool M.any.s, .int .i64 M.mw, .int .i64 M.ms, .int .i64 M.mc, .slice AF M.n cF, .slice AS M.m cS, .int .i64 lw, .int .i64 ls, .int .i64 lc, .bool li, .bool lb, .slice A n c] #[.int .i64 lw, .int .i64 ls, .int .i64 lc, .bool li, .bool lb] 5 HX.out Tryz.rowMin [.int .i64 M.places, .int .i64 M.any.a0, .int .i64 M.any.a1, .int .i64 M.any.a2, .int .i64 M.any.a3, .int .i64 M.any.a4, .int .i64 M.any.a5, .bool M.any.i, .bool M.any.s, .int .i64 M.mw, .int .i64 M.ms, .int .i64 M.mc, .slice AF M.n cF, .slice AS M.m cS] [.slice A n c] rfl rfl rfl ?_; simp only [Act.put]; clear tok4) | (have _t := tok2; refine wpl_row rfl 37 (.tmp 4) rfl _ rfl #[.slice AR F.m cR, .int .i64 F.dep, .int .i64 F.fuel, .int .i64 F.burn, .int .i64 F.res] 5 HY.out Tryz.rowFli rfl ?_; simp only [Act.put]; clear tok2) | (go_at_call 18; (with_reducible refine (rworks_c _).mono ?_); rintro e w1 ⟨rfl, hb1⟩; have nHX := Lib.hid (HX.out.below hb1); have nHY := Lib.hid (HY.out.below hb1); have nHW := Lib.hid (HW.out.below hb1); have nHB := Lib.hid (bthen HB.out hb1); have zz1 := hb1.size; clear HX HY HW HB hb1; have HX := nHX; have HY := nHY; have HW := nHW; have HB := nHB; clear nHX nHY nHW nHB))
  all_goals first | (go_ret; exact ⟨rfl, HB.out⟩) | skip
  refine (HSA.out _ (HM.out.below HB.out) (HL.out.below HB.out) (HR.out.below HB.out)).mono ?_
  rintro e w2 ⟨rfl, hbX⟩
  clear x1 x2 x12 x19
  have nHX := Lib.hid (HX.out.below hbX)
  have nHY := Lib.hid (HY.out.below hbX)
  have nHW := Lib.hid (HW.out.below hbX)
  have nHB := Lib.hid (bthen HB.out hbX)
  clear HX HY HW HB hbX
  have HX := nHX
  have HY := nHY
  have HW := nHW
  have HB := nHB
  clear nHX nHY nHW nHB
  obtain ⟨Rl, Rn, Rs⟩ := R
  have HF3 := Lib.hid hF3
  have HS3 := Lib.hid hS3
  have zm : M.m ≤ 9223372036854775807 := by omega
  have HQZ := Lib.hid (And.intro hF1 (And.intro hF2 (And.intro hS1 hS2)))
  clear hF3 hS3 hF1 hF2 hS1 hS2
  dsimp only
  go_wp2_with (fail)
  have HW0 := Lib.hid (RowKit.Below.refl w2.heap.size w2)
  go_loopg [10] M.m (fun gx i wr => ∃ k : Nat, i = .int .i64 k ∧ k ≤ M.m ∧ M.m - k ≤ gx ∧ Hid (RowKit.Below w2.heap.size w2 wr) ∧ Hid (∀ j, j < k → M.E j 0 ≠ d0))
  case atStart => exact ⟨0, rfl, Nat.zero_le _, Nat.sub_le _ _, HW0, Lib.hid (fun j hj => absurd hj (Nat.not_lt_zero _))⟩
  case round =>
    clear HW0
    obtain ⟨k, rfl, hk, hgx, HV, HD⟩ := hrel
    have nX := Lib.hid (HX.out.below HV.out)
    have nW := Lib.hid (HW.out.below HV.out)
    have HBV := Lib.hid (bthen HB.out HV.out)
    have x13 := nX.out.cell 13
    simp only [List.getElem?_toArray, List.getElem?_cons_succ, List.getElem?_cons_zero] at x13
    by_cases hlt : k < M.m
    case pos =>
      have hltz : (k : Int) < (M.m : Int) := by omega
      obtain ⟨bs, os, rfl, hbs, hcs⟩ := HS3.out (by omega)
      have c0 : wr.cell? ⟨bs, os + k * 7, none⟩ = some (.int .i64 (M.E k 0)) := (HBV.out.cell (p := ⟨bs, os + k * 7 + 0, none⟩) hbs).trans (hcs k hlt 0 (by omega))
      have x0 := nW.out.cell 0
      simp only [List.getElem?_toArray, List.getElem?_cons_succ, List.getElem?_cons_zero] at x0
      clear hcs
      by_cases g1 : M.E k 0 = d0
      · have g1z : (M.E k 0 == d0) = true := by simp [g1]
        clear g1
        go_wp2_with (fail)
        go_quiet (fail)
        go_wp2_with (first | (go_at_call 18; refine (rworks_c _).mono ?_; rintro _ w3 ⟨rfl, hb2⟩))
        go_ret
        exact ⟨rfl, bthen HBV.out (bthen (bdn (RowKit.Below.refl _ _) _) hb2)⟩
      · have g1z : (M.E k 0 == d0) = false := by simp [g1]
        have G1 := Lib.hid g1
        clear g1
        go_wp2_with (fail)
        go_quiet (fail)
        go_wp2_with (fail)
        go_roundg (M.m - (k + 1))
        case measure => omega
        case rel => exact ⟨k + 1, by first | rfl | go_num | (congr 1; omega), by omega, Nat.le_refl _, Lib.hid (bdn HV.out _), Lib.hid (fun j hj => by
          by_cases e : j = k
          · subst e; exact G1.out
          · exact HD.out j (by omega))⟩
    obtain rfl : k = M.m := by omega
    have HE := Lib.hid (show ∀ i, i < M.m → M.E i 0 ≠ d0 from HD.out)
    have hV2 := HV.out
    clear HD HV nX nW HBV
    have nHX := Lib.hid (HX.out.below hV2)
    have nHY := Lib.hid (HY.out.below hV2)
    have nHW := Lib.hid (HW.out.below hV2)
    have nHB := Lib.hid (bthen HB.out hV2)
    clear HX HY HW HB hV2
    have HX := nHX
    have HY := nHY
    have HW := nHW
    have HB := nHB
    clear nHX nHY nHW nHB
    have tokG : True := trivial
    have tok3 : True := trivial
    have tok5 : True := trivial
    have zHW := HW.out.lt
    have cHW3 := HW.out.cell 3
    have fHW := fun i => HW.out.frozen i
    simp only [List.getElem?_toArray, List.getElem?_cons_succ, List.getElem?_cons_zero] at cHW3
    go_wp2_with (first | (have _t := tokG; generalize hWX : World.setCell wr _ _ = w1; clear tokG; have nX := Lib.hid (show Blk w1 _ 34 #[.int .i64 M.places, .int .i64 M.any.a0, .int .i64 M.any.a1, .int .i64 M.any.a2, .int .i64 M.any.a3, .int .i64 M.any.a4, .int .i64 M.any.a5, .bool M.any.i, .bool M.any.s, .int .i64 M.mw, .int .i64 M.ms, .int .i64 M.mc, .slice AF M.n cF, .slice AS M.m cS, .int .i64 lw, .int .i64 ls, .int .i64 lc, .bool li, .bool lb, .slice A n c] from by rw [← hWX]; exact HX.out.far' (f := w.heap.size + 1 + 1) (by omega) (i := 3) (.int .i64 2000)); have nY := Lib.hid (show Blk w1 _ 37 #[.slice AR F.m cR, .int .i64 F.dep, .int .i64 F.fuel, .int .i64 F.burn, .int .i64 F.res] from by rw [← hWX]; exact HY.out.far' (f := w.heap.size + 1 + 1) (by omega) (i := 3) (.int .i64 2000)); have nW := Lib.hid (show Blk w1 _ 68 #[.int .i64 d0, .int .i64 d1, .int .i64 d2, .int .i64 2000, .int .i64 d4, .int .i64 d5, .int .i64 d6, .int .i64 d7, .int .i64 d8, .int .i64 d9, .bool b0, .bool b1] from by rw [← hWX]; exact HW.out.set_ 3 (.int .i64 2000)); have nHB := Lib.hid (show RowKit.Below w.heap.size w w1 from by rw [← hWX]; exact bset HB.out (g := w.heap.size + 1 + 1) (by omega) (i := 3) (.int .i64 2000)); clear hWX HX HY HW HB; have HX := nX; have HY := nY; have HW := nW; have HB := nHB; clear nX nY nW nHB cHW3 fHW zHW) | (have _t := tok3; refine wpl_mid rfl 29 _ rfl w.heap.size 0 rfl 34 #[.int .i64 M.places, .int .i64 M.any.a0, .int .i64 M.any.a1, .int .i64 M.any.a2, .int .i64 M.any.a3, .int .i64 M.any.a4, .int .i64 M.any.a5, .bool M.any.i, .bool M.any.s, .int .i64 M.mw, .int .i64 M.ms, .int .i64 M.mc, .slice AF M.n cF, .slice AS M.m cS, .int .i64 lw, .int .i64 ls, .int .i64 lc, .bool li, .bool lb, .slice A n c] #[.int .i64 M.places, .int .i64 M.any.a0, .int .i64 M.any.a1, .int .i64 M.any.a2, .int .i64 M.any.a3, .int .i64 M.any.a4, .int .i64 M.any.a5, .bool M.any.i, .bool M.any.s, .int .i64 M.mw, .int .i64 M.ms, .int .i64 M.mc, .slice AF M.n cF, .slice AS M.m cS] 14 HX.out Tryz.rowMet [] [.int .i64 lw, .int .i64 ls, .int .i64 lc, .bool li, .bool lb, .slice A n c] rfl rfl rfl ?_; simp only [Act.put]; clear tok3) | (have _t := tok5; refine wpl_store_newR rfl 29 (.tmp 11) (.tmp 83) rfl #[.int .i64 M.places, .int .i64 M.any.a0, .int .i64 M.any.a1, .int .i64 M.any.a2, .int .i64 M.any.a3, .int .i64 M.any.a4, .int .i64 M.any.a5, .bool M.any.i, .bool M.any.s, .int .i64 M.mw, .int .i64 M.ms, .int .i64 M.mc, .slice AF M.n cF, .slice AS M.m cS] _ _ rfl ?_ rfl Tryz.sizeMet rfl (oneM M AF AS _ _ _ _) ?_; (focus (simp; done)); simp only [Act.put]; clear tok5))
    clear x13
    have zg := HW.out.lt
    have bHQ := Blk.new w1 29 #[.int .i64 M.places, .int .i64 M.any.a0, .int .i64 M.any.a1, .int .i64 M.any.a2, .int .i64 M.any.a3, .int .i64 M.any.a4, .int .i64 M.any.a5, .bool M.any.i, .bool M.any.s, .int .i64 M.mw, .int .i64 M.ms, .int .i64 M.mc, .slice AF M.n cF, .slice AS M.m cS]
    have nHX := Lib.hid (HX.out.alloc (.cells #[.int .i64 M.places, .int .i64 M.any.a0, .int .i64 M.any.a1, .int .i64 M.any.a2, .int .i64 M.any.a3, .int .i64 M.any.a4, .int .i64 M.any.a5, .bool M.any.i, .bool M.any.s, .int .i64 M.mw, .int .i64 M.ms, .int .i64 M.mc, .slice AF M.n cF, .slice AS M.m cS] 29))
    have nHY := Lib.hid (HY.out.alloc (.cells #[.int .i64 M.places, .int .i64 M.any.a0, .int .i64 M.any.a1, .int .i64 M.any.a2, .int .i64 M.any.a3, .int .i64 M.any.a4, .int .i64 M.any.a5, .bool M.any.i, .bool M.any.s, .int .i64 M.mw, .int .i64 M.ms, .int .i64 M.mc, .slice AF M.n cF, .slice AS M.m cS] 29))
    have nHW := Lib.hid (HW.out.alloc (.cells #[.int .i64 M.places, .int .i64 M.any.a0, .int .i64 M.any.a1, .int .i64 M.any.a2, .int .i64 M.any.a3, .int .i64 M.any.a4, .int .i64 M.any.a5, .bool M.any.i, .bool M.any.s, .int .i64 M.mw, .int .i64 M.ms, .int .i64 M.mc, .slice AF M.n cF, .slice AS M.m cS] 29))
    have nHB := Lib.hid (bal HB.out (.cells #[.int .i64 M.places, .int .i64 M.any.a0, .int .i64 M.any.a1, .int .i64 M.any.a2, .int .i64 M.any.a3, .int .i64 M.any.a4, .int .i64 M.any.a5, .bool M.any.i, .bool M.any.s, .int .i64 M.mw, .int .i64 M.ms, .int .i64 M.mc, .slice AF M.n cF, .slice AS M.m cS] 29))
    clear HX HY HW HB
    have HX := nHX
    have HY := nHY
    have HW := nHW
    have HB := nHB
    clear nHX nHY nHW nHB
    generalize w1.alloc (.cells #[.int .i64 M.places, .int .i64 M.any.a0, .int .i64 M.any.a1, .int .i64 M.any.a2, .int .i64 M.any.a3, .int .i64 M.any.a4, .int .i64 M.any.a5, .bool M.any.i, .bool M.any.s, .int .i64 M.mw, .int .i64 M.ms, .int .i64 M.mc, .slice AF M.n cF, .slice AS M.m cS] 29) = W2 at *
    generalize w1.heap.size = gHQ at *
    have HQ := Lib.hid bHQ
    clear bHQ
    -- MARK1
    refine wp_region_spec 6 (rfcR W2.heap.size w.heap.size (.slice AF M.n cF) (fcL M.D M.B M.n) M.n (.agg #[.int .i64 d0, .int .i64 d1, .int .i64 d2, .int .i64 2000, .int .i64 d4, .int .i64 d5, .int .i64 d6, .int .i64 d7, .int .i64 d8, .int .i64 d9, .bool b0, .bool b1]) [.int .i64 d0, .int .i64 d1, .int .i64 d2, .int .i64 2000, .int .i64 d4, .int .i64 d5, .int .i64 d6, .int .i64 d7, .int .i64 d8, .int .i64 d9, .bool b0, .bool b1]) (fun i => false) (by kernel_rfl) (by kernel_rfl) rfcR_below ?hop1 ?htail1
    case hop1 =>
      simp only [List.take_succ_cons, List.take_zero, allOps]
      refine ⟨?_, ?_, ?_, ?_, ?_, ?_, trivial⟩
      all_goals intro u A w1 hA hb hd
      all_goals simp only [putAll, dstOf, List.getElem?_toArray, List.getElem?_cons_succ, List.getElem?_cons_zero, Option.bind_some, Option.bind, Act.put, List.setIfInBounds_toArray, List.set_cons_succ, List.set_cons_zero] at hA; subst hA
      all_goals have HB1 := Lib.hid hb
      · clear hb hd
        go_wp2
        exact ⟨_, rfl, Below.refl _ _, rfl, fun h => absurd h (by decide)⟩
      · have d0 : u 0 = _ := hd 0 (by omega) (by kernel_rfl)
        clear hb hd
        rw [d0]
        clear d0
        go_wp2
        exact ⟨_, rfl, Below.refl _ _, rfl, fun h => absurd h (by decide)⟩
      · have d1 : u 1 = _ := hd 1 (by omega) (by kernel_rfl)
        clear hb hd
        rw [d1]
        clear d1
        have x12 := (HX.out.below HB1.out).cell 12
        go_wp2
        exact ⟨_, rfl, Below.refl _ _, rfl, fun h => absurd h (by decide)⟩
      · have d2 : u 2 = _ := hd 2 (by omega) (by kernel_rfl)
        clear hb hd
        rw [d2]
        clear d2
        go_wp2_with (at_builtin; go_loud (refine wpl_cpF rfl _ _ rfl rfl _ HB1.out.size AF M.n cF rfl (HF3.out.below (bthen HB.out HB1.out)) (by omega) ?_))
        intro v' w' h1 h2
        exact ⟨_, rfl, h2, h1, fun h => absurd h (by decide)⟩
      · clear hb hd
        go_wp2_with (refine wpl_row rfl 68 _ rfl _ rfl _ 12 (HW.out.below HB1.out) Tryz.rowFc rfl ?_; simp only [Act.put])
        exact ⟨_, rfl, Below.refl _ _, rfl, fun h => absurd h (by decide)⟩
      · have d4 : u 4 = _ := hd 4 (by omega) (by kernel_rfl)
        clear hb hd
        rw [d4]
        clear d4
        go_wp2_with (refine wpl_recr rfl 26 68 1 _ 12 [.agg #[.int .i64 d0, .int .i64 d1, .int .i64 d2, .int .i64 2000, .int .i64 d4, .int .i64 d5, .int .i64 d6, .int .i64 d7, .int .i64 d8, .int .i64 d9, .bool b0, .bool b1]] (fun _ j => [.int .i64 d0, .int .i64 d1, .int .i64 d2, .int .i64 2000, .int .i64 d4, .int .i64 d5, .int .i64 d6, .int .i64 d7, .int .i64 d8, .int .i64 d9, .bool b0, .bool b1].getD j undef) rfl fcU2_Tryz Tryz.fcSr Tryz.fcZr rfl (by omega) (by omega) (by omega) (by intro v hv; rw [List.mem_singleton.1 hv]; rfl) (by rfl) (by rfl) ?_)
        intro g' w' h1 h2 h3
        exact ⟨_, rfl, h1, RowNew.mk rfl h1 h3, fun h => absurd h (by decide)⟩
    case htail1 =>
      intro u A w1 hA hb hd hf
      simp only [putAll, dstOf, List.getElem?_toArray, List.getElem?_cons_succ, List.getElem?_cons_zero, Option.bind_some, Option.bind, Act.put, List.setIfInBounds_toArray, List.set_cons_succ, List.set_cons_zero] at hA; subst hA
      have e0 : u 0 = _ := hd 0 (by omega)
      have e1 : u 1 = _ := hd 1 (by omega)
      have e2 : u 2 = _ := hd 2 (by omega)
      have p3 := hd 3 (by omega)
      have e4 : u 4 = _ := hd 4 (by omega)
      have p5 := hd 5 (by omega)
      first | rw [e0, e1, e2, e4] | simp only [e0, e1, e2, e4]
      clear e0 e1 e2 e4
      clear hd hf
      obtain ⟨-, g1, e5, hrow⟩ := p5
      rw [e5]
      have HO2 := Lib.hid p3
      have HR2 := Lib.hid hrow
      have hHB := hb
      clear e5 hrow
      refine wpl_appF rfl _ _ rfl W2.heap.size _ M.n (fcL M.D M.B M.n) rfl HO2.out g1 [.int .i64 d0, .int .i64 d1, .int .i64 d2, .int .i64 2000, .int .i64 d4, .int .i64 d5, .int .i64 d6, .int .i64 d7, .int .i64 d8, .int .i64 d9, .bool b0, .bool b1] rfl (fx_one d0 d1 d2 d4 d5 d6 d7 d8 d9 b0 b1) rfl HR2.out (by omega) hHB.size ?_
      intro v3 w3 hO3 hG3
      have hbG := below_grown hG3 hHB.size (fun b hb => owns_base HO2.out hb)
      have hO4 : w3.ownsRow W2.heap.size 68 12 v3 (M.n + 1) (fcL (M.plus (fun j => [d0, d1, d2, 2000, d4, d5, d6, d7, d8, d9].getD j 0) (fun j => if j = 10 then b0 else b1)).D (M.plus (fun j => [d0, d1, d2, 2000, d4, d5, d6, d7, d8, d9].getD j 0) (fun j => if j = 10 then b0 else b1)).B (M.n + 1)) := by rw [← plus_list]; exact hO3
      have hzQ := HQ.out.lt
      have hzX := HX.out.lt
      have hzY := HY.out.lt
      have hzW := HW.out.lt
      have hne : ∀ b, some b = v3.ownBlock → b ≠ gHQ := fun b hb => by have := owns_base hO4 hb; omega
      have hbW : RowKit.Below w.heap.size w w3 := (bthen HB.out hHB).trans (hbG.mono (by omega))
      obtain ⟨D, cD, rfl, q1, q2, q3⟩ := RecsAt.of_owns (V := fcV (M.plus (fun j => [d0, d1, d2, 2000, d4, d5, d6, d7, d8, d9].getD j 0) (fun j => if j = 10 then b0 else b1)).D (M.plus (fun j => [d0, d1, d2, 2000, d4, d5, d6, d7, d8, d9].getD j 0) (fun j => if j = 10 then b0 else b1)).B) (by omega) hO4
      obtain ⟨hZ1, hZ2, hZ3, hZ4⟩ := HQZ.out
      have HA3 := Lib.hid (show MetAt w3 (.slice D (M.n + 1) cD) (.slice AS M.m cS) (M.plus (fun j => [d0, d1, d2, 2000, d4, d5, d6, d7, d8, d9].getD j 0) (fun j => if j = 10 then b0 else b1)) from ⟨⟨D, cD, rfl, q1, q2, q3⟩, ⟨AS, cS, rfl, hZ3, hZ4, HS3.out.below hbW⟩⟩)
      have HNE := Lib.hid hne
      have HNS := Lib.hid (show 0 < M.m → ∀ b, some b = (Value.slice AS M.m cS).ownBlock → b ≠ gHQ from fun h0 b e => by
        obtain ⟨b', off', e3, hlt, -⟩ := HS3.out h0
        rw [e3] at e
        have e4 : b = b' := by simpa [Value.ownBlock] using e
        omega)
      have HX3 := Lib.hid ((HX.out.below hHB).under hbG (by omega))
      have HY3 := Lib.hid ((HY.out.below hHB).under hbG (by omega))
      have HW3 := Lib.hid ((HW.out.below hHB).under hbG (by omega))
      have HQ3 := Lib.hid ((HQ.out.below hHB).under hbG (by omega))
      have HB3 := Lib.hid hbW
      clear hO3 hG3 hbG hO4 q1 q2 q3 hne hbW hZ1 hZ2 hZ3 hZ4 HX HY HW HQ HB HO2 HR2 hHB hb p3 hzQ hzX hzY hzW
      have tokQ : True := trivial
      have tok6 : True := trivial
      have zHQ3 := HQ3.out.lt
      have cHQ312 := HQ3.out.cell 12
      have fHQ3 := fun i => HQ3.out.frozen i
      go_wp2_with (first | (have _t := tokQ; generalize hWX : World.setCell w3 _ _ = w4; clear tokQ; have nA := Lib.hid (show MetAt w4 _ _ _ from by rw [← hWX]; exact HA3.out.put (g := gHQ) (i := 12) HNE.out HNS.out (.slice D (M.n + 1) cD)); have nX := Lib.hid (show Blk w4 _ 34 #[.int .i64 M.places, .int .i64 M.any.a0, .int .i64 M.any.a1, .int .i64 M.any.a2, .int .i64 M.any.a3, .int .i64 M.any.a4, .int .i64 M.any.a5, .bool M.any.i, .bool M.any.s, .int .i64 M.mw, .int .i64 M.ms, .int .i64 M.mc, .slice AF M.n cF, .slice AS M.m cS, .int .i64 lw, .int .i64 ls, .int .i64 lc, .bool li, .bool lb, .slice A n c] from by rw [← hWX]; exact HX3.out.far' (f := gHQ) (by omega) (i := 12) (.slice D (M.n + 1) cD)); have nY := Lib.hid (show Blk w4 _ 37 #[.slice AR F.m cR, .int .i64 F.dep, .int .i64 F.fuel, .int .i64 F.burn, .int .i64 F.res] from by rw [← hWX]; exact HY3.out.far' (f := gHQ) (by omega) (i := 12) (.slice D (M.n + 1) cD)); have nW := Lib.hid (show Blk w4 _ 68 #[.int .i64 d0, .int .i64 d1, .int .i64 d2, .int .i64 2000, .int .i64 d4, .int .i64 d5, .int .i64 d6, .int .i64 d7, .int .i64 d8, .int .i64 d9, .bool b0, .bool b1] from by rw [← hWX]; exact HW3.out.far' (f := gHQ) (by omega) (i := 12) (.slice D (M.n + 1) cD)); have nQ := Lib.hid (show Blk w4 gHQ 29 #[.int .i64 M.places, .int .i64 M.any.a0, .int .i64 M.any.a1, .int .i64 M.any.a2, .int .i64 M.any.a3, .int .i64 M.any.a4, .int .i64 M.any.a5, .bool M.any.i, .bool M.any.s, .int .i64 M.mw, .int .i64 M.ms, .int .i64 M.mc, .slice D (M.n + 1) cD, .slice AS M.m cS] from by rw [← hWX]; exact HQ3.out.set_ 12 (.slice D (M.n + 1) cD)); have nHB := Lib.hid (show RowKit.Below w.heap.size w w4 from by rw [← hWX]; exact bset HB3.out (g := gHQ) (by omega) (i := 12) (.slice D (M.n + 1) cD)); clear hWX HA3 HX3 HY3 HW3 HQ3 HB3 HNE HNS; have HA := nA; have HX := nX; have HY := nY; have HW := nW; have HQ := nQ; have HB := nHB; clear nA nX nY nW nQ nHB) | (have _t := tok6; refine wpl_row rfl 29 (.tmp 11) rfl _ rfl #[.int .i64 M.places, .int .i64 M.any.a0, .int .i64 M.any.a1, .int .i64 M.any.a2, .int .i64 M.any.a3, .int .i64 M.any.a4, .int .i64 M.any.a5, .bool M.any.i, .bool M.any.s, .int .i64 M.mw, .int .i64 M.ms, .int .i64 M.mc, .slice D (M.n + 1) cD, .slice AS M.m cS] 14 HQ.out Tryz.rowMet rfl ?_; simp only [Act.put]; clear tok6))
      -- MARK3
      have hck := fun w1 h => rw_Check_c (M.plus (fun j => [d0, d1, d2, 2000, d4, d5, d6, d7, d8, d9].getD j 0) (fun j => if j = 10 then b0 else b1)) (.slice D (M.n + 1) cD) (.slice AS M.m cS) w1 h
      unfold MetD.err at hck
      cases hbad : (M.plus (fun j => [d0, d1, d2, 2000, d4, d5, d6, d7, d8, d9].getD j 0) (fun j => if j = 10 then b0 else b1)).bad
      case' true =>
        rw [hbad, if_pos rfl] at hck
        have HCK := Lib.hid hck
        clear hck hbad
        refine (HCK.out _ HA.out).mono ?_
        rintro e w5 ⟨rfl, hb5⟩
        clear HQ HA HCK
        have nHX := Lib.hid (HX.out.below hb5)
        have nHY := Lib.hid (HY.out.below hb5)
        have nHW := Lib.hid (HW.out.below hb5)
        have nHB := Lib.hid (bthen HB.out hb5)
        clear HX HY HW HB hb5
        have HX := nHX
        have HY := nHY
        have HW := nHW
        have HB := nHB
        clear nHX nHY nHW nHB
        go_wp2_with (first | (go_at_call 18; (with_reducible refine (rworks_c _).mono ?_); rintro e w1 ⟨rfl, hb1⟩; have nHX := Lib.hid (HX.out.below hb1); have nHY := Lib.hid (HY.out.below hb1); have nHW := Lib.hid (HW.out.below hb1); have nHB := Lib.hid (bthen HB.out hb1); have zz1 := hb1.size; clear HX HY HW HB hb1; have HX := nHX; have HY := nHY; have HW := nHW; have HB := nHB; clear nHX nHY nHW nHB))
        go_ret
        exact ⟨rfl, HB.out⟩
      rw [hbad, if_neg (by decide)] at hck
      have HCK := Lib.hid hck
      have HBD := Lib.hid hbad
      clear hck hbad
      refine (HCK.out _ HA.out).mono ?_
      rintro e w5 ⟨rfl, hb5⟩
      clear HCK
      have nHX := Lib.hid (HX.out.below hb5)
      have nHY := Lib.hid (HY.out.below hb5)
      have nHW := Lib.hid (HW.out.below hb5)
      have nHQ := Lib.hid (HQ.out.below hb5)
      have nHA := Lib.hid (HA.out.below hb5)
      have nHB := Lib.hid (bthen HB.out hb5)
      clear HX HY HW HQ HA HB hb5
      have HX := nHX
      have HY := nHY
      have HW := nHW
      have HQ := nHQ
      have HA := nHA
      have HB := nHB
      clear nHX nHY nHW nHQ nHA nHB
      cases Rs
      case false =>
        go_wp2_with (first | (go_at_call 18; (with_reducible refine (rworks_c _).mono ?_); rintro e w1 ⟨rfl, hb1⟩; have nHX := Lib.hid (HX.out.below hb1); have nHY := Lib.hid (HY.out.below hb1); have nHW := Lib.hid (HW.out.below hb1); have nHB := Lib.hid (bthen HB.out hb1); have zz1 := hb1.size; clear HX HY HW HB hb1; have HX := nHX; have HY := nHY; have HW := nHW; have HB := nHB; clear nHX nHY nHW nHB))
        go_ret
        exact ⟨rfl, HB.out⟩
      have hd12 : (0 ≤ d1 ∧ d1 ≤ 2000) ∧ (0 ≤ d2 ∧ d2 ≤ 2000) := by
        have hk := MetD.ok_of HBD.out
        have a2 := hk.ff M.n (Nat.lt_succ_self _)
        have a3 := hk.ft M.n (Nat.lt_succ_self _)
        rw [plus_Dn] at a2 a3
        exact ⟨a2, a3⟩
      obtain ⟨NT, hNT⟩ : ∃ NT : Nat, NT = (d2 - d1).toNat := ⟨_, rfl⟩
      have HNT := Lib.hid (And.intro hNT hd12)
      clear hNT hd12
      have zHW := HW.out.lt
      have cHW1 := HW.out.cell 1
      go_wp2_with (fail)
      clear cHW1
      -- MARK4
      have HW0 := Lib.hid (RowKit.Below.refl w5.heap.size w5)
      go_loopg [12] NT (fun gx tv wr => ∃ j : Nat, tv = .int .i64 (d1 + j) ∧ j ≤ NT ∧ NT - j ≤ gx ∧ Hid (RowKit.Below w5.heap.size w5 wr) ∧ Hid (∀ q : Nat, q < j → M.n ∉ (M.plus (fun j => [d0, d1, d2, 2000, d4, d5, d6, d7, d8, d9].getD j 0) (fun j => if j = 10 then b0 else b1)).odd d0 (d1 + q)))
      case atStart => exact ⟨0, by congr 1; omega, Nat.zero_le _, Nat.sub_le _ _, HW0, Lib.hid (fun j hj => absurd hj (Nat.not_lt_zero _))⟩
      case round =>
        clear HW0
        obtain ⟨j, rfl, hj, hgx, HV, HO⟩ := hrel
        obtain ⟨hNT, hd1, hd2⟩ := HNT.out
        by_cases hlt : j < NT
        case pos =>
          have hltz : d1 + (j : Int) < d2 := by omega
          have hat : atE (M.plus (fun j => [d0, d1, d2, 2000, d4, d5, d6, d7, d8, d9].getD j 0) (fun j => if j = 10 then b0 else b1)) d0 (d1 + (j : Int)) = 0 := at_plus HBD.out (show d1 ≤ d1 + (j : Int) by omega) (show d1 + (j : Int) < d2 by omega)
          have hst := fun w1 h => wStrange_c (M.plus (fun j => [d0, d1, d2, 2000, d4, d5, d6, d7, d8, d9].getD j 0) (fun j => if j = 10 then b0 else b1)) (.slice D (M.n + 1) cD) (.slice AS M.m cS) d0 (d1 + (j : Int)) w1 h
          rw [hat] at hst
          have HST := Lib.hid hst
          obtain ⟨tt0, htt⟩ : ∃ tt0, tt0 = d1 + (j : Int) := ⟨_, rfl⟩
          have hts : d1 + ((j + 1 : Nat) : Int) = tt0 + 1 := by omega
          have hti : 0 ≤ tt0 ∧ tt0 ≤ 2000 := by omega
          have HTS := Lib.hid hts
          rw [← htt] at HST hltz ⊢
          have HTT := Lib.hid htt
          clear hat hst hts hNT hd1 hd2 htt
          have nX := Lib.hid (HX.out.below HV.out)
          have nW := Lib.hid (HW.out.below HV.out)
          have nQ := Lib.hid (HQ.out.below HV.out)
          have HBV := Lib.hid (bthen HB.out HV.out)
          have x0 := nW.out.cell 0
          have x2 := nW.out.cell 2
          simp only [List.getElem?_toArray, List.getElem?_cons_succ, List.getElem?_cons_zero] at x0 x2
          have tok6 : True := trivial
          go_wp2_with (first | (have _t := tok6; refine wpl_row rfl 29 (.tmp 11) rfl _ rfl #[.int .i64 M.places, .int .i64 M.any.a0, .int .i64 M.any.a1, .int .i64 M.any.a2, .int .i64 M.any.a3, .int .i64 M.any.a4, .int .i64 M.any.a5, .bool M.any.i, .bool M.any.s, .int .i64 M.mw, .int .i64 M.ms, .int .i64 M.mc, .slice D (M.n + 1) cD, .slice AS M.m cS] 14 nQ.out Tryz.rowMet rfl ?_; simp only [Act.put]; clear tok6))
          refine (HST.out _ (HA.out.below HV.out)).mono ?_
          rintro e w6 ⟨v, ys, rfl, hb6, hq⟩
          obtain ⟨hi, hp⟩ := hq trivial
          have HPE := Lib.hid hp
          obtain ⟨Sl, cS2, rfl, s1, s2, -, s4⟩ := hi
          have HL4 := Lib.hid s4
          clear s4 hp hq x0 x2
          have nV := Lib.hid (bthen HV.out hb6)
          clear HV nX nW nQ HBV HST hb6
          generalize hL : ys.map castI = L at *
          have HLL := Lib.hid hL
          clear hL
          go_wp2_with (fail)
          have zs2 : L.length ≤ 9223372036854775807 := by omega
          have HU0 := Lib.hid (RowKit.Below.refl w6.heap.size w6)
          -- MARK5
          go_loopg [15] L.length (fun gy iv wr => ∃ i : Nat, iv = .int .i64 i ∧ i ≤ L.length ∧ L.length - i ≤ gy ∧ Hid (RowKit.Below w6.heap.size w6 wr) ∧ Hid (∀ q, q < i → nth L q ≠ (M.n : Int)))
          case atStart => exact ⟨0, rfl, Nat.zero_le _, Nat.sub_le _ _, HU0, Lib.hid (fun j hj => absurd hj (Nat.not_lt_zero _))⟩
          case round =>
            clear HU0
            obtain ⟨i, rfl, hi, hgi, HU, HI⟩ := hrel
            by_cases hlti : i < L.length
            case pos =>
              have hlti' : (i : Int) < (L.length : Int) := by omega
              obtain ⟨bO, oO, rfl, hbO, hcO⟩ := HL4.out (by omega)
              have a0 : wr.cell? ⟨bO, oO + i, none⟩ = some (.int .i64 (nth L i)) := (HU.out.cell (p := ⟨bO, oO + i, none⟩) hbO).trans (hcO i hlti)
              have HBU := Lib.hid (bthen (bthen HB.out nV.out) HU.out)
              have x12 := ((HX.out.below nV.out).below HU.out).cell 12
              simp only [List.getElem?_toArray, List.getElem?_cons_succ, List.getElem?_cons_zero] at x12
              clear hcO
              by_cases g1 : nth L i = (M.n : Int)
              · have g1z : (nth L i == (M.n : Int)) = true := by simp [g1]
                clear g1
                go_wp2_with (fail)
                go_quiet (fail)
                go_wp2_with (first | (go_at_call 18; refine (rworks_c _).mono ?_; rintro _ w3 ⟨rfl, hb2⟩))
                go_ret
                exact ⟨rfl, bthen HBU.out (bthen (bdn (RowKit.Below.refl _ _) _) hb2)⟩
              · have g1z : (nth L i == (M.n : Int)) = false := by simp [g1]
                have G1 := Lib.hid g1
                clear g1
                go_wp2_with (fail)
                go_quiet (fail)
                go_wp2_with (fail)
                go_roundg (L.length - (i + 1))
                case measure => omega
                case rel => exact ⟨i + 1, by first | rfl | go_num | (congr 1; omega), by omega, Nat.le_refl _, Lib.hid (bdn HU.out _), Lib.hid (fun q hq => by
                  by_cases e : q = i
                  · subst e; exact G1.out
                  · exact HI.out q (by omega))⟩
            obtain rfl : i = L.length := by omega
            have hnlt : ¬ ((L.length : Nat) : Int) < (L.length : Int) := by omega
            have hno : M.n ∉ (M.plus (fun j => [d0, d1, d2, 2000, d4, d5, d6, d7, d8, d9].getD j 0) (fun j => if j = 10 then b0 else b1)).odd d0 tt0 := fun hm => by
              have h1 : M.n ∈ ys := HPE.out.mem_iff.2 hm
              have h2 : castI M.n ∈ L := by rw [← HLL.out]; exact List.mem_map_of_mem h1
              obtain ⟨q, hq, e⟩ := nthI_mem h2
              exact HI.out q hq e
            have HNO := Lib.hid hno
            have nV2 := Lib.hid (bthen nV.out HU.out)
            clear HU nV HI hno
            go_wp2_with (fail)
            go_roundg (NT - (j + 1))
            case measure => omega
            case rel => exact ⟨j + 1, by rw [HTS.out], by omega, Nat.le_refl _, nV2, Lib.hid (fun q hq => by
              by_cases e : q = j
              · subst e; rw [← HTT.out]; exact HNO.out
              · exact HO.out q (by omega))⟩
        have hgt : ¬ d1 + (j : Int) < d2 := by omega
        have hV2 := HV.out
        have hall : ∀ t : Int, d1 ≤ t → t < d2 → M.n ∉ (M.plus (fun j => [d0, d1, d2, 2000, d4, d5, d6, d7, d8, d9].getD j 0) (fun j => if j = 10 then b0 else b1)).odd d0 t := fun t h1 h2 => by
          have := HO.out (t - d1).toNat (by omega)
          rwa [show d1 + (((t - d1).toNat : Nat) : Int) = t by omega] at this
        have hs : (F.prf (lgT S n) (timT S n (M.plus (fun j => [d0, d1, d2, 2000, d4, d5, d6, d7, d8, d9].getD j 0) (fun j => if j = 10 then b0 else b1)).places.toNat) (opM (M.plus (fun j => [d0, d1, d2, 2000, d4, d5, d6, d7, d8, d9].getD j 0) (fun j => if j = 10 then b0 else b1)) lw ls lc li lb) (M.plus (fun j => [d0, d1, d2, 2000, d4, d5, d6, d7, d8, d9].getD j 0) (fun j => if j = 10 then b0 else b1)).places.toNat).2.2 = true := safe_plus (d := fun j => [d0, d1, d2, 2000, d4, d5, d6, d7, d8, d9].getD j 0) (b := fun j => if j = 10 then b0 else b1) HBD.out (iss_plus (d := fun j => [d0, d1, d2, 2000, d4, d5, d6, d7, d8, d9].getD j 0) (nf_bad HNF.out) rfl) HE.out hall (by show (F.prf (lgT S n) (timT S n M.places.toNat) (opM M lw ls lc li lb) M.places.toNat).2.2 = true; rw [← HRR.out])
        have hsa2 := fun w1 h1 h2 h3 => rSafe_c (M.plus (fun j => [d0, d1, d2, 2000, d4, d5, d6, d7, d8, d9].getD j 0) (fun j => if j = 10 then b0 else b1)) (.slice D (M.n + 1) cD) (.slice AS M.m cS) lw ls lc li lb A n c S F (.slice AR F.m cR) w1 h1 hc1 hc2 h2 h3
        unfold sfE at hsa2
        rw [if_pos (nf_plus HNF.out HBD.out), hs] at hsa2
        generalize (F.prf (lgT S n) (timT S n (M.plus (fun j => [d0, d1, d2, 2000, d4, d5, d6, d7, d8, d9].getD j 0) (fun j => if j = 10 then b0 else b1)).places.toNat) (opM (M.plus (fun j => [d0, d1, d2, 2000, d4, d5, d6, d7, d8, d9].getD j 0) (fun j => if j = 10 then b0 else b1)) lw ls lc li lb) (M.plus (fun j => [d0, d1, d2, 2000, d4, d5, d6, d7, d8, d9].getD j 0) (fun j => if j = 10 then b0 else b1)).places.toNat).2.1 = zt at hsa2
        have HSA2 := Lib.hid hsa2
        clear hsa2 hs hall HO hNT hd1 hd2
        have x2 := (HW.out.below hV2).cell 2
        simp only [List.getElem?_toArray, List.getElem?_cons_succ, List.getElem?_cons_zero] at x2
        clear HV
        have nHX := Lib.hid (HX.out.below hV2)
        have nHY := Lib.hid (HY.out.below hV2)
        have nHW := Lib.hid (HW.out.below hV2)
        have nHQ := Lib.hid (HQ.out.below hV2)
        have nHA := Lib.hid (HA.out.below hV2)
        have nHB := Lib.hid (bthen HB.out hV2)
        clear HX HY HW HQ HA HB hV2
        have HX := nHX
        have HY := nHY
        have HW := nHW
        have HQ := nHQ
        have HA := nHA
        have HB := nHB
        clear nHX nHY nHW nHQ nHA nHB
        have x19 := HX.out.cell 19
        simp only [List.getElem?_toArray, List.getElem?_cons_succ, List.getElem?_cons_zero] at x19
        have tok2 : True := trivial
        have tok4 : True := trivial
        have tok6 : True := trivial
        -- MARK6
        go_wp2_with (first | (have _t := tok6; refine wpl_row rfl 29 (.tmp 11) rfl _ rfl #[.int .i64 M.places, .int .i64 M.any.a0, .int .i64 M.any.a1, .int .i64 M.any.a2, .int .i64 M.any.a3, .int .i64 M.any.a4, .int .i64 M.any.a5, .bool M.any.i, .bool M.any.s, .int .i64 M.mw, .int .i64 M.ms, .int .i64 M.mc, .slice D (M.n + 1) cD, .slice AS M.m cS] 14 HQ.out Tryz.rowMet rfl ?_; simp only [Act.put]; clear tok6) | (have _t := tok4; refine wpl_mid rfl 31 _ rfl w.heap.size 14 rfl 34 #[.int .i64 M.places, .int .i64 M.any.a0, .int .i64 M.any.a1, .int .i64 M.any.a2, .int .i64 M.any.a3, .int .i64 M.any.a4, .int .i64 M.any.a5, .bool M.any.i, .bool M.any.s, .int .i64 M.mw, .int .i64 M.ms, .int .i64 M.mc, .slice AF M.n cF, .slice AS M.m cS, .int .i64 lw, .int .i64 ls, .int .i64 lc, .bool li, .bool lb, .slice A n c] #[.int .i64 lw, .int .i64 ls, .int .i64 lc, .bool li, .bool lb] 5 HX.out Tryz.rowMin [.int .i64 M.places, .int .i64 M.any.a0, .int .i64 M.any.a1, .int .i64 M.any.a2, .int .i64 M.any.a3, .int .i64 M.any.a4, .int .i64 M.any.a5, .bool M.any.i, .bool M.any.s, .int .i64 M.mw, .int .i64 M.ms, .int .i64 M.mc, .slice AF M.n cF, .slice AS M.m cS] [.slice A n c] rfl rfl rfl ?_; simp only [Act.put]; clear tok4) | (have _t := tok2; refine wpl_row rfl 37 (.tmp 4) rfl _ rfl #[.slice AR F.m cR, .int .i64 F.dep, .int .i64 F.fuel, .int .i64 F.burn, .int .i64 F.res] 5 HY.out Tryz.rowFli rfl ?_; simp only [Act.put]; clear tok2))
        refine (HSA2.out _ HA.out (HL.out.below HB.out) (HR.out.below HB.out)).mono ?_
        rintro e w7 ⟨rfl, hb7⟩
        clear x19 x2 HQ HA
        have nHX := Lib.hid (HX.out.below hb7)
        have nHY := Lib.hid (HY.out.below hb7)
        have nHW := Lib.hid (HW.out.below hb7)
        have nHB := Lib.hid (bthen HB.out hb7)
        clear HX HY HW HB hb7
        have HX := nHX
        have HY := nHY
        have HW := nHW
        have HB := nHB
        clear nHX nHY nHW nHB
        go_wp2_with (first | (go_at_call 18; (with_reducible refine (rworks_c _).mono ?_); rintro e w1 ⟨rfl, hb1⟩; have nHX := Lib.hid (HX.out.below hb1); have nHY := Lib.hid (HY.out.below hb1); have nHW := Lib.hid (HW.out.below hb1); have nHB := Lib.hid (bthen HB.out hb1); have zz1 := hb1.size; clear HX HY HW HB hb1; have HX := nHX; have HY := nHY; have HW := nHW; have HB := nHB; clear nHX nHY nHW nHB))
        go_ret
        exact ⟨rfl, HB.out⟩
end Go.Proofs.YtonfnhonbnfdoaaGreat
