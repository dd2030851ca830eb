/- Texts joined: JAT. -/
import Derived.Test.YtonfnhonbnfdoaaGreatJAR
import Derived.Test.YtonfnhonbnfdoaaGreatNbE
import Derived.Test.YtonfnhonbnfdoaaGreatNaF
set_option linter.all false
namespace Go.Proofs.YtonfnhonbnfdoaaGreat
open Go Go.RowKit Go.Proofs
set_option maxRecDepth 100000
set_option maxHeartbeats 8000000
def LgB (e : Ending) : Prop := ∃ b : Bool, e = .returned (.bool b)
theorem l5Long_c (M : MetD) (vF vS : Value) (lw ls lc : Int) (li lb : Bool) (A : Option Addr) (n c : Nat) (S : Tab) (F : FliD) (vR : Value) (w : World) (hM : MetAt w vF vS M) (hc1 : n ≤ c) (hc2 : c ≤ 9223372036854775807) (hL : RecsAt w A n 3 (nV S)) (hR : SlI w vR F.m F.R) :
   Calls Tryz.prog 25 #[.agg #[.int .i64 M.places, .int .i64 M.any.a0, .int .i64 M.any.a1, .int .i64 M.any.a2, .int .i64 M.any.a3, .int .i64 M.any.a4, .int .i64 M.any.a5, .bool M.any.i, .bool M.any.s, .int .i64 M.mw, .int .i64 M.ms, .int .i64 M.mc, vF, vS, .int .i64 lw, .int .i64 ls, .int .i64 lc, .bool li, .bool lb, .slice A n c], .agg #[vR, .int .i64 F.dep, .int .i64 F.fuel, .int .i64 F.burn, .int .i64 F.res]] w fun e w' => LgB e ∧ RowKit.Below w.heap.size w w' := by
  have hal := fun w1 h1 h2 h3 => r5Arrive_c M vF vS A n c S F vR w1 h1 hc1 hc2 h2 h3
  have HM := Lib.hid hM
  have HL := Lib.hid hL
  have HR := Lib.hid hR
  obtain ⟨⟨A1, c1, rfl, -⟩, ⟨A2, c2, rfl, -⟩⟩ := id hM
  have HAL := Lib.hid hal
  clear hM hL hR hal
  have hok : nfE (netE M S n) M S n F = 0 → 1 ≤ F.m := fun h => by
    unfold nfE at h
    by_cases h1 : netE M S n = 0
    · rw [if_pos h1] at h
      cases e : F.okB M.places.toNat (lgT S n)
      · rw [e] at h; cases h
      · exact (FliD.nums_iff.1 (FliD.okB_iff.1 e).1).1.1
    · rw [if_neg h1] at h; exact absurd h h1
  generalize nfE (netE M S n) M S n F = NE at *
  have HOK := Lib.hid hok
  clear hok
  have tok : True := trivial
  have tok0 : True := trivial
  obtain ⟨q, hq1⟩ : ∃ q, IntKind.i64.wrap ((M.n : Int) + (M.m : Int)) = q := ⟨_, rfl⟩
  have hq2 : wrap64 ((M.n : Int) + (M.m : Int)) = q := by rw [← hq1, IntKind.wrap_i64, wrap64]
  go_enter Tryz.func25, Tryz.ntmps25
  go_wp2_with (first | (have _t := tok0; generalize hWX : World.alloc (World.alloc w _) _ = W; clear tok0; have _x := duo_r w #[.int .i64 M.places, .int .i64 M.any.a0, .int .i64 M.any.a1, .int .i64 M.any.a2, .int .i64 M.any.a3, .int .i64 M.any.a4, .int .i64 M.any.a5, .bool M.any.i, .bool M.any.s, .int .i64 M.mw, .int .i64 M.ms, .int .i64 M.mc, .slice A1 M.n c1, .slice A2 M.m c2, .int .i64 lw, .int .i64 ls, .int .i64 lc, .bool li, .bool lb, .slice A n c] #[vR, .int .i64 F.dep, .int .i64 F.fuel, .int .i64 F.burn, .int .i64 F.res] 34 37; rw [hWX] at _x; clear hWX; have HX := Lib.hid _x.1; have HY := Lib.hid _x.2.1; have HB := Lib.hid _x.2.2; clear _x; have x12 := HX.out.cell 12; have x13 := HX.out.cell 13; have x19 := HX.out.cell 19; simp only [List.getElem?_toArray, List.getElem?_cons_succ, List.getElem?_cons_zero] at x12 x13 x19) | (refine wpl_mid rfl 29 _ rfl w.heap.size 0 rfl 34 #[.int .i64 M.places, .int .i64 M.any.a0, .int .i64 M.any.a1, .int .i64 M.any.a2, .int .i64 M.any.a3, .int .i64 M.any.a4, .int .i64 M.any.a5, .bool M.any.i, .bool M.any.s, .int .i64 M.mw, .int .i64 M.ms, .int .i64 M.mc, .slice A1 M.n c1, .slice A2 M.m c2, .int .i64 lw, .int .i64 ls, .int .i64 lc, .bool li, .bool lb, .slice A n c] #[.int .i64 M.places, .int .i64 M.any.a0, .int .i64 M.any.a1, .int .i64 M.any.a2, .int .i64 M.any.a3, .int .i64 M.any.a4, .int .i64 M.any.a5, .bool M.any.i, .bool M.any.s, .int .i64 M.mw, .int .i64 M.ms, .int .i64 M.mc, .slice A1 M.n c1, .slice A2 M.m c2] 14 HX.out Tryz.rowMet [] [.int .i64 lw, .int .i64 ls, .int .i64 lc, .bool li, .bool lb, .slice A n c] rfl rfl rfl ?_; simp only [Act.put]) | (have _t := tok; refine wpl_row rfl 37 (.tmp 3) rfl _ rfl #[vR, .int .i64 F.dep, .int .i64 F.fuel, .int .i64 F.burn, .int .i64 F.res] 5 HY.out Tryz.rowFli rfl ?_; simp only [Act.put]; clear tok))
  · go_ret
    exact ⟨⟨_, rfl⟩, HB.out⟩
  · skip
    refine (HAL.out _ (HM.out.below HB.out) (HL.out.below HB.out) (HR.out.below HB.out)).mono ?_
    rintro e w2 ⟨v, rfl, hb2, hv⟩
    have y1 : w2.cell? ⟨w.heap.size + 1, 1, none⟩ = some (.int .i64 F.dep) := (HY.out.below hb2).cell 1
    have HB2 := Lib.hid (bthen HB.out hb2)
    clear HX HY HB hb2
    by_cases h0 : NE = 0
    · subst h0
      obtain ⟨A7, c7, rfl, e2, e3, e4⟩ := hv.1 rfl
      have hm1 := HOK.out rfl
      obtain ⟨b2, o2, rfl, hbb, hc2⟩ := e4 (by omega)
      obtain ⟨m, hme⟩ : ∃ m, m = F.m - 1 := ⟨_, rfl⟩
      have cl : w2.cell? ⟨b2, o2 + m, none⟩ = some (.int .i64 (F.at_ (lgT S n) m)) := by have := hc2 m (by omega) 0 (by omega); rw [Nat.mul_one, Nat.add_zero] at this; exact this
      have hmz : IntKind.i64.wrap ((F.m : Int) - 1) = (m : Int) := by rw [IntKind.wrap_i64]; omega
      have hmz2 : (m : Int) < (F.m : Int) := by omega
      clear hc2 e4 hv hme
      generalize F.at_ (lgT S n) m = D at *
      go_wp2_with (fail)
      (refine wp_region_drawnt 14 (by kernel_rfl) (by kernel_rfl) ?_; simp only [List.take_succ_cons, List.take_zero, List.drop_succ_cons, List.drop_zero]; (repeat (go_big_quiet_step ( fail))); refine wpQuiet_nil ?_; rintro _ ⟨nq, rfl⟩)
      go_wp2_with (fail)
      go_ret
      exact ⟨⟨_, rfl⟩, bdn HB2.out _⟩
    · have h0z : (NE == 0) = false := by simpa using h0
      obtain rfl := hv.2 h0
      clear hv
      go_wp2_with (fail)
      (refine wp_region_drawnt 14 (by kernel_rfl) (by kernel_rfl) ?_; simp only [List.take_succ_cons, List.take_zero, List.drop_succ_cons, List.drop_zero]; (repeat (go_big_quiet_step ( fail))); refine wpQuiet_nil ?_; rintro _ ⟨nq, rfl⟩)
      go_wp2_with (fail)
      go_ret
      exact ⟨⟨_, rfl⟩, bdn HB2.out _⟩
  · skip
    refine (HAL.out _ (HM.out.below HB.out) (HL.out.below HB.out) (HR.out.below HB.out)).mono ?_
    rintro e w2 ⟨v, rfl, hb2, hv⟩
    have y1 : w2.cell? ⟨w.heap.size + 1, 1, none⟩ = some (.int .i64 F.dep) := (HY.out.below hb2).cell 1
    have HB2 := Lib.hid (bthen HB.out hb2)
    clear HX HY HB hb2
    by_cases h0 : NE = 0
    · subst h0
      obtain ⟨A7, c7, rfl, e2, e3, e4⟩ := hv.1 rfl
      have hm1 := HOK.out rfl
      obtain ⟨b2, o2, rfl, hbb, hc2⟩ := e4 (by omega)
      obtain ⟨m, hme⟩ : ∃ m, m = F.m - 1 := ⟨_, rfl⟩
      have cl : w2.cell? ⟨b2, o2 + m, none⟩ = some (.int .i64 (F.at_ (lgT S n) m)) := by have := hc2 m (by omega) 0 (by omega); rw [Nat.mul_one, Nat.add_zero] at this; exact this
      have hmz : IntKind.i64.wrap ((F.m : Int) - 1) = (m : Int) := by rw [IntKind.wrap_i64]; omega
      have hmz2 : (m : Int) < (F.m : Int) := by omega
      clear hc2 e4 hv hme
      generalize F.at_ (lgT S n) m = D at *
      go_wp2_with (fail)
      (refine wp_region_drawnt 14 (by kernel_rfl) (by kernel_rfl) ?_; simp only [List.take_succ_cons, List.take_zero, List.drop_succ_cons, List.drop_zero]; (repeat (go_big_quiet_step ( fail))); refine wpQuiet_nil ?_; rintro _ ⟨nq, rfl⟩)
      go_wp2_with (fail)
      go_ret
      exact ⟨⟨_, rfl⟩, bdn HB2.out _⟩
    · have h0z : (NE == 0) = false := by simpa using h0
      obtain rfl := hv.2 h0
      clear hv
      go_wp2_with (fail)
      (refine wp_region_drawnt 14 (by kernel_rfl) (by kernel_rfl) ?_; simp only [List.take_succ_cons, List.take_zero, List.drop_succ_cons, List.drop_zero]; (repeat (go_big_quiet_step ( fail))); refine wpQuiet_nil ?_; rintro _ ⟨nq, rfl⟩)
      go_wp2_with (fail)
      go_ret
      exact ⟨⟨_, rfl⟩, bdn HB2.out _⟩
  · skip
    refine (HAL.out _ (HM.out.below HB.out) (HL.out.below HB.out) (HR.out.below HB.out)).mono ?_
    rintro e w2 ⟨v, rfl, hb2, hv⟩
    have y1 : w2.cell? ⟨w.heap.size + 1, 1, none⟩ = some (.int .i64 F.dep) := (HY.out.below hb2).cell 1
    have HB2 := Lib.hid (bthen HB.out hb2)
    clear HX HY HB hb2
    by_cases h0 : NE = 0
    · subst h0
      obtain ⟨A7, c7, rfl, e2, e3, e4⟩ := hv.1 rfl
      have hm1 := HOK.out rfl
      obtain ⟨b2, o2, rfl, hbb, hc2⟩ := e4 (by omega)
      obtain ⟨m, hme⟩ : ∃ m, m = F.m - 1 := ⟨_, rfl⟩
      have cl : w2.cell? ⟨b2, o2 + m, none⟩ = some (.int .i64 (F.at_ (lgT S n) m)) := by have := hc2 m (by omega) 0 (by omega); rw [Nat.mul_one, Nat.add_zero] at this; exact this
      have hmz : IntKind.i64.wrap ((F.m : Int) - 1) = (m : Int) := by rw [IntKind.wrap_i64]; omega
      have hmz2 : (m : Int) < (F.m : Int) := by omega
      clear hc2 e4 hv hme
      generalize F.at_ (lgT S n) m = D at *
      go_wp2_with (fail)
      (refine wp_region_drawnt 14 (by kernel_rfl) (by kernel_rfl) ?_; simp only [List.take_succ_cons, List.take_zero, List.drop_succ_cons, List.drop_zero]; (repeat (go_big_quiet_step ( fail))); refine wpQuiet_nil ?_; rintro _ ⟨nq, rfl⟩)
      go_wp2_with (fail)
      go_ret
      exact ⟨⟨_, rfl⟩, bdn HB2.out _⟩
    · have h0z : (NE == 0) = false := by simpa using h0
      obtain rfl := hv.2 h0
      clear hv
      go_wp2_with (fail)
      (refine wp_region_drawnt 14 (by kernel_rfl) (by kernel_rfl) ?_; simp only [List.take_succ_cons, List.take_zero, List.drop_succ_cons, List.drop_zero]; (repeat (go_big_quiet_step ( fail))); refine wpQuiet_nil ?_; rintro _ ⟨nq, rfl⟩)
      go_wp2_with (fail)
      go_ret
      exact ⟨⟨_, rfl⟩, bdn HB2.out _⟩
end Go.Proofs.YtonfnhonbnfdoaaGreat

namespace Go.Proofs.YtonfnhonbnfdoaaGreat
open Go Go.RowKit Go.Proofs
end Go.Proofs.YtonfnhonbnfdoaaGreat
