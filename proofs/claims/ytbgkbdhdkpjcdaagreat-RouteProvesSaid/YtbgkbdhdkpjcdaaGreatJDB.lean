/- Texts joined: JDB. -/
import Derived.Test.YtbgkbdhdkpjcdaaGreatJDA
import Derived.Test.YtbgkbdhdkpjcdaaGreatJAW
import Derived.Test.YtbgkbdhdkpjcdaaGreatNbH
import Derived.Test.YtbgkbdhdkpjcdaaGreatNbM
import Derived.Test.YtbgkbdhdkpjcdaaGreatNbK
import Derived.Test.YtbgkbdhdkpjcdaaGreatNdF
set_option linter.all false
namespace Go.Proofs.YtbgkbdhdkpjcdaaGreat
open Go Go.RowKit Go.Proofs
set_option maxRecDepth 100000
set_option maxHeartbeats 8000000
theorem eqI_comm (a b : HvI) : eqI a b = eqI b a := by
  cases h : eqI b a with
  | true => rw [eqI_iff.1 h]; exact eqI_iff.2 rfl
  | false =>
    cases h2 : eqI a b with
    | false => rfl
    | true => rw [eqI_iff.1 h2, eqI_iff.2 rfl] at h; cases h
def anyI (l : List HavD) (x : HvI) (j : Nat) : Bool := (List.range j).any fun i => eqI x (hvi (hvx l i))
theorem anyI_succ (l : List HavD) (x : HvI) (j : Nat) : anyI l x (j + 1) = (anyI l x j || eqI x (hvi (hvx l j))) := by
  unfold anyI
  rw [List.range_succ, List.any_append]
  simp
theorem r5Proves_c (M : MetD) (vF vS : Value) (lw ls lc : Int) (li lb : Bool) (A : Option Addr) (n c : Nat) (S : Tab) (F : FliD) (vR : Value) (AP : Option Addr) (k cP : Nat) (pf : Nat → HvI) (w : World) (hM : MetAt w vF vS M) (hc1 : n ≤ c) (hc2 : c ≤ 9223372036854775807) (hL : RecsAt w A n 3 (nV S)) (hR : SlI w vR F.m F.R) (hk1 : k ≤ cP) (hk2 : cP ≤ 9223372036854775807) (hPf : RecsAt w AP k 3 (nHi pf)) :
   Calls Tryz.prog 44 #[.agg #[.int .i64 M.places, .int .i64 M.any.a0, .int .i64 M.any.a1, .int .i64 M.any.a2, .int .i64 M.any.a3, .int .i64 M.any.a4, .int .i64 M.any.a5, .bool M.any.i, .bool M.any.s, .int .i64 M.mw, .int .i64 M.ms, .int .i64 M.mc, vF, vS], .agg #[.int .i64 lw, .int .i64 ls, .int .i64 lc, .bool li, .bool lb], .slice A n c, .agg #[vR, .int .i64 F.dep, .int .i64 F.fuel, .int .i64 F.burn, .int .i64 F.res], .slice AP k cP] w fun e w' => e = .returned (.tuple #[.int .i64 (prvE (nfE (netME M lw ls lc S n) M S n F) M lw ls lc li lb S n F k pf).1, .int .i64 (prvE (nfE (netME M lw ls lc S n) M S n F) M lw ls lc li lb S n F k pf).2]) ∧ RowKit.Below w.heap.size w w' := by
  have HM := Lib.hid hM
  have HL := Lib.hid hL
  have HR := Lib.hid hR
  have HPF := Lib.hid hPf
  have HCA := Lib.hid (fun w1 h1 h2 h3 => r5checkAll_c M vF vS lw ls lc li lb A n c S F vR w1 h1 hc1 hc2 h2 h3)
  have hok := fun h => nfM_ok (M := M) (lw := lw) (ls := ls) (lc := lc) (S := S) (n := n) (F := F) h
  clear hM hL hR hPf
  have tok : True := trivial
  have tok2 : True := trivial
  have tok3 : True := trivial
  unfold prvE
  generalize nfE (netME M lw ls lc S n) M S n F = NE at *
  by_cases h0 : NE = 0
  case neg =>
    rw [if_neg h0]
    have hz : (NE != 0) = true := by simpa using h0
    clear h0 hok
    go_enter Tryz.func44, Tryz.ntmps44
    go_wp2_with (fail)
    have _x := frm3 w #[.int .i64 M.places, .int .i64 M.any.a0, .int .i64 M.any.a1, .int .i64 M.any.a2, .int .i64 M.any.a3, .int .i64 M.any.a4, .int .i64 M.any.a5, .bool M.any.i, .bool M.any.s, .int .i64 M.mw, .int .i64 M.ms, .int .i64 M.mc, vF, vS] 29 #[.int .i64 lw, .int .i64 ls, .int .i64 lc, .bool li, .bool lb] 31 #[vR, .int .i64 F.dep, .int .i64 F.fuel, .int .i64 F.burn, .int .i64 F.res] 37
    have HX := Lib.hid _x.1
    have HI := Lib.hid _x.2.1
    have HF := Lib.hid _x.2.2.1
    have HB := Lib.hid _x.2.2.2.1
    have zW := _x.2.2.2.2
    clear _x
    generalize World.alloc (World.alloc (World.alloc w _) _) _ = W at *
    go_wp2_with (first | (have _t := tok; refine wpl_row rfl 29 (.tmp 5) rfl _ rfl #[.int .i64 M.places, .int .i64 M.any.a0, .int .i64 M.any.a1, .int .i64 M.any.a2, .int .i64 M.any.a3, .int .i64 M.any.a4, .int .i64 M.any.a5, .bool M.any.i, .bool M.any.s, .int .i64 M.mw, .int .i64 M.ms, .int .i64 M.mc, vF, vS] 14 HX.out Tryz.rowMet rfl ?_; simp only [Act.put]; clear tok) | (have _t := tok2; refine wpl_row rfl 31 (.tmp 6) rfl _ rfl #[.int .i64 lw, .int .i64 ls, .int .i64 lc, .bool li, .bool lb] 5 HI.out Tryz.rowMin rfl ?_; simp only [Act.put]; clear tok2) | (have _t := tok3; refine wpl_row rfl 37 (.tmp 8) rfl _ rfl #[vR, .int .i64 F.dep, .int .i64 F.fuel, .int .i64 F.burn, .int .i64 F.res] 5 HF.out Tryz.rowFli rfl ?_; simp only [Act.put]; clear tok3) | (go_at_call 95; (with_reducible refine (HCA.out _ (HM.out.below HB.out) (HL.out.below HB.out) (HR.out.below HB.out)).mono ?_); rintro e w1 ⟨rfl, hb1⟩; have nHX := Lib.hid (HX.out.below hb1); have nHI := Lib.hid (HI.out.below hb1); have nHF := Lib.hid (HF.out.below hb1); have nHB := Lib.hid (bthen HB.out hb1); have zz1 := hb1.size; clear HX HI HF HB hb1; have HX := nHX; have HI := nHI; have HF := nHF; have HB := nHB; clear nHX nHI nHF nHB))
    go_ret2
    exact ⟨rfl, HB.out⟩
  subst h0
  rw [if_pos rfl]
  obtain ⟨f3, f4, f5, f6, f7⟩ := hok rfl
  have hdl := FliD.dep_le f7
  have hend := f7.2.2
  have hd0 := (FliD.nums_iff.1 f7.1).2.1
  have har : F.at_ (lgT S n) (F.m - 1) = F.arr (lgT S n) := rfl
  have hlen := fun t => FliD.havK_len (F := F) (lt := lgT S n) (tt := timT S n M.places.toNat) (op := opM M lw ls lc li lb) (t := t) (dry := false) M.places.toNat
  have hp8 := f4.2
  have HHV := Lib.hid (fun t w1 h1 h2 h3 ha hb => r5havens_c M vF vS lw ls lc li lb A n c S M.places.toNat F vR t w1 h1 hc1 hc2 h2 h3 f7 f6 f3 f4 ha hb)
  have HEN := Lib.hid (fun w1 h2 h3 => r5end_c A n c S M.places.toNat F vR w1 hc1 hc2 h2 h3 f6 f7)
  rw [har] at HHV hend
  obtain ⟨T, hT⟩ : ∃ T, T = F.ticks (lgT S n) := ⟨_, rfl⟩
  have hTz : (T : Int) = F.arr (lgT S n) - F.dep + 1 := by rw [hT]; unfold FliD.ticks; omega
  rw [← hT]
  obtain ⟨g, hg⟩ : ∃ g, g = F.prvG (lgT S n) (timT S n M.places.toNat) (opM M lw ls lc li lb) M.places.toNat pf := ⟨_, rfl⟩
  rw [← hg]
  have HG := Lib.hid (fun i => show g i = hasI (F.havK (lgT S n) (timT S n M.places.toNat) (opM M lw ls lc li lb) (F.dep + (i : Int)) false M.places.toNat) (pf i) by rw [hg]; rfl)
  obtain ⟨q, hq⟩ : ∃ q, q = min k T := ⟨_, rfl⟩
  obtain ⟨RES, hRES⟩ : ∃ R, R = prvV k T (prvR g q 0) := ⟨_, rfl⟩
  rw [← hq, ← hRES]
  have HN0 := Lib.hid (show prvV k T (prvR g (q - 0) 0) = RES by rw [hRES, Nat.sub_zero])
  have HLEN := Lib.hid hlen
  have hT3 : T ≤ 3000 := by omega
  have HQ := Lib.hid hq
  generalize F.arr (lgT S n) = ar at *
  have hw1 : IntKind.i64.wrap (ar - F.dep) = ar - F.dep := by rw [IntKind.wrap_i64]; omega
  have hw2 : IntKind.i64.wrap (ar - F.dep + 1) = (T : Int) := by rw [IntKind.wrap_i64]; omega
  clear hok hT har hdl hRES hg hlen hq f3 f4 f5 f6 f7
  go_enter Tryz.func44, Tryz.ntmps44
  go_wp2_with (fail)
  have _x := frm3 w #[.int .i64 M.places, .int .i64 M.any.a0, .int .i64 M.any.a1, .int .i64 M.any.a2, .int .i64 M.any.a3, .int .i64 M.any.a4, .int .i64 M.any.a5, .bool M.any.i, .bool M.any.s, .int .i64 M.mw, .int .i64 M.ms, .int .i64 M.mc, vF, vS] 29 #[.int .i64 lw, .int .i64 ls, .int .i64 lc, .bool li, .bool lb] 31 #[vR, .int .i64 F.dep, .int .i64 F.fuel, .int .i64 F.burn, .int .i64 F.res] 37
  have HX := Lib.hid _x.1
  have HI := Lib.hid _x.2.1
  have HF := Lib.hid _x.2.2.1
  have HB := Lib.hid _x.2.2.2.1
  have zW := _x.2.2.2.2
  clear _x
  generalize World.alloc (World.alloc (World.alloc w _) _) _ = W at *
  go_wp2_with (first | (have _t := tok; refine wpl_row rfl 29 (.tmp 5) rfl _ rfl #[.int .i64 M.places, .int .i64 M.any.a0, .int .i64 M.any.a1, .int .i64 M.any.a2, .int .i64 M.any.a3, .int .i64 M.any.a4, .int .i64 M.any.a5, .bool M.any.i, .bool M.any.s, .int .i64 M.mw, .int .i64 M.ms, .int .i64 M.mc, vF, vS] 14 HX.out Tryz.rowMet rfl ?_; simp only [Act.put]; clear tok) | (have _t := tok2; refine wpl_row rfl 31 (.tmp 6) rfl _ rfl #[.int .i64 lw, .int .i64 ls, .int .i64 lc, .bool li, .bool lb] 5 HI.out Tryz.rowMin rfl ?_; simp only [Act.put]; clear tok2) | (have _t := tok3; refine wpl_row rfl 37 (.tmp 8) rfl _ rfl #[vR, .int .i64 F.dep, .int .i64 F.fuel, .int .i64 F.burn, .int .i64 F.res] 5 HF.out Tryz.rowFli rfl ?_; simp only [Act.put]; clear tok3) | (go_at_call 95; (with_reducible refine (HCA.out _ (HM.out.below HB.out) (HL.out.below HB.out) (HR.out.below HB.out)).mono ?_); rintro e w1 ⟨rfl, hb1⟩; have nHX := Lib.hid (HX.out.below hb1); have nHI := Lib.hid (HI.out.below hb1); have nHF := Lib.hid (HF.out.below hb1); have nHB := Lib.hid (bthen HB.out hb1); have zz1 := hb1.size; clear HX HI HF HB hb1; have HX := nHX; have HI := nHI; have HF := nHF; have HB := nHB; clear nHX nHI nHF nHB))
  clear HCA
  have x1 : ∀ r : After w1, r.w.cell? ⟨w.heap.size + 1 + 1, 1, none⟩ = some (.int .i64 F.dep) := fun r => (HF.out.below r.below).cell 1
  have hF2 := Lib.hid (fun r : After w1 => HF.out.below r.below)
  have HE2 := Lib.hid (fun r : After w1 => HEN.out r.w ((HL.out.below HB.out).below r.below) ((HR.out.below HB.out).below r.below))
  refine wp_region_aftert 7 (by kernel_rfl) (by kernel_rfl) ?_
  simp only [List.take_succ_cons, List.take_zero, List.drop_succ_cons, List.drop_zero]
  go_big_quiet_step (fail)
  refine wpq_row rfl 37 _ rfl (w.heap.size + 1 + 1) rfl #[vR, .int .i64 F.dep, .int .i64 F.fuel, .int .i64 F.burn, .int .i64 F.res] 5 (fun _ hw => by obtain ⟨r, rfl⟩ := hw; exact hF2.out r) Tryz.rowFli rfl ?_; simp only [Act.put, List.setIfInBounds_toArray, List.set_cons_succ, List.set_cons_zero]
  go_big_quiet_step (first | (go_at_call 96; (with_reducible refine qafter (HE2.out _))))
  iterate 4 (go_big_quiet_step (fail))
  refine wpQuiet_nil ?_
  rintro w3 ⟨r3, hr3⟩
  have hb3 : RowKit.Below w1.heap.size w1 w3 := by rw [hr3]; exact r3.below
  clear hr3 r3 hF2 HE2 x1
  have nHX := Lib.hid (HX.out.below hb3)
  have nHI := Lib.hid (HI.out.below hb3)
  have nHF := Lib.hid (HF.out.below hb3)
  have nHB := Lib.hid (bthen HB.out hb3)
  clear HX HI HF HB hb3
  have HX := nHX
  have HI := nHI
  have HF := nHF
  have HB := nHB
  clear nHX nHI nHF nHB
  go_wp2_with (fail)
  have HW0 := Lib.hid (RowKit.Below.refl w3.heap.size w3)
  clear hw1 hw2
  rw [← hTz]
  have HTZ := Lib.hid hTz
  clear hTz
  go_loopg [14] T (fun gy iv wr => ∃ i : Nat, iv = .int .i64 i ∧ i ≤ q ∧ T - i ≤ gy ∧ Hid (prvV k T (prvR g (q - i) i) = RES) ∧ Hid (RowKit.Below w3.heap.size w3 wr))
  case atStart => exact ⟨0, rfl, Nat.zero_le _, Nat.sub_le _ _, HN0, HW0⟩
  case round =>
    clear HN0 HW0
    obtain ⟨i, rfl, hi, hgy, HN, HW⟩ := hrel
    have hqm := HQ.out
    by_cases hlt : i < T
    case pos =>
      have hltz : (i : Int) < (T : Int) := by omega
      by_cases hik : i < k
      case neg =>
        have hge : (i : Int) ≥ (k : Int) := by omega
        have hN := HN.out
        rw [show q - i = 0 by omega] at hN
        unfold prvR prvV at hN
        rw [if_neg (show ¬ k = T by omega), show min k T = i by omega] at hN
        subst hN
        clear hqm
        go_wp2_with (fail)
        go_ret2
        exact ⟨rfl, bthen HB.out HW.out⟩
      have hikz : (i : Int) < (k : Int) := by omega
      have hnge : ¬ (i : Int) ≥ (k : Int) := by omega
      have hN := HN.out
      obtain ⟨d, hd⟩ : ∃ d, q - i = d + 1 := ⟨q - i - 1, by omega⟩
      rw [hd] at hN
      unfold prvR at hN
      rw [HG.out i] at hN
      have hle := HLEN.out (F.dep + (i : Int))
      have hh := fun w1 h1 h2 h3 => HHV.out (F.dep + (i : Int)) w1 h1 h2 h3 (by omega) (by have := HTZ.out; omega)
      generalize F.havK (lgT S n) (timT S n M.places.toNat) (opM M lw ls lc li lb) (F.dep + (i : Int)) false M.places.toNat = l at *
      have HH := Lib.hid hh
      have HD := Lib.hid hd
      clear HN hh hd
      obtain ⟨bP, oP, rfl, hbP, hcP⟩ := HPF.out (by omega)
      have q0 : w.cell? ⟨bP, oP + i * 3, none⟩ = some (.int .i64 (pf i).p) := hcP i (by omega) 0 (by omega)
      have q1 : w.cell? ⟨bP, oP + i * 3 + 1, none⟩ = some (.int .i64 (pf i).t) := hcP i (by omega) 1 (by omega)
      have q2 : w.cell? ⟨bP, oP + i * 3 + 2, none⟩ = some (.bool (pf i).b) := hcP i (by omega) 2 (by omega)
      rcases hx : pf i with ⟨xp, xt, xb⟩
      rw [hx] at hN q0 q1 q2
      dsimp only at q0 q1 q2
      have HC := Lib.hid (And.intro q0 (And.intro q1 q2))
      obtain ⟨ln, hln⟩ : ∃ ln, ln = l.length := ⟨_, rfl⟩
      have hN2 : prvV k T (if anyI l ⟨xp, xt, xb⟩ ln = true then prvR g d (i + 1) else some i) = RES := by rw [hln]; exact hN
      have HN := Lib.hid hN2
      have hwi : IntKind.i64.wrap (F.dep + (i : Int)) = F.dep + (i : Int) := by rw [IntKind.wrap_i64]; have := HTZ.out; omega
      have nX := Lib.hid (HX.out.below HW.out)
      have nI := Lib.hid (HI.out.below HW.out)
      have nF := Lib.hid (HF.out.below HW.out)
      have HBW := Lib.hid (bthen HB.out HW.out)
      have y1 := nF.out.cell 1
      simp only [List.getElem?_toArray, List.getElem?_cons_succ, List.getElem?_cons_zero] at y1
      have tok : True := trivial
      have tok2 : True := trivial
      have tok3 : True := trivial
      clear hN hN2 q0 q1 q2 hx hcP hqm
      go_wp2_with (first | (have _t := tok; refine wpl_row rfl 29 (.tmp 5) rfl _ rfl #[.int .i64 M.places, .int .i64 M.any.a0, .int .i64 M.any.a1, .int .i64 M.any.a2, .int .i64 M.any.a3, .int .i64 M.any.a4, .int .i64 M.any.a5, .bool M.any.i, .bool M.any.s, .int .i64 M.mw, .int .i64 M.ms, .int .i64 M.mc, vF, vS] 14 nX.out Tryz.rowMet rfl ?_; simp only [Act.put]; clear tok) | (have _t := tok2; refine wpl_row rfl 31 (.tmp 6) rfl _ rfl #[.int .i64 lw, .int .i64 ls, .int .i64 lc, .bool li, .bool lb] 5 nI.out Tryz.rowMin rfl ?_; simp only [Act.put]; clear tok2) | (have _t := tok3; refine wpl_row rfl 37 (.tmp 8) rfl _ rfl #[vR, .int .i64 F.dep, .int .i64 F.fuel, .int .i64 F.burn, .int .i64 F.res] 5 nF.out Tryz.rowFli rfl ?_; simp only [Act.put]; clear tok3))
      refine (HH.out _ (HM.out.below HBW.out) (HL.out.below HBW.out) (HR.out.below HBW.out)).mono ?_
      rintro e w4 ⟨vO, rfl, hb4, hO⟩
      obtain ⟨AO, cO, rfl, -, -, hO⟩ := hO
      have HO := Lib.hid hO
      have nW := Lib.hid (bthen HW.out hb4)
      rw [← hln] at HO ⊢
      clear y1 hb4 hO HW HBW nX nI nF
      have hln8 : ln ≤ 8 := by omega
      clear hln
      go_wp2_with (fail)
      have HV0 := Lib.hid (RowKit.Below.refl w4.heap.size w4)
      go_loopg [16, 17] ln (fun gy bv jv wr => ∃ j : Nat, bv = .bool (anyI l ⟨xp, xt, xb⟩ j) ∧ jv = .int .i64 j ∧ j ≤ ln ∧ ln - j ≤ gy ∧ Hid (RowKit.Below w4.heap.size w4 wr))
      case atStart => exact ⟨0, rfl, rfl, Nat.zero_le _, Nat.sub_le _ _, HV0⟩
      case round =>
        clear HV0
        obtain ⟨j, rfl, rfl, hj, hgy2, HV⟩ := hrel
        by_cases hlt2 : j < ln
        case pos =>
          have hlt2z : (j : Int) < (ln : Int) := by omega
          obtain ⟨bO, oO, rfl, hbO, hcO⟩ := HO.out (by omega)
          have a0 : wr.cell? ⟨bO, oO + j * 3, none⟩ = some (.int .i64 (hvx l j).p) := (HV.out.cell (p := ⟨bO, oO + j * 3, none⟩) hbO).trans (hcO j hlt2 0 (by omega))
          have a1 : wr.cell? ⟨bO, oO + j * 3 + 1, none⟩ = some (.int .i64 (hvx l j).t) := (HV.out.cell (p := ⟨bO, oO + j * 3 + 1, none⟩) hbO).trans (hcO j hlt2 1 (by omega))
          have a2 : wr.cell? ⟨bO, oO + j * 3 + 2, none⟩ = some (.bool (hvx l j).b) := (HV.out.cell (p := ⟨bO, oO + j * 3 + 2, none⟩) hbO).trans (hcO j hlt2 2 (by omega))
          have q0 : wr.cell? ⟨bP, oP + i * 3, none⟩ = some (.int .i64 xp) := ((bthen (bthen HB.out nW.out) HV.out).cell (p := ⟨bP, oP + i * 3, none⟩) hbP).trans HC.out.1
          have q1 : wr.cell? ⟨bP, oP + i * 3 + 1, none⟩ = some (.int .i64 xt) := ((bthen (bthen HB.out nW.out) HV.out).cell (p := ⟨bP, oP + i * 3 + 1, none⟩) hbP).trans HC.out.2.1
          have q2 : wr.cell? ⟨bP, oP + i * 3 + 2, none⟩ = some (.bool xb) := ((bthen (bthen HB.out nW.out) HV.out).cell (p := ⟨bP, oP + i * 3 + 2, none⟩) hbP).trans HC.out.2.2
          have hsu := anyI_succ l ⟨xp, xt, xb⟩ j
          rw [eqI_comm] at hsu
          have heq : eqI (hvi (hvx l j)) ⟨xp, xt, xb⟩ = (decide (((hvx l j).p : Int) = xp) && (decide ((hvx l j).t = xt) && ((hvx l j).b == xb))) := rfl
          rw [heq] at hsu
          clear hcO heq
          obtain ⟨bb, hbb⟩ : ∃ bb, bb = anyI l ⟨xp, xt, xb⟩ j := ⟨_, rfl⟩
          rw [← hbb] at hsu ⊢
          generalize ((hvx l j).p : Int) = yp at *
          generalize (hvx l j).t = yt at *
          generalize (hvx l j).b = yb at *
          cases bb
          case true =>
            have HA := Lib.hid (show anyI l ⟨xp, xt, xb⟩ (j + 1) = true by rw [hsu]; rfl)
            clear hsu hbb
            go_wp2_with (fail)
            (refine wp_region_drawnt 12 (by kernel_rfl) (by kernel_rfl) ?_; simp only [List.take_succ_cons, List.take_zero, List.drop_succ_cons, List.drop_zero]; (repeat (go_big_quiet_step ( fail))); refine wpQuiet_nil ?_; rintro _ ⟨nq, rfl⟩)
            have nV := Lib.hid (bdn HV.out nq)
            clear HV a0 a1 a2 q0 q1 q2
            generalize World.drewN _ nq = wq at *
            go_wp2_with (fail)
            go_roundg (ln - (j + 1))
            case measure => omega
            case rel => exact ⟨j + 1, by rw [HA.out], by first | rfl | go_num | (congr 1; omega), by omega, Nat.le_refl _, nV⟩
          rw [Bool.false_or] at hsu
          clear hbb
          cases e1 : yp == xp
          · have HA := Lib.hid (show anyI l ⟨xp, xt, xb⟩ (j + 1) = false by rw [hsu, decide_eq_false (by simpa using e1)]; rfl)
            clear hsu
            go_wp2_with (fail)
            (refine wp_region_drawnt 12 (by kernel_rfl) (by kernel_rfl) ?_; simp only [List.take_succ_cons, List.take_zero, List.drop_succ_cons, List.drop_zero]; (repeat (go_big_quiet_step ( fail))); refine wpQuiet_nil ?_; rintro _ ⟨nq, rfl⟩)
            have nV := Lib.hid (bdn HV.out nq)
            clear HV a0 a1 a2 q0 q1 q2
            generalize World.drewN _ nq = wq at *
            go_wp2_with (fail)
            go_roundg (ln - (j + 1))
            case measure => omega
            case rel => exact ⟨j + 1, by rw [HA.out], by first | rfl | go_num | (congr 1; omega), by omega, Nat.le_refl _, nV⟩
          cases e2 : yt == xt
          · have HA := Lib.hid (show anyI l ⟨xp, xt, xb⟩ (j + 1) = false by rw [hsu, decide_eq_true (by simpa using e1), decide_eq_false (by simpa using e2)]; rfl)
            clear hsu
            go_wp2_with (fail)
            (refine wp_region_drawnt 12 (by kernel_rfl) (by kernel_rfl) ?_; simp only [List.take_succ_cons, List.take_zero, List.drop_succ_cons, List.drop_zero]; (repeat (go_big_quiet_step ( fail))); refine wpQuiet_nil ?_; rintro _ ⟨nq, rfl⟩)
            have nV := Lib.hid (bdn HV.out nq)
            clear HV a0 a1 a2 q0 q1 q2
            generalize World.drewN _ nq = wq at *
            go_wp2_with (fail)
            go_roundg (ln - (j + 1))
            case measure => omega
            case rel => exact ⟨j + 1, by rw [HA.out], by first | rfl | go_num | (congr 1; omega), by omega, Nat.le_refl _, nV⟩
          cases e3 : yb == xb
          · have HA := Lib.hid (show anyI l ⟨xp, xt, xb⟩ (j + 1) = false by rw [hsu, decide_eq_true (by simpa using e1), decide_eq_true (by simpa using e2), e3]; rfl)
            clear hsu
            go_wp2_with (fail)
            (refine wp_region_drawnt 12 (by kernel_rfl) (by kernel_rfl) ?_; simp only [List.take_succ_cons, List.take_zero, List.drop_succ_cons, List.drop_zero]; (repeat (go_big_quiet_step ( fail))); refine wpQuiet_nil ?_; rintro _ ⟨nq, rfl⟩)
            have nV := Lib.hid (bdn HV.out nq)
            clear HV a0 a1 a2 q0 q1 q2
            generalize World.drewN _ nq = wq at *
            go_wp2_with (fail)
            go_roundg (ln - (j + 1))
            case measure => omega
            case rel => exact ⟨j + 1, by rw [HA.out], by first | rfl | go_num | (congr 1; omega), by omega, Nat.le_refl _, nV⟩
          · have HA := Lib.hid (show anyI l ⟨xp, xt, xb⟩ (j + 1) = true by rw [hsu, decide_eq_true (by simpa using e1), decide_eq_true (by simpa using e2), e3]; rfl)
            clear hsu
            go_wp2_with (fail)
            (refine wp_region_drawnt 12 (by kernel_rfl) (by kernel_rfl) ?_; simp only [List.take_succ_cons, List.take_zero, List.drop_succ_cons, List.drop_zero]; (repeat (go_big_quiet_step ( fail))); refine wpQuiet_nil ?_; rintro _ ⟨nq, rfl⟩)
            have nV := Lib.hid (bdn HV.out nq)
            clear HV a0 a1 a2 q0 q1 q2
            generalize World.drewN _ nq = wq at *
            go_wp2_with (fail)
            go_roundg (ln - (j + 1))
            case measure => omega
            case rel => exact ⟨j + 1, by rw [HA.out], by first | rfl | go_num | (congr 1; omega), by omega, Nat.le_refl _, nV⟩
        obtain rfl : ln = j := by omega
        have hnlt : ¬ (ln : Int) < (ln : Int) := by omega
        have hN := HN.out
        have nV := Lib.hid (bthen nW.out HV.out)
        clear HN
        cases hany : anyI l ⟨xp, xt, xb⟩ ln
        case false =>
          rw [hany, if_neg (by decide)] at hN
          have hres : ((i : Nat) : Int) = RES.1 ∧ (52 : Int) = RES.2 := by rw [← hN]; exact ⟨rfl, rfl⟩
          have HRR := Lib.hid hres
          clear hN hres hany
          go_wp2_with (fail)
          go_ret2
          exact ⟨by rw [← HRR.out.1, ← HRR.out.2]; rfl, bthen HB.out nV.out⟩
        rw [hany, if_pos rfl] at hN
        have HN := Lib.hid hN
        clear hN hany
        go_wp2_with (fail)
        go_roundg (T - (i + 1))
        case measure => omega
        case rel => exact ⟨i + 1, by first | rfl | go_num | (congr 1; omega), by have := HD.out; omega, Nat.le_refl _, Lib.hid (by rw [show q - (i + 1) = d by have := HD.out; omega]; exact HN.out), nV⟩
    obtain rfl : T = i := by omega
    have hN := HN.out
    rw [show q - T = 0 by omega] at hN
    unfold prvR prvV at hN
    have hge : ¬ (T : Int) < (T : Int) := by omega
    by_cases hkt : k = T
    · have hgt : ¬ (k : Int) > (T : Int) := by omega
      rw [if_pos hkt] at hN
      subst hN
      clear hqm hkt
      go_wp2_with (fail)
      go_ret2
      exact ⟨rfl, bthen HB.out HW.out⟩
    · have hgt : (k : Int) > (T : Int) := by omega
      rw [if_neg hkt, show min k T = T by omega] at hN
      subst hN
      clear hqm hkt
      go_wp2_with (fail)
      go_ret2
      exact ⟨rfl, bthen HB.out HW.out⟩
end Go.Proofs.YtbgkbdhdkpjcdaaGreat

namespace Go.Proofs.YtbgkbdhdkpjcdaaGreat
open Go Go.RowKit Go.Proofs
set_option maxRecDepth 100000
set_option maxHeartbeats 8000000
theorem RouteProves_c (M : MetD) (vF vS : Value) (lw ls lc : Int) (li lb : Bool) (A : Option Addr) (n c : Nat) (S : Tab) (F : FliD) (vR : Value) (AP : Option Addr) (k cP : Nat) (pf : Nat → HvI) (w : World) (hM : MetAt w vF vS M) (hc1 : n ≤ c) (hc2 : c ≤ 9223372036854775807) (hL : RecsAt w A n 3 (nV S)) (hR : SlI w vR F.m F.R) (hk1 : k ≤ cP) (hk2 : cP ≤ 9223372036854775807) (hPf : RecsAt w AP k 3 (nHi pf)) :
   Calls Tryz.prog 9 #[.agg #[.int .i64 M.places, .int .i64 M.any.a0, .int .i64 M.any.a1, .int .i64 M.any.a2, .int .i64 M.any.a3, .int .i64 M.any.a4, .int .i64 M.any.a5, .bool M.any.i, .bool M.any.s, .int .i64 M.mw, .int .i64 M.ms, .int .i64 M.mc, vF, vS, .int .i64 lw, .int .i64 ls, .int .i64 lc, .bool li, .bool lb, .slice A n c], .agg #[vR, .int .i64 F.dep, .int .i64 F.fuel, .int .i64 F.burn, .int .i64 F.res], .slice AP k cP] w fun e w' => e = .returned (.bool true) ∧ RowKit.Below w.heap.size w w' := by
  have HM := Lib.hid hM
  have HL := Lib.hid hL
  have HR := Lib.hid hR
  have HP := Lib.hid hPf
  have HLO := Lib.hid (fun w1 h1 h2 h3 => l5Long_c M vF vS lw ls lc li lb A n c S F vR w1 h1 hc1 hc2 h2 h3)
  have hh1 := fun w1 h1 h2 h3 h4 => rProves_c M vF vS lw ls lc li lb A n c S F vR AP k cP pf w1 h1 hc1 hc2 h2 h3 hk1 hk2 h4
  have hh2 := fun w1 h1 h2 h3 h4 => r5Proves_c M vF vS lw ls lc li lb A n c S F vR AP k cP pf w1 h1 hc1 hc2 h2 h3 hk1 hk2 h4
  clear hM hL hR hPf
  generalize nfE (netME M lw ls lc S n) M S n F = NE at *
  generalize prvE NE M lw ls lc li lb S n F k pf = X at *
  obtain ⟨xn, xe⟩ := X
  dsimp only at hh1 hh2
  have HH1 := Lib.hid hh1
  have HH2 := Lib.hid hh2
  clear hh1 hh2
  have xnn : (xn == xn) = true := by simp
  have xee : (xe == xe) = true := by simp
  have tok : True := trivial
  have tok2 : True := trivial
  have tok0 : True := trivial
  go_enter Tryz.func9, Tryz.ntmps9
  go_wp2_with (first | (have _t := tok0; generalize hWX : World.alloc (World.alloc w _) _ = W; clear tok0; have _x := duo_r w #[.int .i64 M.places, .int .i64 M.any.a0, .int .i64 M.any.a1, .int .i64 M.any.a2, .int .i64 M.any.a3, .int .i64 M.any.a4, .int .i64 M.any.a5, .bool M.any.i, .bool M.any.s, .int .i64 M.mw, .int .i64 M.ms, .int .i64 M.mc, vF, vS, .int .i64 lw, .int .i64 ls, .int .i64 lc, .bool li, .bool lb, .slice A n c] #[vR, .int .i64 F.dep, .int .i64 F.fuel, .int .i64 F.burn, .int .i64 F.res] 34 37; rw [hWX] at _x; clear hWX; have HX := Lib.hid _x.1; have HY := Lib.hid _x.2.1; have HB := Lib.hid _x.2.2; clear _x) | (have _t := tok; refine wpl_row rfl 34 (.tmp 3) rfl _ rfl #[.int .i64 M.places, .int .i64 M.any.a0, .int .i64 M.any.a1, .int .i64 M.any.a2, .int .i64 M.any.a3, .int .i64 M.any.a4, .int .i64 M.any.a5, .bool M.any.i, .bool M.any.s, .int .i64 M.mw, .int .i64 M.ms, .int .i64 M.mc, vF, vS, .int .i64 lw, .int .i64 ls, .int .i64 lc, .bool li, .bool lb, .slice A n c] 20 HX.out Tryz.rowPlan rfl ?_; simp only [Act.put]; clear tok) | (have _t := tok2; refine wpl_row rfl 37 (.tmp 4) rfl _ rfl #[vR, .int .i64 F.dep, .int .i64 F.fuel, .int .i64 F.burn, .int .i64 F.res] 5 HY.out Tryz.rowFli rfl ?_; simp only [Act.put]; clear tok2))
  refine (HLO.out _ (HM.out.below HB.out) (HL.out.below HB.out) (HR.out.below HB.out)).mono ?_
  rintro e w1 ⟨⟨bb, rfl⟩, hb1⟩
  have nHX := Lib.hid (HX.out.below hb1)
  have nHY := Lib.hid (HY.out.below hb1)
  have nHB := Lib.hid (bthen HB.out hb1)
  clear HX HY HB hb1
  have HX := nHX
  have HY := nHY
  have HB := nHB
  clear nHX nHY nHB
  cases bb
  case true =>
    go_wp2_with (first | (go_at_call 26; (with_reducible refine (rworks_c _).mono ?_); rintro e w1 ⟨rfl, hb1⟩; have nHX := Lib.hid (HX.out.below hb1); have nHY := Lib.hid (HY.out.below hb1); have nHB := Lib.hid (bthen HB.out hb1); have zz1 := hb1.size; clear HX HY HB hb1; have HX := nHX; have HY := nHY; have HB := nHB; clear nHX nHY nHB))
    go_ret
    exact ⟨rfl, HB.out⟩
  have x19 := HX.out.cell 19
  simp only [List.getElem?_toArray, List.getElem?_cons_succ, List.getElem?_cons_zero] at x19
  have tok2 : True := trivial
  have tok3 : True := trivial
  have tok4 : True := trivial
  go_wp2_with (first | (have _t := tok3; refine wpl_mid rfl 29 _ rfl w.heap.size 0 rfl 34 #[.int .i64 M.places, .int .i64 M.any.a0, .int .i64 M.any.a1, .int .i64 M.any.a2, .int .i64 M.any.a3, .int .i64 M.any.a4, .int .i64 M.any.a5, .bool M.any.i, .bool M.any.s, .int .i64 M.mw, .int .i64 M.ms, .int .i64 M.mc, vF, vS, .int .i64 lw, .int .i64 ls, .int .i64 lc, .bool li, .bool lb, .slice A n c] #[.int .i64 M.places, .int .i64 M.any.a0, .int .i64 M.any.a1, .int .i64 M.any.a2, .int .i64 M.any.a3, .int .i64 M.any.a4, .int .i64 M.any.a5, .bool M.any.i, .bool M.any.s, .int .i64 M.mw, .int .i64 M.ms, .int .i64 M.mc, vF, vS] 14 HX.out Tryz.rowMet [] [.int .i64 lw, .int .i64 ls, .int .i64 lc, .bool li, .bool lb, .slice A n c] rfl rfl rfl ?_; simp only [Act.put]; clear tok3) | (have _t := tok4; refine wpl_mid rfl 31 _ rfl w.heap.size 14 rfl 34 #[.int .i64 M.places, .int .i64 M.any.a0, .int .i64 M.any.a1, .int .i64 M.any.a2, .int .i64 M.any.a3, .int .i64 M.any.a4, .int .i64 M.any.a5, .bool M.any.i, .bool M.any.s, .int .i64 M.mw, .int .i64 M.ms, .int .i64 M.mc, vF, vS, .int .i64 lw, .int .i64 ls, .int .i64 lc, .bool li, .bool lb, .slice A n c] #[.int .i64 lw, .int .i64 ls, .int .i64 lc, .bool li, .bool lb] 5 HX.out Tryz.rowMin [.int .i64 M.places, .int .i64 M.any.a0, .int .i64 M.any.a1, .int .i64 M.any.a2, .int .i64 M.any.a3, .int .i64 M.any.a4, .int .i64 M.any.a5, .bool M.any.i, .bool M.any.s, .int .i64 M.mw, .int .i64 M.ms, .int .i64 M.mc, vF, vS] [.slice A n c] rfl rfl rfl ?_; simp only [Act.put]; clear tok4) | (have _t := tok2; refine wpl_row rfl 37 (.tmp 4) rfl _ rfl #[vR, .int .i64 F.dep, .int .i64 F.fuel, .int .i64 F.burn, .int .i64 F.res] 5 HY.out Tryz.rowFli rfl ?_; simp only [Act.put]; clear tok2))
  refine (HH1.out _ (HM.out.below HB.out) (HL.out.below HB.out) (HR.out.below HB.out) (HP.out.below HB.out)).mono ?_
  rintro e w2 ⟨rfl, hb2⟩
  clear x19
  have nHX := Lib.hid (HX.out.below hb2)
  have nHY := Lib.hid (HY.out.below hb2)
  have nHB := Lib.hid (bthen HB.out hb2)
  clear HX HY HB hb2
  have HX := nHX
  have HY := nHY
  have HB := nHB
  clear nHX nHY nHB
  have x19 := HX.out.cell 19
  simp only [List.getElem?_toArray, List.getElem?_cons_succ, List.getElem?_cons_zero] at x19
  have tok2 : True := trivial
  have tok3 : True := trivial
  have tok4 : True := trivial
  go_wp2_with (first | (have _t := tok3; refine wpl_mid rfl 29 _ rfl w.heap.size 0 rfl 34 #[.int .i64 M.places, .int .i64 M.any.a0, .int .i64 M.any.a1, .int .i64 M.any.a2, .int .i64 M.any.a3, .int .i64 M.any.a4, .int .i64 M.any.a5, .bool M.any.i, .bool M.any.s, .int .i64 M.mw, .int .i64 M.ms, .int .i64 M.mc, vF, vS, .int .i64 lw, .int .i64 ls, .int .i64 lc, .bool li, .bool lb, .slice A n c] #[.int .i64 M.places, .int .i64 M.any.a0, .int .i64 M.any.a1, .int .i64 M.any.a2, .int .i64 M.any.a3, .int .i64 M.any.a4, .int .i64 M.any.a5, .bool M.any.i, .bool M.any.s, .int .i64 M.mw, .int .i64 M.ms, .int .i64 M.mc, vF, vS] 14 HX.out Tryz.rowMet [] [.int .i64 lw, .int .i64 ls, .int .i64 lc, .bool li, .bool lb, .slice A n c] rfl rfl rfl ?_; simp only [Act.put]; clear tok3) | (have _t := tok4; refine wpl_mid rfl 31 _ rfl w.heap.size 14 rfl 34 #[.int .i64 M.places, .int .i64 M.any.a0, .int .i64 M.any.a1, .int .i64 M.any.a2, .int .i64 M.any.a3, .int .i64 M.any.a4, .int .i64 M.any.a5, .bool M.any.i, .bool M.any.s, .int .i64 M.mw, .int .i64 M.ms, .int .i64 M.mc, vF, vS, .int .i64 lw, .int .i64 ls, .int .i64 lc, .bool li, .bool lb, .slice A n c] #[.int .i64 lw, .int .i64 ls, .int .i64 lc, .bool li, .bool lb] 5 HX.out Tryz.rowMin [.int .i64 M.places, .int .i64 M.any.a0, .int .i64 M.any.a1, .int .i64 M.any.a2, .int .i64 M.any.a3, .int .i64 M.any.a4, .int .i64 M.any.a5, .bool M.any.i, .bool M.any.s, .int .i64 M.mw, .int .i64 M.ms, .int .i64 M.mc, vF, vS] [.slice A n c] rfl rfl rfl ?_; simp only [Act.put]; clear tok4) | (have _t := tok2; refine wpl_row rfl 37 (.tmp 4) rfl _ rfl #[vR, .int .i64 F.dep, .int .i64 F.fuel, .int .i64 F.burn, .int .i64 F.res] 5 HY.out Tryz.rowFli rfl ?_; simp only [Act.put]; clear tok2))
  refine (HH2.out _ (HM.out.below HB.out) (HL.out.below HB.out) (HR.out.below HB.out) (HP.out.below HB.out)).mono ?_
  rintro e w3 ⟨rfl, hb3⟩
  clear x19
  have nHX := Lib.hid (HX.out.below hb3)
  have nHY := Lib.hid (HY.out.below hb3)
  have nHB := Lib.hid (bthen HB.out hb3)
  clear HX HY HB hb3
  have HX := nHX
  have HY := nHY
  have HB := nHB
  clear nHX nHY nHB
  go_wp2_with (first | (go_at_call 26; (with_reducible refine (rworks_c _).mono ?_); rintro e w1 ⟨rfl, hb1⟩; have nHX := Lib.hid (HX.out.below hb1); have nHY := Lib.hid (HY.out.below hb1); have nHB := Lib.hid (bthen HB.out hb1); have zz1 := hb1.size; clear HX HY HB hb1; have HX := nHX; have HY := nHY; have HB := nHB; clear nHX nHY nHB))
  go_ret
  exact ⟨rfl, HB.out⟩
end Go.Proofs.YtbgkbdhdkpjcdaaGreat
