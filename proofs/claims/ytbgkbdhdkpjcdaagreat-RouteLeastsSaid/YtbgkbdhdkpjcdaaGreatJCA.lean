/- Texts joined: JCA. -/
import Derived.Test.YtbgkbdhdkpjcdaaGreatJAT
import Derived.Test.YtbgkbdhdkpjcdaaGreatNbM
import Derived.Test.YtbgkbdhdkpjcdaaGreatNcB
import Derived.Test.YtbgkbdhdkpjcdaaGreatJAZ
import Derived.Test.YtbgkbdhdkpjcdaaGreatJAX
set_option linter.all false
namespace Go.Proofs.YtbgkbdhdkpjcdaaGreat
open Go Go.RowKit Go.Proofs
set_option maxRecDepth 100000
theorem prfR_len {bf : Int → Option HavD} : ∀ (n : Nat) (t : Int) (l : List HavD), (prfR bf n t l).1.length ≤ n + l.length
  | 0, _, l => by unfold prfR; simp
  | n + 1, t, l => by
    unfold prfR
    cases bf t with
    | none => simp
    | some x =>
      have h := prfR_len (bf := bf) n (t + 1) (l ++ [x])
      simp only [List.length_append, List.length_singleton] at h
      dsimp only
      omega
theorem pfE_len {NE : Int} {M : MetD} {lw ls lc : Int} {li lb : Bool} {S : Tab} {n : Nat} {F : FliD} (h : NE = 0 → F.ticks (lgT S n) ≤ 3000) : (pfE NE M lw ls lc li lb S n F).1.length ≤ 3000 := by
  unfold pfE
  by_cases h0 : NE = 0
  · rw [if_pos h0]
    by_cases h1 : (F.prf (lgT S n) (timT S n M.places.toNat) (opM M lw ls lc li lb) M.places.toNat).2.2 = true
    · rw [if_pos h1]
      have h2 := prfR_len (bf := fun t => bestL (F.havK (lgT S n) (timT S n M.places.toNat) (opM M lw ls lc li lb) t false M.places.toNat)) (F.ticks (lgT S n)) F.dep []
      exact Nat.le_trans h2 (by have := h h0; simpa using this)
    · rw [if_neg h1]; exact Nat.zero_le _
  · rw [if_neg h0]; exact Nat.zero_le _
theorem FliD.ticks_le {F : FliD} {P : Nat} {lt : Tab} (hok : F.ok P lt) : F.ticks lt ≤ 3000 := by
  have hdl := FliD.dep_le hok
  have hend := hok.2.2
  have har : F.at_ lt (F.m - 1) = F.arr lt := rfl
  rw [har] at hend
  have hd0 := (FliD.nums_iff.1 hok.1).2.1.1
  unfold FliD.ticks
  omega
end Go.Proofs.YtbgkbdhdkpjcdaaGreat

namespace Go.Proofs.YtbgkbdhdkpjcdaaGreat
open Go Go.RowKit Go.Proofs
set_option maxRecDepth 100000
set_option maxHeartbeats 8000000
theorem FliD.wetOk {F : FliD} {P : Nat} {lt : Tab} (h : F.ok P lt) : F.wet.ok P lt := by
  obtain ⟨h1, h2, h3⟩ := h
  obtain ⟨a, b, -, d, e⟩ := FliD.nums_iff.1 h1
  refine ⟨FliD.nums_iff.2 ⟨a, b, ⟨(by decide : (0 : Int) ≤ 100000), (by decide : (100000 : Int) ≤ 100000)⟩, d, e⟩, h2, ?_⟩
  rw [FliD.wet_at]
  exact h3
theorem nf_wet {M : MetD} {lw ls lc : Int} {S : Tab} {n : Nat} {F : FliD} (h : nfE (netME M lw ls lc S n) M S n F = 0) : nfE (netME M lw ls lc S n) M S n F.wet = 0 := by
  have hk := (nfM_ok h).2.2.2.2
  unfold nfE at h ⊢
  by_cases h1 : netME M lw ls lc S n = 0
  · rw [if_pos h1, if_pos (FliD.okB_iff.2 (FliD.wetOk hk))]
  · rw [if_neg h1] at h; exact absurd h h1
theorem mxK_ge {f : Nat → HavD} {d : Int} : ∀ n, d ≤ mxK f d n
  | 0 => Int.le_refl _
  | n + 1 => by
    have := mxK_ge (f := f) (d := d) n
    unfold mxK
    omega
/-- The result is a fuel: no step towards it wraps. -/
theorem leaW_in {F : FliD} {P : Nat} {lt tt : Tab} {op : Nat → Int → Bool} (hok : F.ok P lt) (h : (F.wet.prf lt tt op P).2.2 = true) : F.res + F.burn * (mxL (F.wet.prf lt tt op P).1 F.dep - F.dep) ≤ 100000 := by
  have e := least_wet (tt := tt) (op := op) hok
  unfold leaW at e
  rw [if_pos h] at e
  cases e2 : F.leaO lt tt op P with
  | none => rw [e2] at e; exact absurd (show (3 : Int) = 0 from congrArg Prod.snd e) (by decide)
  | some k =>
    rw [e2] at e
    unfold leaV at e
    dsimp only at e
    by_cases hk : k ≤ 100000
    · rw [if_pos hk] at e
      have := congrArg Prod.fst e
      dsimp only at this
      omega
    · rw [if_neg hk] at e; exact absurd (show (3 : Int) = 0 from congrArg Prod.snd e) (by decide)
theorem r5Least_c (M : MetD) (vF vS : Value) (lw ls lc : Int) (li lb : Bool) (A : Option Addr) (n c : Nat) (S : Tab) (F : FliD) (vR : Value) (w : World) (hM : MetAt w vF vS M) (hc1 : n ≤ c) (hc2 : c ≤ 9223372036854775807) (hL : RecsAt w A n 3 (nV S)) (hR : SlI w vR F.m F.R) :
   Calls Tryz.prog 52 #[.agg #[.int .i64 M.places, .int .i64 M.any.a0, .int .i64 M.any.a1, .int .i64 M.any.a2, .int .i64 M.any.a3, .int .i64 M.any.a4, .int .i64 M.any.a5, .bool M.any.i, .bool M.any.s, .int .i64 M.mw, .int .i64 M.ms, .int .i64 M.mc, vF, vS], .agg #[.int .i64 lw, .int .i64 ls, .int .i64 lc, .bool li, .bool lb], .slice A n c, .agg #[vR, .int .i64 F.dep, .int .i64 F.fuel, .int .i64 F.burn, .int .i64 F.res]] w fun e w' => e = .returned (.tuple #[.int .i64 (leE M lw ls lc li lb S n F).1, .int .i64 (leE M lw ls lc li lb S n F).2]) ∧ RowKit.Below w.heap.size w w' := by
  have HM := Lib.hid hM
  have HL := Lib.hid hL
  have HR := Lib.hid hR
  have HCA := Lib.hid (fun w1 h1 h2 h3 => r5checkAll_c M vF vS lw ls lc li lb A n c S F vR w1 h1 hc1 hc2 h2 h3)
  have hpr := fun w1 h1 h2 h3 => r5Proof_c M vF vS lw ls lc li lb A n c S F.wet vR w1 h1 hc1 hc2 h2 h3
  have hok := fun h => nfM_ok (M := M) (lw := lw) (ls := ls) (lc := lc) (S := S) (n := n) (F := F) h
  have hwt := fun h => nf_wet (M := M) (lw := lw) (ls := ls) (lc := lc) (S := S) (n := n) (F := F) h
  have tok : True := trivial
  have tok2 : True := trivial
  have tok3 : True := trivial
  unfold leE
  generalize nfE (netME M lw ls lc S n) M S n F = NE at *
  by_cases h0 : NE = 0
  case neg =>
    rw [if_neg h0]
    have hz : (NE != 0) = true := by simpa using h0
    clear h0 hok hwt hpr hM hL hR
    go_enter Tryz.func52, Tryz.ntmps52
    go_wp2_with (fail)
    have _x := frm3 w #[.int .i64 M.places, .int .i64 M.any.a0, .int .i64 M.any.a1, .int .i64 M.any.a2, .int .i64 M.any.a3, .int .i64 M.any.a4, .int .i64 M.any.a5, .bool M.any.i, .bool M.any.s, .int .i64 M.mw, .int .i64 M.ms, .int .i64 M.mc, vF, vS] 29 #[.int .i64 lw, .int .i64 ls, .int .i64 lc, .bool li, .bool lb] 31 #[vR, .int .i64 F.dep, .int .i64 F.fuel, .int .i64 F.burn, .int .i64 F.res] 37
    have HX := Lib.hid _x.1
    have HI := Lib.hid _x.2.1
    have HF := Lib.hid _x.2.2.1
    have HB := Lib.hid _x.2.2.2.1
    have zW := _x.2.2.2.2
    clear _x
    generalize World.alloc (World.alloc (World.alloc w _) _) _ = W at *
    go_wp2_with (first | (have _t := tok; refine wpl_row rfl 29 (.tmp 4) rfl _ rfl #[.int .i64 M.places, .int .i64 M.any.a0, .int .i64 M.any.a1, .int .i64 M.any.a2, .int .i64 M.any.a3, .int .i64 M.any.a4, .int .i64 M.any.a5, .bool M.any.i, .bool M.any.s, .int .i64 M.mw, .int .i64 M.ms, .int .i64 M.mc, vF, vS] 14 HX.out Tryz.rowMet rfl ?_; simp only [Act.put]; clear tok) | (have _t := tok2; refine wpl_row rfl 31 (.tmp 5) rfl _ rfl #[.int .i64 lw, .int .i64 ls, .int .i64 lc, .bool li, .bool lb] 5 HI.out Tryz.rowMin rfl ?_; simp only [Act.put]; clear tok2) | (have _t := tok3; refine wpl_row rfl 37 (.tmp 7) rfl _ rfl #[vR, .int .i64 F.dep, .int .i64 F.fuel, .int .i64 F.burn, .int .i64 F.res] 5 HF.out Tryz.rowFli rfl ?_; simp only [Act.put]; clear tok3) | (go_at_call 95; (with_reducible refine (HCA.out _ (HM.out.below HB.out) (HL.out.below HB.out) (HR.out.below HB.out)).mono ?_); rintro e w1 ⟨rfl, hb1⟩; have nHX := Lib.hid (HX.out.below hb1); have nHI := Lib.hid (HI.out.below hb1); have nHF := Lib.hid (HF.out.below hb1); have nHB := Lib.hid (bthen HB.out hb1); have zz1 := hb1.size; clear HX HI HF HB hb1; have HX := nHX; have HI := nHI; have HF := nHF; have HB := nHB; clear nHX nHI nHF nHB))
    go_ret2
    exact ⟨rfl, HB.out⟩
  subst h0
  rw [if_pos rfl]
  have hk := (hok rfl).2.2.2.2
  rw [least_wet hk]
  have hin := leaW_in (tt := timT S n M.places.toNat) (op := opM M lw ls lc li lb) hk
  rw [hwt rfl] at hpr
  unfold pfE at hpr
  rw [if_pos rfl] at hpr
  unfold leaW
  have htl := FliD.ticks_le (FliD.wetOk hk)
  have hln := prfR_len (bf := fun t => bestL (F.wet.havK (lgT S n) (timT S n M.places.toNat) (opM M lw ls lc li lb) t false M.places.toNat)) (F.wet.ticks (lgT S n)) F.wet.dep []
  have hg : F.wet.prf (lgT S n) (timT S n M.places.toNat) (opM M lw ls lc li lb) M.places.toNat = prfR (fun t => bestL (F.wet.havK (lgT S n) (timT S n M.places.toNat) (opM M lw ls lc li lb) t false M.places.toNat)) (F.wet.ticks (lgT S n)) F.wet.dep [] := rfl
  rw [← hg, List.length_nil, Nat.add_zero] at hln
  clear hg hok hwt hM hL hR
  generalize F.wet.prf (lgT S n) (timT S n M.places.toNat) (opM M lw ls lc li lb) M.places.toNat = R at *
  obtain ⟨l, rt, rs⟩ := R
  dsimp only at hpr hin hln ⊢
  have hl3 : l.length ≤ 3000 := by omega
  obtain ⟨hm, hd, -, hr, hb1, hb2⟩ := FliD.nums_iff.1 hk.1
  clear hk htl hln
  have HPR := Lib.hid hpr
  clear hpr
  have tok4 : True := trivial
  have tok5 : True := trivial
  have tok6 : True := trivial
  go_enter Tryz.func52, Tryz.ntmps52
  go_wp2_with (fail)
  have _x := frm3 w #[.int .i64 M.places, .int .i64 M.any.a0, .int .i64 M.any.a1, .int .i64 M.any.a2, .int .i64 M.any.a3, .int .i64 M.any.a4, .int .i64 M.any.a5, .bool M.any.i, .bool M.any.s, .int .i64 M.mw, .int .i64 M.ms, .int .i64 M.mc, vF, vS] 29 #[.int .i64 lw, .int .i64 ls, .int .i64 lc, .bool li, .bool lb] 31 #[vR, .int .i64 F.dep, .int .i64 F.fuel, .int .i64 F.burn, .int .i64 F.res] 37
  have HX := Lib.hid _x.1
  have HI := Lib.hid _x.2.1
  have HF := Lib.hid _x.2.2.1
  have HB := Lib.hid _x.2.2.2.1
  have zW := _x.2.2.2.2
  clear _x
  generalize World.alloc (World.alloc (World.alloc w _) _) _ = W at *
  go_wp2_with (first | (have _t := tok; refine wpl_row rfl 29 (.tmp 4) rfl _ rfl #[.int .i64 M.places, .int .i64 M.any.a0, .int .i64 M.any.a1, .int .i64 M.any.a2, .int .i64 M.any.a3, .int .i64 M.any.a4, .int .i64 M.any.a5, .bool M.any.i, .bool M.any.s, .int .i64 M.mw, .int .i64 M.ms, .int .i64 M.mc, vF, vS] 14 HX.out Tryz.rowMet rfl ?_; simp only [Act.put]; clear tok) | (have _t := tok2; refine wpl_row rfl 31 (.tmp 5) rfl _ rfl #[.int .i64 lw, .int .i64 ls, .int .i64 lc, .bool li, .bool lb] 5 HI.out Tryz.rowMin rfl ?_; simp only [Act.put]; clear tok2) | (have _t := tok3; refine wpl_row rfl 37 (.tmp 7) rfl _ rfl #[vR, .int .i64 F.dep, .int .i64 F.fuel, .int .i64 F.burn, .int .i64 F.res] 5 HF.out Tryz.rowFli rfl ?_; simp only [Act.put]; clear tok3))
  refine (HCA.out _ (HM.out.below HB.out) (HL.out.below HB.out) (HR.out.below HB.out)).mono ?_
  rintro e w1 ⟨rfl, hb1⟩
  have nHX := Lib.hid (HX.out.below hb1)
  have nHI := Lib.hid (HI.out.below hb1)
  have nHF := Lib.hid (HF.out.below hb1)
  have nHB := Lib.hid (bthen HB.out hb1)
  clear HX HI HF HB hb1
  have HX := nHX
  have HI := nHI
  have HF := nHF
  have HB := nHB
  clear nHX nHI nHF nHB
  clear HCA
  have fHF := fun i => HF.out.frozen i
  have cHF2 := HF.out.cell 2
  simp only [List.getElem?_toArray, List.getElem?_cons_succ, List.getElem?_cons_zero] at cHF2
  have tokG : True := trivial
  go_wp2_with (first | (have _t := tokG; generalize hWX : World.setCell w1 _ _ = w2; clear tokG; have nX := HX.out.far (p := ⟨w.heap.size + 1 + 1, 2, none⟩) (show w.heap.size ≠ w.heap.size + 1 + 1 by omega) (.int .i64 100000); have nI := HI.out.far (p := ⟨w.heap.size + 1 + 1, 2, none⟩) (show w.heap.size + 1 ≠ w.heap.size + 1 + 1 by omega) (.int .i64 100000); have nF := HF.out.set_ 2 (.int .i64 100000); have nB := bset HB.out (show w.heap.size ≤ w.heap.size + 1 + 1 by omega) (.int .i64 100000) (i := 2); rw [hWX] at nX nI nF nB; clear hWX HX HI HF HB cHF2 fHF; have HX := Lib.hid nX; have HI := Lib.hid nI; have HF : Hid (Blk w2 (w.heap.size + 1 + 1) 37 #[vR, .int .i64 F.dep, .int .i64 100000, .int .i64 F.burn, .int .i64 F.res]) := Lib.hid nF; have HB := Lib.hid nB; clear nX nI nF nB) | (have _t := tok4; refine wpl_row rfl 29 (.tmp 4) rfl _ rfl #[.int .i64 M.places, .int .i64 M.any.a0, .int .i64 M.any.a1, .int .i64 M.any.a2, .int .i64 M.any.a3, .int .i64 M.any.a4, .int .i64 M.any.a5, .bool M.any.i, .bool M.any.s, .int .i64 M.mw, .int .i64 M.ms, .int .i64 M.mc, vF, vS] 14 HX.out Tryz.rowMet rfl ?_; simp only [Act.put]; clear tok4) | (have _t := tok5; refine wpl_row rfl 31 (.tmp 5) rfl _ rfl #[.int .i64 lw, .int .i64 ls, .int .i64 lc, .bool li, .bool lb] 5 HI.out Tryz.rowMin rfl ?_; simp only [Act.put]; clear tok5) | (have _t := tok6; refine wpl_row rfl 37 (.tmp 7) rfl _ rfl #[vR, .int .i64 F.dep, .int .i64 100000, .int .i64 F.burn, .int .i64 F.res] 5 HF.out Tryz.rowFli rfl ?_; simp only [Act.put]; clear tok6))
  refine (HPR.out _ (HM.out.below HB.out) (HL.out.below HB.out) (HR.out.below HB.out)).mono ?_
  rintro e w3 ⟨vO, rfl, hb3, hO⟩
  have nHX := Lib.hid (HX.out.below hb3)
  have nHI := Lib.hid (HI.out.below hb3)
  have nHF := Lib.hid (HF.out.below hb3)
  have nHB := Lib.hid (bthen HB.out hb3)
  clear HX HI HF HB hb3
  have HX := nHX
  have HI := nHI
  have HF := nHF
  have HB := nHB
  clear nHX nHI nHF nHB
  clear HPR
  cases rs
  case false =>
    simp only [Bool.false_eq_true, if_false]
    clear hO hin
    go_wp2_with (fail)
    go_ret2
    exact ⟨rfl, HB.out⟩
  simp only [if_true] at hO ⊢
  obtain ⟨A', c', rfl, q1, q2, hr⟩ := hO
  have HRC := Lib.hid hr
  have hin2 := hin rfl
  unfold mxL at hin2
  have hmg := mxK_ge (f := hvx l) (d := F.dep) l.length
  have HMX := Lib.hid (show mxL l F.dep = mxK (hvx l) F.dep l.length from rfl)
  obtain ⟨ln, hln⟩ : ∃ ln, ln = l.length := ⟨_, rfl⟩
  rw [← hln] at HRC hin2 hmg HMX hl3
  have hlx : (l.length : Int) = (ln : Int) := by rw [hln]
  have hpos : 0 ≤ mxK (hvx l) F.dep ln - F.dep := by omega
  have hprod : 1 * (mxK (hvx l) F.dep ln - F.dep) ≤ F.burn * (mxK (hvx l) F.dep ln - F.dep) := Int.mul_le_mul_of_nonneg_right hb1 hpos
  have hz1 : IntKind.i64.wrap (mxK (hvx l) F.dep ln - F.dep) = mxK (hvx l) F.dep ln - F.dep := by rw [IntKind.wrap_i64]; omega
  have hz2 : IntKind.i64.wrap (F.burn * (mxK (hvx l) F.dep ln - F.dep)) = F.burn * (mxK (hvx l) F.dep ln - F.dep) := by rw [IntKind.wrap_i64]; omega
  have hz3 : IntKind.i64.wrap (F.res + F.burn * (mxK (hvx l) F.dep ln - F.dep)) = F.res + F.burn * (mxK (hvx l) F.dep ln - F.dep) := by rw [IntKind.wrap_i64]; omega
  have HZ := Lib.hid (And.intro hz1 (And.intro hz2 hz3))
  have c1 := HF.out.cell 1
  simp only [List.getElem?_toArray, List.getElem?_cons_succ, List.getElem?_cons_zero] at c1
  rw [← hln]
  clear hr hin hin2 hmg hln hlx hpos hprod hz1 hz2 hz3
  go_wp2_with (fail)
  have HW0 := Lib.hid (RowKit.Below.refl w3.heap.size w3)
  go_loopg [13, 14] ln (fun gy mv iv wr => ∃ j : Nat, mv = .int .i64 (mxK (hvx l) F.dep j) ∧ iv = .int .i64 j ∧ j ≤ ln ∧ ln - j ≤ gy ∧ Hid (RowKit.Below w3.heap.size w3 wr))
  case atStart => exact ⟨0, rfl, rfl, Nat.zero_le _, Nat.sub_le _ _, HW0⟩
  case round =>
    clear HW0 c1
    obtain ⟨j, rfl, rfl, hj, hgy, HW⟩ := hrel
    by_cases hlt : j < ln
    case pos =>
      have hltz : (j : Int) < (ln : Int) := by omega
      obtain ⟨b1, o1, rfl, hb1', hcc⟩ := HRC.out (by omega)
      have p1 : wr.cell? ⟨b1, o1 + j * 3 + 1, none⟩ = some (.int .i64 (hvx l j).t) := (HW.out.cell (p := ⟨b1, o1 + j * 3 + 1, none⟩) hb1').trans (hcc j hlt 1 (by omega))
      have HMS := Lib.hid (show mxK (hvx l) F.dep (j + 1) = max (mxK (hvx l) F.dep j) (hvx l j).t from rfl)
      clear hcc
      generalize mxK (hvx l) F.dep j = mj at *
      generalize (hvx l j).t = tj at *
      go_wp2_with (fail)
      go_roundg (ln - (j + 1))
      case measure => omega
      case rel => exact ⟨j + 1, by rw [HMS.out], by first | rfl | go_num | (congr 1; omega), by omega, Nat.le_refl _, HW⟩
    obtain rfl : ln = j := by omega
    have c1 := (HF.out.below HW.out).cell 1
    have c3 := (HF.out.below HW.out).cell 3
    have c4 := (HF.out.below HW.out).cell 4
    simp only [List.getElem?_toArray, List.getElem?_cons_succ, List.getElem?_cons_zero] at c1 c3 c4
    obtain ⟨hz1, hz2, hz3⟩ := HZ.out
    have hnl : ¬ (ln : Int) < (ln : Int) := by omega
    generalize mxK (hvx l) F.dep ln = mx at *
    go_wp2_with (fail)
    go_ret2
    exact ⟨by rw [HMX.out]; rfl, bthen HB.out HW.out⟩
end Go.Proofs.YtbgkbdhdkpjcdaaGreat

namespace Go.Proofs.YtbgkbdhdkpjcdaaGreat
open Go Go.RowKit Go.Proofs
set_option maxRecDepth 100000
set_option maxHeartbeats 8000000
theorem fsafe_c (M : MetD) (vF vS vN : Value) (P : Nat) (lt tt : Tab) (F : FliD) (vR : Value) (lw ls lc : Int) (li lb : Bool) (w : World) (hN : NetAt w vN M vF vS P lt tt) (hM : MetAt w vF vS M) (hP : M.places = P) (hp8 : 1 ≤ P ∧ P ≤ 8) (hl : LegIn P lt) (htt : TabIn P 51200 tt) (hR : SlI w vR F.m F.R) :
   Calls Tryz.prog 102 #[vN, .agg #[.int .i64 lw, .int .i64 ls, .int .i64 lc, .bool li, .bool lb], .agg #[vR, .int .i64 F.dep, .int .i64 F.fuel, .int .i64 F.burn, .int .i64 F.res]] w fun e w' => ∃ v, e = .returned (.tuple #[v, .bool (F.okB P lt && (F.prf lt tt (opM M lw ls lc li lb) P).2.2)]) ∧ RowKit.Below w.heap.size w w' := by
  have HN := Lib.hid hN
  have HM := Lib.hid hM
  have HR := Lib.hid hR
  have HFC := Lib.hid (fun w1 h1 h2 => fly_c M vF vS vN P lt tt F vR w1 h1 hP hp8 hl h2)
  have hpr := fun v w1 h hm hok => fproof_c M vF vS v vN P lt tt F vR lw ls lc li lb w1 h hm hP hp8.2 hok hl htt
  clear hN hM hR hP hp8 hl htt
  generalize F.prf lt tt (opM M lw ls lc li lb) P = R at *
  obtain ⟨l, rt, rs⟩ := R
  dsimp only at hpr ⊢
  have HPR := Lib.hid hpr
  obtain ⟨BB, hBB⟩ : ∃ BB, BB = (F.okB P lt && rs) := ⟨_, rfl⟩
  rw [← hBB]
  have HBB := Lib.hid hBB
  clear hpr hBB
  have tok : True := trivial
  go_enter Tryz.func102, Tryz.ntmps102
  go_wp2_with (fail)
  have _x := frm2 w #[.int .i64 lw, .int .i64 ls, .int .i64 lc, .bool li, .bool lb] 31 #[vR, .int .i64 F.dep, .int .i64 F.fuel, .int .i64 F.burn, .int .i64 F.res] 37
  have HI := Lib.hid _x.1
  have HF := Lib.hid _x.2.1
  have HB := Lib.hid _x.2.2.1
  have zW := _x.2.2.2
  clear _x
  generalize World.alloc (World.alloc w _) _ = W at *
  go_wp2_with (have _t := tok; refine wpl_row rfl 37 _ rfl _ rfl #[vR, .int .i64 F.dep, .int .i64 F.fuel, .int .i64 F.burn, .int .i64 F.res] 5 HF.out Tryz.rowFli rfl ?_; simp only [Act.put]; clear tok)
  refine (HFC.out _ (HN.out.below HB.out) (HR.out.below HB.out)).mono ?_
  rintro e w3 ⟨v, rfl, hb3, hfr⟩
  have HB3 := Lib.hid (bthen HB.out hb3)
  have HB23 := Lib.hid hb3
  have HM3 := Lib.hid (HI.out.below hb3)
  clear HI HF hb3 HFC
  cases hok : F.okB P lt
  case false =>
    obtain rfl := hfr.2 (fun h => by rw [FliD.okB_iff.2 h] at hok; cases hok)
    have HKF := Lib.hid hok
    clear hfr hok
    go_wp2_with (fail)
    go_ret2
    exact ⟨_, by rw [HBB.out, HKF.out]; rfl, HB3.out⟩
  have HKF := Lib.hid hok
  have hfa := (hfr.1 (FliD.okB_iff.1 hok)).1
  have hge := (hfr.1 (FliD.okB_iff.1 hok)).2
  have HOK := Lib.hid (FliD.okB_iff.1 hok)
  obtain ⟨gx, vA, rfl, h1, h2, h3, h4, h5⟩ := hfa
  have HGE := Lib.hid (hge _ _ _ rfl)
  have HXX := Lib.hid h1
  have HH2 := Lib.hid (And.intro h4 h5)
  have y6 := h1.cell 6
  have y7 := h1.cell 7
  have y8 := h1.cell 8
  have y9 := h1.cell 9
  have y10 := h1.cell 10
  have fr := fun i => h1.frozen i
  simp only [List.getElem?_toArray, List.getElem?_cons_succ, List.getElem?_cons_zero] at y6 y7 y8 y9 y10
  clear hge hfr hok h1 h2 h3 h4 h5
  have tok2 : True := trivial
  go_wp2_with (have _t := tok2; refine wpl_row rfl 31 _ rfl _ rfl #[.int .i64 lw, .int .i64 ls, .int .i64 lc, .bool li, .bool lb] 5 HM3.out Tryz.rowMin rfl ?_; simp only [Act.put]; clear tok2)
  have hx := (((((HXX.out.set_ 6 (.int .i64 lw)).set_ 7 (.int .i64 ls)).set_ 8 (.int .i64 lc)).set_ 9 (.bool li)).set_ 10 (.bool lb))
  obtain ⟨hsa, hne⟩ := HH2.out
  have hb2 : RowKit.Below W.heap.size W (((((w3.setCell ⟨gx, 6, none⟩ (.int .i64 lw)).setCell ⟨gx, 7, none⟩ (.int .i64 ls)).setCell ⟨gx, 8, none⟩ (.int .i64 lc)).setCell ⟨gx, 9, none⟩ (.bool li)).setCell ⟨gx, 10, none⟩ (.bool lb)) := bset (bset (bset (bset (bset HB23.out HGE.out _) HGE.out _) HGE.out _) HGE.out _) HGE.out _
  have HSA : Hid (SlI (((((w3.setCell ⟨gx, 6, none⟩ (.int .i64 lw)).setCell ⟨gx, 7, none⟩ (.int .i64 ls)).setCell ⟨gx, 8, none⟩ (.int .i64 lc)).setCell ⟨gx, 9, none⟩ (.bool li)).setCell ⟨gx, 10, none⟩ (.bool lb)) vA F.m (F.at_ lt)) := by
    obtain ⟨A2, c2, rfl, e2, e3, e4⟩ := hsa
    refine Lib.hid ⟨A2, c2, rfl, e2, e3, RecsAt.frm e4 (by simp) fun b off e => ?_⟩
    subst e
    have hbg : b ≠ gx := fun q => hne (by rw [q]; rfl)
    rw [Below.heap_setCell _ ⟨gx, 10, none⟩ _ b hbg, Below.heap_setCell _ ⟨gx, 9, none⟩ _ b hbg, Below.heap_setCell _ ⟨gx, 8, none⟩ _ b hbg, Below.heap_setCell _ ⟨gx, 7, none⟩ _ b hbg, Below.heap_setCell _ ⟨gx, 6, none⟩ _ b hbg]
  refine (HPR.out _ _ ⟨gx, vA, rfl, hx, (HN.out.below HB.out).below hb2, (HR.out.below HB.out).below hb2, HSA.out, hne⟩ ((HM.out.below HB.out).below hb2) HOK.out).mono ?_
  rintro e w5 ⟨vO, rfl, hb5, hO⟩
  have HB5 := Lib.hid (bthen (bthen HB.out hb2) hb5)
  clear hx hsa hb2 HSA HPR hb5 hO y6 y7 y8 y9 y10 fr HXX HB3 HB23 HM3 HB HH2
  go_wp2_with (fail)
  go_ret2
  exact ⟨_, by rw [HBB.out, HKF.out]; rfl, HB5.out⟩
end Go.Proofs.YtbgkbdhdkpjcdaaGreat

namespace Go.Proofs.YtbgkbdhdkpjcdaaGreat
open Go Go.RowKit Go.Proofs
set_option maxRecDepth 100000
set_option maxHeartbeats 8000000
def FliD.withD (F : FliD) (t : Int) : FliD := { F with dep := t }
/-- The flight is valid and safe if it departs at t. -/
def FliD.goodD (F : FliD) (P : Nat) (lt tt : Tab) (op : Nat → Int → Bool) (t : Int) : Bool := (F.withD t).okB P lt && ((F.withD t).prf lt tt op P).2.2
def FliD.safD (F : FliD) (P : Nat) (lt tt : Tab) (op : Nat → Int → Bool) (t : Int) : Int := safR (fun q => bestL ((F.withD t).havK lt tt op q false P)) ((F.withD t).ticks lt) (F.withD t).dep
theorem FliD.good_saf {F : FliD} {P : Nat} {lt tt : Tab} {op : Nat → Int → Bool} {t : Int} : F.goodD P lt tt op t = ((F.withD t).okB P lt && decide (F.safD P lt tt op t < 0)) := by
  unfold FliD.goodD
  cases h : (F.withD t).okB P lt
  · rfl
  · have h0 : 0 ≤ (F.withD t).dep := (FliD.nums_iff.1 (FliD.okB_iff.1 h).1).2.1.1
    have := prf_saf (bf := fun q => bestL ((F.withD t).havK lt tt op q false P)) ((F.withD t).ticks lt) (F.withD t).dep [] h0
    have e : ((F.withD t).prf lt tt op P).2.2 = decide (F.safD P lt tt op t < 0) := congrArg Prod.snd this
    rw [e]
/-- The first one of n ticks from t on for which g is true. -/
def sooR (g : Int → Bool) : Nat → Int → Option Int
  | 0, _ => none
  | n + 1, t => if g t = true then some t else sooR g n (t + 1)
/-- What Soonest returns. -/
def sooE (NE : Int) (M : MetD) (lw ls lc : Int) (li lb : Bool) (S : Tab) (n : Nat) (F : FliD) (last : Int) : Int × Int :=
  if NE = 0 then (if inB last F.dep 2000 = true then norV (sooR (F.goodD M.places.toNat (lgT S n) (timT S n M.places.toNat) (opM M lw ls lc li lb)) (last - F.dep + 1).toNat F.dep) else (0, 1)) else (0, NE)
theorem nf_net {M : MetD} {lw ls lc : Int} {S : Tab} {n : Nat} {F : FliD} (h : nfE (netME M lw ls lc S n) M S n F = 0) : netME M lw ls lc S n = 0 := by
  unfold nfE at h
  by_cases h1 : netME M lw ls lc S n = 0
  · exact h1
  · rw [if_neg h1] at h; exact absurd h h1
theorem nf_mk {M : MetD} {lw ls lc : Int} {S : Tab} {n : Nat} {F : FliD} (h : netME M lw ls lc S n = 0) (hk : F.okB M.places.toNat (lgT S n) = true) : nfE (netME M lw ls lc S n) M S n F = 0 := by
  unfold nfE
  rw [if_pos h, if_pos hk]
theorem r5Soonest_c (M : MetD) (vF vS : Value) (lw ls lc : Int) (li lb : Bool) (A : Option Addr) (n c : Nat) (S : Tab) (F : FliD) (vR : Value) (last : Int) (w : World) (hM : MetAt w vF vS M) (hc1 : n ≤ c) (hc2 : c ≤ 9223372036854775807) (hL : RecsAt w A n 3 (nV S)) (hR : SlI w vR F.m F.R) :
   Calls Tryz.prog 54 #[.agg #[.int .i64 M.places, .int .i64 M.any.a0, .int .i64 M.any.a1, .int .i64 M.any.a2, .int .i64 M.any.a3, .int .i64 M.any.a4, .int .i64 M.any.a5, .bool M.any.i, .bool M.any.s, .int .i64 M.mw, .int .i64 M.ms, .int .i64 M.mc, vF, vS], .agg #[.int .i64 lw, .int .i64 ls, .int .i64 lc, .bool li, .bool lb], .slice A n c, .agg #[vR, .int .i64 F.dep, .int .i64 F.fuel, .int .i64 F.burn, .int .i64 F.res], .int .i64 last] w fun e w' => e = .returned (.tuple #[.int .i64 (sooE (nfE (netME M lw ls lc S n) M S n F) M lw ls lc li lb S n F last).1, .int .i64 (sooE (nfE (netME M lw ls lc S n) M S n F) M lw ls lc li lb S n F last).2]) ∧ RowKit.Below w.heap.size w w' := by
  have HM := Lib.hid hM
  have HL := Lib.hid hL
  have HR := Lib.hid hR
  have HCA := Lib.hid (fun w1 h1 h2 h3 => r5checkAll_c M vF vS lw ls lc li lb A n c S F vR w1 h1 hc1 hc2 h2 h3)
  have hok := fun h => nfM_ok (M := M) (lw := lw) (ls := ls) (lc := lc) (S := S) (n := n) (F := F) h
  have hsa := fun t (hm : netME M lw ls lc S n = 0) (hg : (F.withD t).okB M.places.toNat (lgT S n) = true) w1 h1 h2 h3 => r5safe_c M vF vS lw ls lc li lb A n c S (F.withD t) vR w1 h1 hc1 hc2 h2 h3 (nf_mk hm hg)
  have hnm := fun h => nf_net (M := M) (lw := lw) (ls := ls) (lc := lc) (S := S) (n := n) (F := F) h
  clear hM hL hR
  have tok : True := trivial
  have tok2 : True := trivial
  have tok3 : True := trivial
  unfold sooE
  generalize nfE (netME M lw ls lc S n) M S n F = NE at *
  by_cases h0 : NE = 0
  case neg =>
    rw [if_neg h0]
    have hz : (NE != 0) = true := by simpa using h0
    clear h0 hok hsa hnm
    go_enter Tryz.func54, Tryz.ntmps54
    go_wp2_with (fail)
    have _x := frm3 w #[.int .i64 M.places, .int .i64 M.any.a0, .int .i64 M.any.a1, .int .i64 M.any.a2, .int .i64 M.any.a3, .int .i64 M.any.a4, .int .i64 M.any.a5, .bool M.any.i, .bool M.any.s, .int .i64 M.mw, .int .i64 M.ms, .int .i64 M.mc, vF, vS] 29 #[.int .i64 lw, .int .i64 ls, .int .i64 lc, .bool li, .bool lb] 31 #[vR, .int .i64 F.dep, .int .i64 F.fuel, .int .i64 F.burn, .int .i64 F.res] 37
    have HX := Lib.hid _x.1
    have HI := Lib.hid _x.2.1
    have HF := Lib.hid _x.2.2.1
    have HB := Lib.hid _x.2.2.2.1
    have zW := _x.2.2.2.2
    clear _x
    generalize World.alloc (World.alloc (World.alloc w _) _) _ = W at *
    go_wp2_with (first | (have _t := tok; refine wpl_row rfl 29 (.tmp 5) rfl _ rfl #[.int .i64 M.places, .int .i64 M.any.a0, .int .i64 M.any.a1, .int .i64 M.any.a2, .int .i64 M.any.a3, .int .i64 M.any.a4, .int .i64 M.any.a5, .bool M.any.i, .bool M.any.s, .int .i64 M.mw, .int .i64 M.ms, .int .i64 M.mc, vF, vS] 14 HX.out Tryz.rowMet rfl ?_; simp only [Act.put]; clear tok) | (have _t := tok2; refine wpl_row rfl 31 (.tmp 6) rfl _ rfl #[.int .i64 lw, .int .i64 ls, .int .i64 lc, .bool li, .bool lb] 5 HI.out Tryz.rowMin rfl ?_; simp only [Act.put]; clear tok2) | (have _t := tok3; refine wpl_row rfl 37 (.tmp 8) rfl _ rfl #[vR, .int .i64 F.dep, .int .i64 F.fuel, .int .i64 F.burn, .int .i64 F.res] 5 HF.out Tryz.rowFli rfl ?_; simp only [Act.put]; clear tok3) | (go_at_call 95; (with_reducible refine (HCA.out _ (HM.out.below HB.out) (HL.out.below HB.out) (HR.out.below HB.out)).mono ?_); rintro e w1 ⟨rfl, hb1⟩; have nHX := Lib.hid (HX.out.below hb1); have nHI := Lib.hid (HI.out.below hb1); have nHF := Lib.hid (HF.out.below hb1); have nHB := Lib.hid (bthen HB.out hb1); have zz1 := hb1.size; clear HX HI HF HB hb1; have HX := nHX; have HI := nHI; have HF := nHF; have HB := nHB; clear nHX nHI nHF nHB))
    go_ret2
    exact ⟨rfl, HB.out⟩
  subst h0
  rw [if_pos rfl]
  obtain ⟨f3, f4, f5, f6, f7⟩ := hok rfl
  have hnm2 := hnm rfl
  have HRI := Lib.hid (show ∀ (t : Int) (w1 : World), RecsAt w1 A n 3 (nV S) → SlI w1 vR F.m F.R → Calls Tryz.prog 65 #[.agg #[.int .i64 M.places, .int .i64 M.any.a0, .int .i64 M.any.a1, .int .i64 M.any.a2, .int .i64 M.any.a3, .int .i64 M.any.a4, .int .i64 M.any.a5, .bool M.any.i, .bool M.any.s, .int .i64 M.mw, .int .i64 M.ms, .int .i64 M.mc, vF, vS], .slice A n c, .agg #[vR, .int .i64 t, .int .i64 F.fuel, .int .i64 F.burn, .int .i64 F.res]] w1 fun e w' => e = .returned (.bool ((F.withD t).okB M.places.toNat (lgT S n))) ∧ RowKit.Below w1.heap.size w1 w' from fun t w1 h1 h2 => r5right_c M vF vS A n c S M.places.toNat (F.withD t) vR w1 hc1 hc2 h1 h2 f6 f3 f4)
  have hsa2 : ∀ (t : Int) (hg : (F.withD t).okB M.places.toNat (lgT S n) = true) (w1 : World), MetAt w1 vF vS M → RecsAt w1 A n 3 (nV S) → SlI w1 vR F.m F.R → Calls Tryz.prog 100 #[.agg #[.int .i64 M.places, .int .i64 M.any.a0, .int .i64 M.any.a1, .int .i64 M.any.a2, .int .i64 M.any.a3, .int .i64 M.any.a4, .int .i64 M.any.a5, .bool M.any.i, .bool M.any.s, .int .i64 M.mw, .int .i64 M.ms, .int .i64 M.mc, vF, vS], .agg #[.int .i64 lw, .int .i64 ls, .int .i64 lc, .bool li, .bool lb], .slice A n c, .agg #[vR, .int .i64 t, .int .i64 F.fuel, .int .i64 F.burn, .int .i64 F.res]] w1 fun e w' => e = .returned (.int .i64 (safR (fun q => bestL ((F.withD t).havK (lgT S n) (timT S n M.places.toNat) (opM M lw ls lc li lb) q false M.places.toNat)) ((F.withD t).ticks (lgT S n)) (F.withD t).dep)) ∧ RowKit.Below w1.heap.size w1 w' := fun t => hsa t hnm2
  have hgd := fun t => FliD.good_saf (F := F) (P := M.places.toNat) (lt := lgT S n) (tt := timT S n M.places.toNat) (op := opM M lw ls lc li lb) (t := t)
  have hsd : ∀ t, safR (fun q => bestL ((F.withD t).havK (lgT S n) (timT S n M.places.toNat) (opM M lw ls lc li lb) q false M.places.toNat)) ((F.withD t).ticks (lgT S n)) (F.withD t).dep = F.safD M.places.toNat (lgT S n) (timT S n M.places.toNat) (opM M lw ls lc li lb) t := fun t => rfl
  simp only [hsd] at hsa2
  generalize F.goodD M.places.toNat (lgT S n) (timT S n M.places.toNat) (opM M lw ls lc li lb) = good at *
  generalize F.safD M.places.toNat (lgT S n) (timT S n M.places.toNat) (opM M lw ls lc li lb) = sf at *
  have HSA := Lib.hid hsa2
  have HGD := Lib.hid hgd
  have hd0 := (FliD.nums_iff.1 f7.1).2.1
  clear hsd hsa hsa2 hgd hok hnm hnm2 f3 f4 f5 f6 f7
  cases hin : inB last F.dep 2000
  case false =>
    rw [if_neg (by decide)]
    go_enter Tryz.func54, Tryz.ntmps54
    go_wp2_with (fail)
    have _x := frm3 w #[.int .i64 M.places, .int .i64 M.any.a0, .int .i64 M.any.a1, .int .i64 M.any.a2, .int .i64 M.any.a3, .int .i64 M.any.a4, .int .i64 M.any.a5, .bool M.any.i, .bool M.any.s, .int .i64 M.mw, .int .i64 M.ms, .int .i64 M.mc, vF, vS] 29 #[.int .i64 lw, .int .i64 ls, .int .i64 lc, .bool li, .bool lb] 31 #[vR, .int .i64 F.dep, .int .i64 F.fuel, .int .i64 F.burn, .int .i64 F.res] 37
    have HX := Lib.hid _x.1
    have HI := Lib.hid _x.2.1
    have HF := Lib.hid _x.2.2.1
    have HB := Lib.hid _x.2.2.2.1
    have zW := _x.2.2.2.2
    clear _x
    generalize World.alloc (World.alloc (World.alloc w _) _) _ = W at *
    go_wp2_with (first | (have _t := tok; refine wpl_row rfl 29 (.tmp 5) rfl _ rfl #[.int .i64 M.places, .int .i64 M.any.a0, .int .i64 M.any.a1, .int .i64 M.any.a2, .int .i64 M.any.a3, .int .i64 M.any.a4, .int .i64 M.any.a5, .bool M.any.i, .bool M.any.s, .int .i64 M.mw, .int .i64 M.ms, .int .i64 M.mc, vF, vS] 14 HX.out Tryz.rowMet rfl ?_; simp only [Act.put]; clear tok) | (have _t := tok2; refine wpl_row rfl 31 (.tmp 6) rfl _ rfl #[.int .i64 lw, .int .i64 ls, .int .i64 lc, .bool li, .bool lb] 5 HI.out Tryz.rowMin rfl ?_; simp only [Act.put]; clear tok2) | (have _t := tok3; refine wpl_row rfl 37 (.tmp 8) rfl _ rfl #[vR, .int .i64 F.dep, .int .i64 F.fuel, .int .i64 F.burn, .int .i64 F.res] 5 HF.out Tryz.rowFli rfl ?_; simp only [Act.put]; clear tok3) | (go_at_call 95; (with_reducible refine (HCA.out _ (HM.out.below HB.out) (HL.out.below HB.out) (HR.out.below HB.out)).mono ?_); rintro e w1 ⟨rfl, hb1⟩; have nHX := Lib.hid (HX.out.below hb1); have nHI := Lib.hid (HI.out.below hb1); have nHF := Lib.hid (HF.out.below hb1); have nHB := Lib.hid (bthen HB.out hb1); have zz1 := hb1.size; clear HX HI HF HB hb1; have HX := nHX; have HI := nHI; have HF := nHF; have HB := nHB; clear nHX nHI nHF nHB; (try clear zHF); have zHF := HF.out.lt; (try clear cHF1); have cHF1 := HF.out.cell 1) | (go_at_call 84; (with_reducible refine (r5within_c _ _ _ _).mono ?_); rintro e w1 ⟨rfl, rfl⟩))
    go_ret2
    exact ⟨rfl, HB.out⟩
  rw [if_pos rfl]
  obtain ⟨hi1, hi2⟩ := inB_iff.1 hin
  obtain ⟨nn, hnn⟩ : ∃ nn, nn = (last - F.dep + 1).toNat := ⟨_, rfl⟩
  rw [← hnn]
  have hnz : (nn : Int) = last - F.dep + 1 := by omega
  obtain ⟨RES, hRES⟩ : ∃ R, R = sooR good nn F.dep := ⟨_, rfl⟩
  rw [← hRES]
  have HN0 := Lib.hid (show sooR good (nn - 0) (F.dep + (0 : Nat)) = RES by rw [hRES, Nat.sub_zero]; simp)
  have hn3 : nn ≤ 3000 := by omega
  clear hnn hRES
  go_enter Tryz.func54, Tryz.ntmps54
  go_wp2_with (fail)
  have _x := frm3 w #[.int .i64 M.places, .int .i64 M.any.a0, .int .i64 M.any.a1, .int .i64 M.any.a2, .int .i64 M.any.a3, .int .i64 M.any.a4, .int .i64 M.any.a5, .bool M.any.i, .bool M.any.s, .int .i64 M.mw, .int .i64 M.ms, .int .i64 M.mc, vF, vS] 29 #[.int .i64 lw, .int .i64 ls, .int .i64 lc, .bool li, .bool lb] 31 #[vR, .int .i64 F.dep, .int .i64 F.fuel, .int .i64 F.burn, .int .i64 F.res] 37
  have HX := Lib.hid _x.1
  have HI := Lib.hid _x.2.1
  have HF := Lib.hid _x.2.2.1
  have HB := Lib.hid _x.2.2.2.1
  have zW := _x.2.2.2.2
  clear _x
  generalize World.alloc (World.alloc (World.alloc w _) _) _ = W at *
  go_wp2_with (first | (have _t := tok; refine wpl_row rfl 29 (.tmp 5) rfl _ rfl #[.int .i64 M.places, .int .i64 M.any.a0, .int .i64 M.any.a1, .int .i64 M.any.a2, .int .i64 M.any.a3, .int .i64 M.any.a4, .int .i64 M.any.a5, .bool M.any.i, .bool M.any.s, .int .i64 M.mw, .int .i64 M.ms, .int .i64 M.mc, vF, vS] 14 HX.out Tryz.rowMet rfl ?_; simp only [Act.put]; clear tok) | (have _t := tok2; refine wpl_row rfl 31 (.tmp 6) rfl _ rfl #[.int .i64 lw, .int .i64 ls, .int .i64 lc, .bool li, .bool lb] 5 HI.out Tryz.rowMin rfl ?_; simp only [Act.put]; clear tok2) | (have _t := tok3; refine wpl_row rfl 37 (.tmp 8) rfl _ rfl #[vR, .int .i64 F.dep, .int .i64 F.fuel, .int .i64 F.burn, .int .i64 F.res] 5 HF.out Tryz.rowFli rfl ?_; simp only [Act.put]; clear tok3) | (go_at_call 95; (with_reducible refine (HCA.out _ (HM.out.below HB.out) (HL.out.below HB.out) (HR.out.below HB.out)).mono ?_); rintro e w1 ⟨rfl, hb1⟩; have nHX := Lib.hid (HX.out.below hb1); have nHI := Lib.hid (HI.out.below hb1); have nHF := Lib.hid (HF.out.below hb1); have nHB := Lib.hid (bthen HB.out hb1); have zz1 := hb1.size; clear HX HI HF HB hb1; have HX := nHX; have HI := nHI; have HF := nHF; have HB := nHB; clear nHX nHI nHF nHB; (try clear zHF); have zHF := HF.out.lt; (try clear cHF1); have cHF1 := HF.out.cell 1) | (go_at_call 84; (with_reducible refine (r5within_c _ _ _ _).mono ?_); rintro e w1 ⟨rfl, rfl⟩))
  clear HCA cHF1 zHF hin
  go_loopg [] nn (fun gy wr => ∃ j : Nat, j ≤ nn ∧ nn - j ≤ gy ∧ Hid (sooR good (nn - j) (F.dep + j) = RES) ∧ Hid (Blk wr w.heap.size 29 #[.int .i64 M.places, .int .i64 M.any.a0, .int .i64 M.any.a1, .int .i64 M.any.a2, .int .i64 M.any.a3, .int .i64 M.any.a4, .int .i64 M.any.a5, .bool M.any.i, .bool M.any.s, .int .i64 M.mw, .int .i64 M.ms, .int .i64 M.mc, vF, vS]) ∧ Hid (Blk wr (w.heap.size + 1) 31 #[.int .i64 lw, .int .i64 ls, .int .i64 lc, .bool li, .bool lb]) ∧ Hid (Blk wr (w.heap.size + 1 + 1) 37 #[vR, .int .i64 (F.dep + j), .int .i64 F.fuel, .int .i64 F.burn, .int .i64 F.res]) ∧ Hid (RowKit.Below w.heap.size w wr))
  case atStart => exact ⟨0, Nat.zero_le _, Nat.sub_le _ _, HN0, HX, HI, Lib.hid (by rw [show F.dep + ((0 : Nat) : Int) = F.dep by omega]; exact HF.out), HB⟩
  case round =>
    clear HN0 HX HI HF HB
    obtain ⟨j, hj, hgy, HN, HX, HI, HF, HB⟩ := hrel
    obtain ⟨t, hte⟩ : ∃ t, t = F.dep + (j : Int) := ⟨_, rfl⟩
    have HTE := Lib.hid hte
    have hN := HN.out
    rw [← hte] at hN HF
    have x1 := HF.out.cell 1
    simp only [List.getElem?_toArray, List.getElem?_cons_succ, List.getElem?_cons_zero] at x1
    have hts : F.dep + ((j + 1 : Nat) : Int) = t + 1 := by omega
    have HTS := Lib.hid hts
    have hdj : t = F.dep + (j : Int) := hte
    clear HN hte hts
    have tok : True := trivial
    have tok3 : True := trivial
    by_cases hlt : j < nn
    case pos =>
      have hle : t ≤ last := by omega
      have ht3 : 0 ≤ t ∧ t ≤ 10000 := by omega
      obtain ⟨i, hi⟩ : ∃ i, nn - j = i + 1 := ⟨nn - j - 1, by omega⟩
      rw [hi] at hN
      unfold sooR at hN
      have hg := HGD.out t
      rw [hg] at hN
      have hri := fun w1 h1 h2 => HRI.out t w1 h1 h2
      have hsa := fun hg w1 h1 h2 h3 => HSA.out t hg w1 h1 h2 h3
      clear hg hdj
      cases hok : (F.withD t).okB M.places.toNat (lgT S n)
      case false =>
        rw [hok] at hri hN
        have hN2 : sooR good i (t + 1) = RES := hN
        have HRI2 := Lib.hid hri
        have HN2 := Lib.hid hN2
        clear hri hsa hok hN hN2
        go_wp2_with (first | (have _t := tok; refine wpl_row rfl 29 (.tmp 5) rfl _ rfl #[.int .i64 M.places, .int .i64 M.any.a0, .int .i64 M.any.a1, .int .i64 M.any.a2, .int .i64 M.any.a3, .int .i64 M.any.a4, .int .i64 M.any.a5, .bool M.any.i, .bool M.any.s, .int .i64 M.mw, .int .i64 M.ms, .int .i64 M.mc, vF, vS] 14 HX.out Tryz.rowMet rfl ?_; simp only [Act.put]; clear tok) | (have _t := tok3; refine wpl_row rfl 37 (.tmp 8) rfl _ rfl #[vR, .int .i64 t, .int .i64 F.fuel, .int .i64 F.burn, .int .i64 F.res] 5 HF.out Tryz.rowFli rfl ?_; simp only [Act.put]; clear tok3) | (go_at_call 65; (with_reducible refine (HRI2.out _ (HL.out.below HB.out) (HR.out.below HB.out)).mono ?_); rintro e w1 ⟨rfl, hb1⟩; have nHX := Lib.hid (HX.out.below hb1); have nHI := Lib.hid (HI.out.below hb1); have nHF := Lib.hid (HF.out.below hb1); have nHB := Lib.hid (bthen HB.out hb1); have zz1 := hb1.size; clear HX HI HF HB hb1; have HX := nHX; have HI := nHI; have HF := nHF; have HB := nHB; clear nHX nHI nHF nHB; (try clear zHF); have zHF := HF.out.lt; (try clear cHF1); have cHF1 := HF.out.cell 1; (try clear fHF); have fHF := fun i => HF.out.frozen i))
        go_roundg (nn - (j + 1))
        case measure => omega
        case rel => exact ⟨j + 1, by omega, Nat.le_refl _, Lib.hid (by rw [show nn - (j + 1) = i by omega, HTS.out]; exact HN2.out), Lib.hid (HX.out.far (show w.heap.size ≠ w.heap.size + 1 + 1 by omega) _), Lib.hid (HI.out.far (show w.heap.size + 1 ≠ w.heap.size + 1 + 1 by omega) _), Lib.hid (by rw [HTS.out]; exact HF.out.set_ 1 _), Lib.hid (bset HB.out (by omega) _)⟩
      have hsa2 := hsa hok
      rw [hok] at hri hN
      have HRI2 := Lib.hid hri
      have HSA2 := Lib.hid hsa2
      have tok4 : True := trivial
      have tok5 : True := trivial
      have tok6 : True := trivial
      clear hri hsa hok hsa2
      by_cases hs : sf t < 0
      case pos =>
        rw [decide_eq_true hs] at hN
        obtain rfl : some t = RES := hN
        go_wp2_with (first | (have _t := tok; refine wpl_row rfl 29 (.tmp 5) rfl _ rfl #[.int .i64 M.places, .int .i64 M.any.a0, .int .i64 M.any.a1, .int .i64 M.any.a2, .int .i64 M.any.a3, .int .i64 M.any.a4, .int .i64 M.any.a5, .bool M.any.i, .bool M.any.s, .int .i64 M.mw, .int .i64 M.ms, .int .i64 M.mc, vF, vS] 14 HX.out Tryz.rowMet rfl ?_; simp only [Act.put]; clear tok) | (have _t := tok3; refine wpl_row rfl 37 (.tmp 8) rfl _ rfl #[vR, .int .i64 t, .int .i64 F.fuel, .int .i64 F.burn, .int .i64 F.res] 5 HF.out Tryz.rowFli rfl ?_; simp only [Act.put]; clear tok3) | (go_at_call 65; (with_reducible refine (HRI2.out _ (HL.out.below HB.out) (HR.out.below HB.out)).mono ?_); rintro e w1 ⟨rfl, hb1⟩; have nHX := Lib.hid (HX.out.below hb1); have nHI := Lib.hid (HI.out.below hb1); have nHF := Lib.hid (HF.out.below hb1); have nHB := Lib.hid (bthen HB.out hb1); have zz1 := hb1.size; clear HX HI HF HB hb1; have HX := nHX; have HI := nHI; have HF := nHF; have HB := nHB; clear nHX nHI nHF nHB; (try clear zHF); have zHF := HF.out.lt; (try clear cHF1); have cHF1 := HF.out.cell 1; (try clear fHF); have fHF := fun i => HF.out.frozen i) | (have _t := tok4; refine wpl_row_g ?_ 29 (.tmp 5) rfl _ rfl #[.int .i64 M.places, .int .i64 M.any.a0, .int .i64 M.any.a1, .int .i64 M.any.a2, .int .i64 M.any.a3, .int .i64 M.any.a4, .int .i64 M.any.a5, .bool M.any.i, .bool M.any.s, .int .i64 M.mw, .int .i64 M.ms, .int .i64 M.mc, vF, vS] 14 HX.out Tryz.rowMet rfl ?_; (focus rfl); simp only [Act.put]; clear tok4) | (have _t := tok5; refine wpl_row_g ?_ 31 (.tmp 6) rfl _ rfl #[.int .i64 lw, .int .i64 ls, .int .i64 lc, .bool li, .bool lb] 5 HI.out Tryz.rowMin rfl ?_; (focus rfl); simp only [Act.put]; clear tok5) | (have _t := tok6; refine wpl_row_g ?_ 37 (.tmp 8) rfl _ rfl #[vR, .int .i64 t, .int .i64 F.fuel, .int .i64 F.burn, .int .i64 F.res] 5 HF.out Tryz.rowFli rfl ?_; (focus rfl); simp only [Act.put]; clear tok6) | ((with_reducible refine (HSA2.out _ (HM.out.below HB.out) (HL.out.below HB.out) (HR.out.below HB.out)).mono ?_); rintro e w1 ⟨rfl, hb1⟩; have nHX := Lib.hid (HX.out.below hb1); have nHI := Lib.hid (HI.out.below hb1); have nHF := Lib.hid (HF.out.below hb1); have nHB := Lib.hid (bthen HB.out hb1); have zz1 := hb1.size; clear HX HI HF HB hb1; have HX := nHX; have HI := nHI; have HF := nHF; have HB := nHB; clear nHX nHI nHF nHB; (try clear zHF); have zHF := HF.out.lt; (try clear cHF1); have cHF1 := HF.out.cell 1; (try clear fHF); have fHF := fun i => HF.out.frozen i))
        go_ret2
        exact ⟨rfl, HB.out⟩
      rw [decide_eq_false hs] at hN
      have HN2 := Lib.hid (show sooR good i (t + 1) = RES from hN)
      clear hN
      go_wp2_with (first | (have _t := tok; refine wpl_row rfl 29 (.tmp 5) rfl _ rfl #[.int .i64 M.places, .int .i64 M.any.a0, .int .i64 M.any.a1, .int .i64 M.any.a2, .int .i64 M.any.a3, .int .i64 M.any.a4, .int .i64 M.any.a5, .bool M.any.i, .bool M.any.s, .int .i64 M.mw, .int .i64 M.ms, .int .i64 M.mc, vF, vS] 14 HX.out Tryz.rowMet rfl ?_; simp only [Act.put]; clear tok) | (have _t := tok3; refine wpl_row rfl 37 (.tmp 8) rfl _ rfl #[vR, .int .i64 t, .int .i64 F.fuel, .int .i64 F.burn, .int .i64 F.res] 5 HF.out Tryz.rowFli rfl ?_; simp only [Act.put]; clear tok3) | (go_at_call 65; (with_reducible refine (HRI2.out _ (HL.out.below HB.out) (HR.out.below HB.out)).mono ?_); rintro e w1 ⟨rfl, hb1⟩; have nHX := Lib.hid (HX.out.below hb1); have nHI := Lib.hid (HI.out.below hb1); have nHF := Lib.hid (HF.out.below hb1); have nHB := Lib.hid (bthen HB.out hb1); have zz1 := hb1.size; clear HX HI HF HB hb1; have HX := nHX; have HI := nHI; have HF := nHF; have HB := nHB; clear nHX nHI nHF nHB; (try clear zHF); have zHF := HF.out.lt; (try clear cHF1); have cHF1 := HF.out.cell 1; (try clear fHF); have fHF := fun i => HF.out.frozen i) | (have _t := tok4; refine wpl_row_g ?_ 29 (.tmp 5) rfl _ rfl #[.int .i64 M.places, .int .i64 M.any.a0, .int .i64 M.any.a1, .int .i64 M.any.a2, .int .i64 M.any.a3, .int .i64 M.any.a4, .int .i64 M.any.a5, .bool M.any.i, .bool M.any.s, .int .i64 M.mw, .int .i64 M.ms, .int .i64 M.mc, vF, vS] 14 HX.out Tryz.rowMet rfl ?_; (focus rfl); simp only [Act.put]; clear tok4) | (have _t := tok5; refine wpl_row_g ?_ 31 (.tmp 6) rfl _ rfl #[.int .i64 lw, .int .i64 ls, .int .i64 lc, .bool li, .bool lb] 5 HI.out Tryz.rowMin rfl ?_; (focus rfl); simp only [Act.put]; clear tok5) | (have _t := tok6; refine wpl_row_g ?_ 37 (.tmp 8) rfl _ rfl #[vR, .int .i64 t, .int .i64 F.fuel, .int .i64 F.burn, .int .i64 F.res] 5 HF.out Tryz.rowFli rfl ?_; (focus rfl); simp only [Act.put]; clear tok6) | ((with_reducible refine (HSA2.out _ (HM.out.below HB.out) (HL.out.below HB.out) (HR.out.below HB.out)).mono ?_); rintro e w1 ⟨rfl, hb1⟩; have nHX := Lib.hid (HX.out.below hb1); have nHI := Lib.hid (HI.out.below hb1); have nHF := Lib.hid (HF.out.below hb1); have nHB := Lib.hid (bthen HB.out hb1); have zz1 := hb1.size; clear HX HI HF HB hb1; have HX := nHX; have HI := nHI; have HF := nHF; have HB := nHB; clear nHX nHI nHF nHB; (try clear zHF); have zHF := HF.out.lt; (try clear cHF1); have cHF1 := HF.out.cell 1; (try clear fHF); have fHF := fun i => HF.out.frozen i))
      go_roundg (nn - (j + 1))
      case measure => omega
      case rel => exact ⟨j + 1, by omega, Nat.le_refl _, Lib.hid (by rw [show nn - (j + 1) = i by omega, HTS.out]; exact HN2.out), Lib.hid (HX.out.far (show w.heap.size ≠ w.heap.size + 1 + 1 by omega) _), Lib.hid (HI.out.far (show w.heap.size + 1 ≠ w.heap.size + 1 + 1 by omega) _), Lib.hid (by rw [HTS.out]; exact HF.out.set_ 1 _), Lib.hid (bset HB.out (by omega) _)⟩
    obtain rfl : nn = j := by omega
    rw [Nat.sub_self] at hN
    unfold sooR at hN
    subst hN
    have hgt : ¬ t ≤ last := by omega
    clear hdj
    go_wp2_with (fail)
    go_ret2
    exact ⟨rfl, HB.out⟩
end Go.Proofs.YtbgkbdhdkpjcdaaGreat
