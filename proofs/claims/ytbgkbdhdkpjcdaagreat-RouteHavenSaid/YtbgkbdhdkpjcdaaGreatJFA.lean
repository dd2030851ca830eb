/- Texts joined: JFA. -/
import Derived.Test.YtbgkbdhdkpjcdaaGreatBas
import Derived.Test.YtbgkbdhdkpjcdaaGreatJAM
import Derived.Test.YtbgkbdhdkpjcdaaGreatJAT
set_option linter.all false
namespace Go.Proofs.YtbgkbdhdkpjcdaaGreat
open Go Go.RowKit Go.Proofs
section
variable {P : Program} {ops : Array Oper} {rest : List Oper} {o : Oper} {a : Act}
theorem wpq_row_gg {C : World → Prop} {Q : Act → Prop} (hgd : Region.wanted o (yielded ops a.tmps) = true) (ty : TypeId) (x : Operand) (ho : o.op = .load ty x)
    (g : Nat) (hx : a.eval x = .pointer (some ⟨g, 0, none⟩)) (cs : Array Value) (n : Nat) (hB : ∀ w, C w → w.heap[g]? = some (.cells cs ty (0, 0)))
    (hr : RowTy P ty n) (hn : cs.size = n)
    (h : wpQuiet P ops C Q rest (a.put o.dst (.agg cs))) : wpQuiet P ops C Q (o :: rest) a := by
  obtain ⟨hu, hi⟩ := hr
  cases hd : P.underlying ty with
  | none => rw [hd] at hu; cases hu
  | some d =>
  rw [hd] at hu
  refine wpQuiet_step fun K hK => ?_
  simp only [hgd, if_true]
  refine ⟨.agg cs, fun w' hw' => ?_, hK _ h⟩
  unfold Oper.quietAt execOp
  simp only [ho, hx, Instr.loadAt, Instr.sureAddr, Sem.run_bind, Sem.run_pure, Result.andThen_ok, run_loadVar_row w' g ty ty cs (0, 0) d (hB w' hw') hd (by cases d <;> first | rfl | (simp at hu)) (by rw [hi, hn])]
  exact ⟨rfl, rfl⟩
theorem wpq_mid_gg {C : World → Prop} {Q : Act → Prop} (hgd : Region.wanted o (yielded ops a.tmps) = true) (ty : TypeId) (x : Operand) (ho : o.op = .load ty x)
    (g off : Nat) (hx : a.eval x = .pointer (some ⟨g, off, none⟩)) (tb : TypeId) (big cs : Array Value) (n : Nat) (hB : ∀ w, C w → w.heap[g]? = some (.cells big tb (0, 0)))
    (hr : RowTy P ty n) (pre post : List Value) (hpre : pre.length = off) (hcs : big.toList = pre ++ (cs.toList ++ post)) (hn : cs.size = n)
    (h : wpQuiet P ops C Q rest (a.put o.dst (.agg cs))) : wpQuiet P ops C Q (o :: rest) a := by
  refine wpQuiet_step fun K hK => ?_
  simp only [hgd, if_true]
  refine ⟨.agg cs, fun w' hw' => ?_, hK _ h⟩
  unfold Oper.quietAt execOp
  simp only [ho, hx, Instr.loadAt, Instr.sureAddr, Sem.run_bind, Sem.run_pure, Result.andThen_ok, run_mid (hB w' hw') hr pre post hpre hcs hn]
  exact ⟨rfl, rfl⟩
end
end Go.Proofs.YtbgkbdhdkpjcdaaGreat

namespace Go.Proofs.YtbgkbdhdkpjcdaaGreat
open Go Go.RowKit Go.Proofs
set_option maxRecDepth 100000
set_option maxHeartbeats 8000000
def mayW (M : MetD) (p t : Int) : Sk := if atE M p t = 0 then M.may p t else ⟨0, 0, 0, 0, 0, 0, false, false⟩
theorem atW_ok {M : MetD} {p t : Int} (h : atE M p t = 0) : M.Ok ∧ 0 ≤ t ∧ t ≤ 2000 := by
  unfold atE at h
  cases hb : M.bad
  · rw [hb, if_neg (by decide)] at h
    cases b1 : inB p 0 (M.places - 1)
    · rw [b1] at h; cases h
    · cases b2 : inB t 0 2000
      · rw [b1, b2] at h; cases h
      · exact ⟨MetD.ok_of hb, inB_iff.1 b2⟩
  · rw [hb, if_pos rfl] at h; cases h
theorem wMayW_c (M : MetD) (vF vS : Value) (p t : Int) (w : World) (hA : MetAt w vF vS M) :
   Calls Tryz.prog 56 #[.agg #[.int .i64 M.places, .int .i64 M.any.a0, .int .i64 M.any.a1, .int .i64 M.any.a2, .int .i64 M.any.a3, .int .i64 M.any.a4, .int .i64 M.any.a5, .bool M.any.i, .bool M.any.s, .int .i64 M.mw, .int .i64 M.ms, .int .i64 M.mc, vF, vS], .int .i64 p, .int .i64 t] w fun e w' => e = .returned (.tuple #[.agg (mayW M p t).cells, .int .i64 (atE M p t)]) ∧ Below w.heap.size w w' := by
  have HA := Lib.hid hA
  have hat := fun w1 h => wcheckAt_c M vF vS p t t w1 h
  clear hA
  unfold mayW
  by_cases he : atE M p t = 0
  · obtain ⟨hM, ht0, ht1⟩ := atW_ok he
    have hmy := fun w1 h => may_c M vF vS p t w1 hM h ht0 ht1
    rw [if_pos he]
    rw [he] at hat ⊢
    rcases hx : M.may p t with ⟨a0, a1, a2, a3, a4, a5, xi, xs⟩
    rw [hx] at hmy
    unfold Sk.cells at *
    dsimp only at hmy ⊢
    have HMY := Lib.hid hmy
    have HAT := Lib.hid hat
    clear hmy hx hat hM he
    go_enter Tryz.func56, Tryz.ntmps56
    go_wp2_with (fail)
    have _x := frm2 w #[.int .i64 M.places, .int .i64 M.any.a0, .int .i64 M.any.a1, .int .i64 M.any.a2, .int .i64 M.any.a3, .int .i64 M.any.a4, .int .i64 M.any.a5, .bool M.any.i, .bool M.any.s, .int .i64 M.mw, .int .i64 M.ms, .int .i64 M.mc, vF, vS] 29 #[.int .i64 0, .int .i64 0, .int .i64 0, .int .i64 0, .int .i64 0, .int .i64 0, .bool false, .bool false] 25
    have HX := Lib.hid _x.1
    have HY := Lib.hid _x.2.1
    have HB := Lib.hid _x.2.2.1
    have zW := _x.2.2.2
    clear _x
    generalize World.alloc (World.alloc w _) _ = W at *
    have hM2 := Lib.hid (fun r : After _ => HX.out.below r.below)
    have hA2 := Lib.hid (fun r : After _ => (HA.out.below HB.out).below r.below)
    refine wp_region_aftert 5 (by kernel_rfl) (by kernel_rfl) ?_
    simp only [List.take_succ_cons, List.take_zero, List.drop_succ_cons, List.drop_zero]
    refine wpq_row rfl 29 _ rfl _ rfl _ 14 (fun _ hw => by obtain ⟨r, rfl⟩ := hw; exact hM2.out r) Tryz.rowMet rfl ?_
    simp only [Act.put, List.setIfInBounds_toArray, List.set_cons_succ, List.set_cons_zero]
    iterate 2 (go_big_quiet_step (fail))
    go_big_quiet_step (first | (go_at_call 73; (with_reducible refine qafter (wat_c _ _ _))))
    go_big_quiet_step (first | (go_at_call 72; (with_reducible refine qafter (HAT.out _ (hA2.out _)))))
    refine wpQuiet_nil ?_
    rintro _ ⟨r, rfl⟩
    have BR := r.below
    clear hM2 hA2
    generalize r.w = wr at *
    have nHX := Lib.hid (HX.out.below BR)
    have nHY := Lib.hid (HY.out.below BR)
    have nHB := Lib.hid (bthen HB.out BR)
    clear HX HY HB BR
    have HX := nHX
    have HY := nHY
    have HB := nHB
    clear nHX nHY nHB
    go_wp2_with (first | (refine wpl_row rfl 29 _ rfl _ rfl #[.int .i64 M.places, .int .i64 M.any.a0, .int .i64 M.any.a1, .int .i64 M.any.a2, .int .i64 M.any.a3, .int .i64 M.any.a4, .int .i64 M.any.a5, .bool M.any.i, .bool M.any.s, .int .i64 M.mw, .int .i64 M.ms, .int .i64 M.mc, vF, vS] 14 HX.out Tryz.rowMet rfl ?_; simp only [Act.put]))
    refine (HMY.out _ (HA.out.below HB.out)).mono ?_
    rintro _ wq ⟨v, ys, rfl, hb1, -, -⟩
    have nHX := Lib.hid (HX.out.below hb1)
    have nHY := Lib.hid (HY.out.below hb1)
    have nHB := Lib.hid (bthen HB.out hb1)
    clear HX HY HB hb1
    have HX := nHX
    have HY := nHY
    have HB := nHB
    clear nHX nHY nHB
    go_wp2_with (first | (refine wpList_store_row rfl 25 _ _ rfl (w.heap.size + 1) #[.int .i64 a0, .int .i64 a1, .int .i64 a2, .int .i64 a3, .int .i64 a4, .int .i64 a5, .bool xi, .bool xs] rfl rfl 25 #[.int .i64 0, .int .i64 0, .int .i64 0, .int .i64 0, .int .i64 0, .int .i64 0, .bool false, .bool false] (HY.out.alloc _) Tryz.sizeSky rfl (oneS a0 a1 a2 a3 a4 a5 xi xs) ?_; simp only [Act.put]))
    exact bodyPost_ret (res_ct rfl _ _ #[.int .i64 a0, .int .i64 a1, .int .i64 a2, .int .i64 a3, .int .i64 a4, .int .i64 a5, .bool xi, .bool xs] 8 rfl (setRow_heap _ _ _ _ _ _ (HY.out.alloc _)) Tryz.rowSky rfl) rfl ⟨rfl, rowBelow (bal HB.out _) (by omega) _⟩
  · have hez : (atE M p t != 0) = true := by simpa using he
    rw [if_neg he]
    generalize atE M p t = E at *
    have HAT := Lib.hid hat
    clear hat he
    go_enter Tryz.func56, Tryz.ntmps56
    go_wp2_with (fail)
    have _x := frm2 w #[.int .i64 M.places, .int .i64 M.any.a0, .int .i64 M.any.a1, .int .i64 M.any.a2, .int .i64 M.any.a3, .int .i64 M.any.a4, .int .i64 M.any.a5, .bool M.any.i, .bool M.any.s, .int .i64 M.mw, .int .i64 M.ms, .int .i64 M.mc, vF, vS] 29 #[.int .i64 0, .int .i64 0, .int .i64 0, .int .i64 0, .int .i64 0, .int .i64 0, .bool false, .bool false] 25
    have HX := Lib.hid _x.1
    have HY := Lib.hid _x.2.1
    have HB := Lib.hid _x.2.2.1
    have zW := _x.2.2.2
    clear _x
    generalize World.alloc (World.alloc w _) _ = W at *
    have hM2 := Lib.hid (fun r : After _ => HX.out.below r.below)
    have hA2 := Lib.hid (fun r : After _ => (HA.out.below HB.out).below r.below)
    refine wp_region_aftert 5 (by kernel_rfl) (by kernel_rfl) ?_
    simp only [List.take_succ_cons, List.take_zero, List.drop_succ_cons, List.drop_zero]
    refine wpq_row rfl 29 _ rfl _ rfl _ 14 (fun _ hw => by obtain ⟨r, rfl⟩ := hw; exact hM2.out r) Tryz.rowMet rfl ?_
    simp only [Act.put, List.setIfInBounds_toArray, List.set_cons_succ, List.set_cons_zero]
    iterate 2 (go_big_quiet_step (fail))
    go_big_quiet_step (first | (go_at_call 73; (with_reducible refine qafter (wat_c _ _ _))))
    go_big_quiet_step (first | (go_at_call 72; (with_reducible refine qafter (HAT.out _ (hA2.out _)))))
    refine wpQuiet_nil ?_
    rintro _ ⟨r, rfl⟩
    have BR := r.below
    clear hM2 hA2
    generalize r.w = wr at *
    have nHX := Lib.hid (HX.out.below BR)
    have nHY := Lib.hid (HY.out.below BR)
    have nHB := Lib.hid (bthen HB.out BR)
    clear HX HY HB BR
    have HX := nHX
    have HY := nHY
    have HB := nHB
    clear nHX nHY nHB
    go_wp2_with (first | (refine wpList_store_row rfl 25 _ _ rfl (w.heap.size + 1) #[.int .i64 0, .int .i64 0, .int .i64 0, .int .i64 0, .int .i64 0, .int .i64 0, .bool false, .bool false] rfl rfl 25 #[.int .i64 0, .int .i64 0, .int .i64 0, .int .i64 0, .int .i64 0, .int .i64 0, .bool false, .bool false] HY.out Tryz.sizeSky rfl (oneS 0 0 0 0 0 0 false false) ?_; simp only [Act.put]))
    exact bodyPost_ret (res_ct rfl _ _ #[.int .i64 0, .int .i64 0, .int .i64 0, .int .i64 0, .int .i64 0, .int .i64 0, .bool false, .bool false] 8 rfl (setRow_heap _ _ _ _ _ _ HY.out) Tryz.rowSky rfl) rfl ⟨rfl, rowBelow HB.out (by omega) _⟩
end Go.Proofs.YtbgkbdhdkpjcdaaGreat

namespace Go.Proofs.YtbgkbdhdkpjcdaaGreat
open Go Go.RowKit Go.Proofs
set_option maxRecDepth 100000
set_option maxHeartbeats 8000000
/-- What Havens returns. -/
def hvW (TE : Int) (M : MetD) (lw ls lc : Int) (li lb : Bool) (S : Tab) (n : Nat) (F : FliD) (t : Int) : List HavD :=
  if TE = 0 then F.havK (lgT S n) (timT S n M.places.toNat) (opM M lw ls lc li lb) t false M.places.toNat else []
theorem rHavensW_c (M : MetD) (vF vS : Value) (lw ls lc : Int) (li lb : Bool) (A : Option Addr) (n c : Nat) (S : Tab) (F : FliD) (vR : Value) (t : Int) (w : World) (hM : MetAt w vF vS M) (hc1 : n ≤ c) (hc2 : c ≤ 9223372036854775807) (hL : RecsAt w A n 3 (nV S)) (hR : SlI w vR F.m F.R) :
   Calls Tryz.prog 27 #[.agg #[.int .i64 M.places, .int .i64 M.any.a0, .int .i64 M.any.a1, .int .i64 M.any.a2, .int .i64 M.any.a3, .int .i64 M.any.a4, .int .i64 M.any.a5, .bool M.any.i, .bool M.any.s, .int .i64 M.mw, .int .i64 M.ms, .int .i64 M.mc, vF, vS], .agg #[.int .i64 lw, .int .i64 ls, .int .i64 lc, .bool li, .bool lb], .slice A n c, .agg #[vR, .int .i64 F.dep, .int .i64 F.fuel, .int .i64 F.burn, .int .i64 F.res], .int .i64 t] w fun e w' => ∃ vO, e = .returned (.tuple #[vO, .int .i64 (tkE (nfE (netME M lw ls lc S n) M S n F) F (lgT S n) t)]) ∧ RowKit.Below w.heap.size w w' ∧ SlH w' vO (hvW (tkE (nfE (netME M lw ls lc S n) M S n F) F (lgT S n) t) M lw ls lc li lb S n F t) := by
  have HM := Lib.hid hM
  have HL := Lib.hid hL
  have HR := Lib.hid hR
  clear hM hL hR
  have HNT := Lib.hid (fun w1 h1 h2 h3 => newTick_c M vF vS lw ls lc li lb A n c S F vR t w1 h1 hc1 hc2 h2 h3)
  have tok : True := trivial
  have tok2 : True := trivial
  have tok3 : True := trivial
  have hto := fun h => tkE_ok (NE := nfE (netME M lw ls lc S n) M S n F) (F := F) (lt := lgT S n) (t := t) h
  have hok := fun h => nfM_ok (M := M) (lw := lw) (ls := ls) (lc := lc) (S := S) (n := n) (F := F) (hto h).1
  have hir := fun h => inB_iff.1 (hto h).2
  clear hto
  generalize tkE (nfE (netME M lw ls lc S n) M S n F) F (lgT S n) t = TE at *
  unfold hvW
  by_cases h0 : TE = 0
  case neg =>
    rw [if_neg h0]
    have hz : (TE != 0) = true := by simpa using h0
    clear h0 hok hir
    go_enter Tryz.func27, Tryz.ntmps27
    go_wp2_with (fail)
    have _x := frm3 w #[.int .i64 M.places, .int .i64 M.any.a0, .int .i64 M.any.a1, .int .i64 M.any.a2, .int .i64 M.any.a3, .int .i64 M.any.a4, .int .i64 M.any.a5, .bool M.any.i, .bool M.any.s, .int .i64 M.mw, .int .i64 M.ms, .int .i64 M.mc, vF, vS] 29 #[.int .i64 lw, .int .i64 ls, .int .i64 lc, .bool li, .bool lb] 31 #[vR, .int .i64 F.dep, .int .i64 F.fuel, .int .i64 F.burn, .int .i64 F.res] 37
    have HX := Lib.hid _x.1
    have HI := Lib.hid _x.2.1
    have HF := Lib.hid _x.2.2.1
    have HB := Lib.hid _x.2.2.2.1
    have zW := _x.2.2.2.2
    clear _x
    generalize World.alloc (World.alloc (World.alloc w _) _) _ = W at *
    go_wp2_with (first | (have _t := tok; refine wpl_row rfl 29 (.tmp 5) rfl _ rfl #[.int .i64 M.places, .int .i64 M.any.a0, .int .i64 M.any.a1, .int .i64 M.any.a2, .int .i64 M.any.a3, .int .i64 M.any.a4, .int .i64 M.any.a5, .bool M.any.i, .bool M.any.s, .int .i64 M.mw, .int .i64 M.ms, .int .i64 M.mc, vF, vS] 14 HX.out Tryz.rowMet rfl ?_; simp only [Act.put]; clear tok) | (have _t := tok2; refine wpl_row rfl 31 (.tmp 6) rfl _ rfl #[.int .i64 lw, .int .i64 ls, .int .i64 lc, .bool li, .bool lb] 5 HI.out Tryz.rowMin rfl ?_; simp only [Act.put]; clear tok2) | (have _t := tok3; refine wpl_row rfl 37 (.tmp 8) rfl _ rfl #[vR, .int .i64 F.dep, .int .i64 F.fuel, .int .i64 F.burn, .int .i64 F.res] 5 HF.out Tryz.rowFli rfl ?_; simp only [Act.put]; clear tok3) | (go_at_call 67; (with_reducible refine (HNT.out _ (HM.out.below HB.out) (HL.out.below HB.out) (HR.out.below HB.out)).mono ?_); rintro e w1 ⟨v, rfl, hb1⟩; (obtain ⟨hb1, -⟩ := hb1); have nHX := Lib.hid (HX.out.below hb1); have nHI := Lib.hid (HI.out.below hb1); have nHF := Lib.hid (HF.out.below hb1); have nHB := Lib.hid (bthen HB.out hb1); have zz1 := hb1.size; clear HX HI HF HB hb1; have HX := nHX; have HI := nHI; have HF := nHF; have HB := nHB; clear nHX nHI nHF nHB))
    go_ret2
    exact ⟨_, rfl, HB.out, SlH.nil _⟩
  subst h0
  rw [if_pos rfl]
  obtain ⟨f3, f4, f5, f6, f7⟩ := hok rfl
  have hi := hir rfl
  have hti := timT_in f6 f4.2
  have HHV := Lib.hid (fun v vN w1 h hm => fhavens_c M vF vS v vN M.places.toNat (lgT S n) (timT S n M.places.toNat) F vR lw ls lc li lb t false w1 h hm f3 f4.2 f7 f5 hti hi.1 hi.2)
  clear f3 f4 f5 f6 f7 hti hi hok hir
  generalize F.havK (lgT S n) (timT S n M.places.toNat) (opM M lw ls lc li lb) t false M.places.toNat = l at *
  go_enter Tryz.func27, Tryz.ntmps27
  go_wp2_with (fail)
  have _x := frm3 w #[.int .i64 M.places, .int .i64 M.any.a0, .int .i64 M.any.a1, .int .i64 M.any.a2, .int .i64 M.any.a3, .int .i64 M.any.a4, .int .i64 M.any.a5, .bool M.any.i, .bool M.any.s, .int .i64 M.mw, .int .i64 M.ms, .int .i64 M.mc, vF, vS] 29 #[.int .i64 lw, .int .i64 ls, .int .i64 lc, .bool li, .bool lb] 31 #[vR, .int .i64 F.dep, .int .i64 F.fuel, .int .i64 F.burn, .int .i64 F.res] 37
  have HX := Lib.hid _x.1
  have HI := Lib.hid _x.2.1
  have HF := Lib.hid _x.2.2.1
  have HB := Lib.hid _x.2.2.2.1
  have zW := _x.2.2.2.2
  clear _x
  generalize World.alloc (World.alloc (World.alloc w _) _) _ = W at *
  go_wp2_with (first | (have _t := tok; refine wpl_row rfl 29 (.tmp 5) rfl _ rfl #[.int .i64 M.places, .int .i64 M.any.a0, .int .i64 M.any.a1, .int .i64 M.any.a2, .int .i64 M.any.a3, .int .i64 M.any.a4, .int .i64 M.any.a5, .bool M.any.i, .bool M.any.s, .int .i64 M.mw, .int .i64 M.ms, .int .i64 M.mc, vF, vS] 14 HX.out Tryz.rowMet rfl ?_; simp only [Act.put]; clear tok) | (have _t := tok2; refine wpl_row rfl 31 (.tmp 6) rfl _ rfl #[.int .i64 lw, .int .i64 ls, .int .i64 lc, .bool li, .bool lb] 5 HI.out Tryz.rowMin rfl ?_; simp only [Act.put]; clear tok2) | (have _t := tok3; refine wpl_row rfl 37 (.tmp 8) rfl _ rfl #[vR, .int .i64 F.dep, .int .i64 F.fuel, .int .i64 F.burn, .int .i64 F.res] 5 HF.out Tryz.rowFli rfl ?_; simp only [Act.put]; clear tok3))
  refine (HNT.out _ (HM.out.below HB.out) (HL.out.below HB.out) (HR.out.below HB.out)).mono ?_
  rintro e w2 ⟨v, rfl, hb2, hv⟩
  obtain ⟨vN, hfa⟩ := hv rfl
  have HFA := Lib.hid hfa
  obtain ⟨gx, vA, rfl, -⟩ := hfa
  have HB2 := Lib.hid (bthen HB.out hb2)
  clear hv HX HI HF hb2 HB
  go_wp2_with (fail)
  refine (HHV.out _ _ _ HFA.out (HM.out.below HB2.out)).mono ?_
  rintro e w3 ⟨vO, rfl, hb3, hO⟩
  have HO := Lib.hid hO
  have HB3 := Lib.hid (bthen HB2.out hb3)
  clear hO hb3 HB2 HFA
  go_wp2_with (fail)
  go_ret2
  exact ⟨_, rfl, HB3.out, HO.out⟩
end Go.Proofs.YtbgkbdhdkpjcdaaGreat
