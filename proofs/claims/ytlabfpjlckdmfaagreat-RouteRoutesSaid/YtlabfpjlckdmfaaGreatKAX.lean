/- Texts joined: KAX. -/
import Derived.Test.YtlabfpjlckdmfaaGreatKZL
import Derived.Test.YtlabfpjlckdmfaaGreatKAM
import Derived.Test.YtlabfpjlckdmfaaGreatKZF
import Derived.Test.YtlabfpjlckdmfaaGreatKAT
import Derived.Test.YtlabfpjlckdmfaaGreatKAA
import Derived.Test.YtlabfpjlckdmfaaGreatKAW
set_option linter.all false
namespace Go.Proofs.YtlabfpjlckdmfaaGreat
open Go Go.RowKit Go.Proofs
set_option maxRecDepth 100000
set_option maxHeartbeats 8000000
theorem rw_Worst_c (x : Sk) (w : World) : Calls Tryz.prog 117 #[.agg #[.int .i64 x.a0, .int .i64 x.a1, .int .i64 x.a2, .int .i64 x.a3, .int .i64 x.a4, .int .i64 x.a5, .bool x.i, .bool x.s]] w
  fun e w' => e = .returned (.agg #[.int .i64 x.a1, .int .i64 x.a2, .int .i64 x.a4, .bool x.i, .bool x.s]) ∧ Below w.heap.size w w' := by
 obtain ⟨a0, a1, a2, a3, a4, a5, xi, xs⟩ := x
 go_enter Tryz.func117, Tryz.ntmps117
 go_wp2
 exact bodyPost_ret (res_c rfl _ _ _ 5 rfl (Blk.newA _ _ _ (by simp)) Tryz.rowWe rfl) rfl ⟨rfl, (by repeat' (first | exact Below.refl _ _ | assumption | refine Below.drew ?_ | refine bdn ?_ _ | refine bal ?_ _ | refine Below.setCell ?_ (by first | (simp; done) | omega | (simp; omega)) _))⟩
theorem rw_open_c (M : MetD) (vF vS : Value) (lw ls lc : Int) (li lt : Bool) (p t : Int) (w : World) (hM : M.Ok) (hA : MetAt w vF vS M) (ht0 : 0 ≤ t) (ht1 : t ≤ 2000) :
  Calls Tryz.prog 103 #[.agg #[.int .i64 M.places, .int .i64 M.any.a0, .int .i64 M.any.a1, .int .i64 M.any.a2, .int .i64 M.any.a3, .int .i64 M.any.a4, .int .i64 M.any.a5, .bool M.any.i, .bool M.any.s, .int .i64 M.mw, .int .i64 M.ms, .int .i64 M.mc, vF, vS], .agg #[.int .i64 lw, .int .i64 ls, .int .i64 lc, .bool li, .bool lt], .int .i64 p, .int .i64 t] w fun e w' => e = .returned (.bool (openB (M.may p t) lw ls lc li lt)) ∧ Below w.heap.size w w' := by
 have HA := hI9 hA
 have hmy := fun w1 h => rw_may_c M vF vS p t w1 hM h ht0 ht1
 clear hA hM
 rcases hx : M.may p t with ⟨a0, a1, a2, a3, a4, a5, xi, xs⟩
 rw [hx] at hmy
 have hwo := fun w1 => rw_Worst_c (Sk.mk a0 a1 a2 a3 a4 a5 xi xs) w1
 dsimp only at hwo
 unfold openB Sk.cells at *
 dsimp only at hmy ⊢
 have HFL := hI9 (fun w1 => rw_Flyable_c a1 a2 a4 xi xs lw ls lc li lt w1)
 generalize flyB a1 a2 a4 xi xs lw ls lc li lt = R at *
 have HMY := hI9 hmy
 have HWO := hI9 hwo
 clear hmy hwo hx
 go_enter Tryz.func103, Tryz.ntmps103
 go_wp2_with (first | (refine wpl_row rfl 29 _ rfl _ rfl _ 14 ?_ Tryz.rowMet rfl ?_; (focus exact (by repeat (first | (refine Blk.newAt _ _ _ ?_; first | rfl | (simp; done)) | refine Blk.alloc ?_ _))); simp only [Act.put]))
 have _x := frm2 w #[.int .i64 M.places, .int .i64 M.any.a0, .int .i64 M.any.a1, .int .i64 M.any.a2, .int .i64 M.any.a3, .int .i64 M.any.a4, .int .i64 M.any.a5, .bool M.any.i, .bool M.any.s, .int .i64 M.mw, .int .i64 M.ms, .int .i64 M.mc, vF, vS] 29 #[.int .i64 lw, .int .i64 ls, .int .i64 lc, .bool li, .bool lt] 31
 have HX := hI9 _x.1
 have HL := hI9 _x.2.1
 have HB := hI9 _x.2.2.1
 have zW := _x.2.2.2
 clear _x
 generalize World.alloc (World.alloc w _) _ = W at *
 refine (HMY.out _ (HA.out.below HB.out)).mono ?_
 rintro _ w1 ⟨v, rfl, hb1⟩
 have nHX := hI9 (HX.out.below hb1)
 have nHL := hI9 (HL.out.below hb1)
 have nHB := hI9 (bthen HB.out hb1)
 clear HX HL HB hb1
 have HX := nHX
 have HL := nHL
 have HB := nHB
 clear nHX nHL nHB
 go_wp2_with (fail)
 have bHS := Blk.new w1 25 #[.int .i64 a0, .int .i64 a1, .int .i64 a2, .int .i64 a3, .int .i64 a4, .int .i64 a5, .bool xi, .bool xs]
 have nHX := hI9 (HX.out.alloc (.cells #[.int .i64 a0, .int .i64 a1, .int .i64 a2, .int .i64 a3, .int .i64 a4, .int .i64 a5, .bool xi, .bool xs] 25))
 have nHL := hI9 (HL.out.alloc (.cells #[.int .i64 a0, .int .i64 a1, .int .i64 a2, .int .i64 a3, .int .i64 a4, .int .i64 a5, .bool xi, .bool xs] 25))
 have nHB := hI9 (bal HB.out (.cells #[.int .i64 a0, .int .i64 a1, .int .i64 a2, .int .i64 a3, .int .i64 a4, .int .i64 a5, .bool xi, .bool xs] 25))
 clear HX HL HB
 have HX := nHX
 have HL := nHL
 have HB := nHB
 clear nHX nHL nHB
 generalize w1.alloc (.cells #[.int .i64 a0, .int .i64 a1, .int .i64 a2, .int .i64 a3, .int .i64 a4, .int .i64 a5, .bool xi, .bool xs] 25) = W2 at *
 generalize w1.heap.size = gHS at *
 have HS := hI9 bHS
 clear bHS
 have hS2 := hI9 (fun r : After _ => HS.out.below r.below)
 have hL2 := hI9 (fun r : After _ => HL.out.below r.below)
 refine wp_region_aftert 4 (by kernel_rfl) (by kernel_rfl) ?_
 simp only [List.take_succ_cons, List.take_zero, List.drop_succ_cons, List.drop_zero]
 refine wpq_row rfl 25 _ rfl _ rfl _ 8 (fun _ hw => by obtain ⟨r, rfl⟩ := hw; exact hS2.out r) Tryz.rowSky rfl ?_
 simp only [Act.put, List.setIfInBounds_toArray, List.set_cons_succ, List.set_cons_zero]
 go_big_quiet_step (first | (go_at_call 117; (with_reducible refine qafter (HWO.out _))))
 refine wpq_row rfl 31 _ rfl _ rfl _ 5 (fun _ hw => by obtain ⟨r, rfl⟩ := hw; exact hL2.out r) Tryz.rowMin rfl ?_
 simp only [Act.put, List.setIfInBounds_toArray, List.set_cons_succ, List.set_cons_zero]
 go_big_quiet_step (first | (go_at_call 116; (with_reducible refine qafter (HFL.out _))))
 refine wpQuiet_nil ?_
 rintro _ ⟨r, rfl⟩
 have BR := r.below
 go_wp2_with (fail)
 go_ret
 exact ⟨rfl, bthen HB.out BR⟩
end Go.Proofs.YtlabfpjlckdmfaaGreat

namespace Go.Proofs.YtlabfpjlckdmfaaGreat
open Go Go.RowKit Go.Proofs
set_option maxRecDepth 100000
set_option maxHeartbeats 8000000
theorem rw_Open_c (M : MetD) (vF vS : Value) (lw ls lc : Int) (li lt : Bool) (p t : Int) (w : World) (hA : MetAt w vF vS M) :
  Calls Tryz.prog 86 #[.agg #[.int .i64 M.places, .int .i64 M.any.a0, .int .i64 M.any.a1, .int .i64 M.any.a2, .int .i64 M.any.a3, .int .i64 M.any.a4, .int .i64 M.any.a5, .bool M.any.i, .bool M.any.s, .int .i64 M.mw, .int .i64 M.ms, .int .i64 M.mc, vF, vS], .agg #[.int .i64 lw, .int .i64 ls, .int .i64 lc, .bool li, .bool lt], .int .i64 p, .int .i64 t] w fun e w' => e = .returned (.tuple #[.bool (openV M lw ls lc li lt p t), .int .i64 (opE M lw ls lc p t)]) ∧ Below w.heap.size w w' := by
 have HA := hI9 hA
 have hco := fun w1 h => rw_CheckOpen_c M vF vS lw ls lc li lt p t w1 h
 clear hA
 unfold openV
 by_cases he : opE M lw ls lc p t = 0
 ·obtain ⟨hM, ht0, ht1⟩ := opE_ok he
  have hop := fun w1 h => rw_open_c M vF vS lw ls lc li lt p t w1 hM h ht0 ht1
  rw [he] at hco ⊢
  rw [show (decide ((0 : Int) = 0) && openB (M.may p t) lw ls lc li lt) = openB (M.may p t) lw ls lc li lt from rfl]
  generalize openB (M.may p t) lw ls lc li lt = R at *
  have HCO := hI9 hco
  have HOP := hI9 hop
  clear hco hop hM he
  go_enter Tryz.func86, Tryz.ntmps86
  go_wp2_with (first | (refine wpl_row rfl 29 _ rfl _ rfl _ 14 ?_ Tryz.rowMet rfl ?_; (focus exact (by repeat (first | (refine Blk.newAt _ _ _ ?_; first | rfl | (simp; done)) | refine Blk.alloc ?_ _))); simp only [Act.put]) | (refine wpl_row rfl 31 _ rfl _ rfl _ 5 ?_ Tryz.rowMin rfl ?_; (focus exact (by repeat (first | (refine Blk.newAt _ _ _ ?_; first | rfl | (simp; done)) | refine Blk.alloc ?_ _))); simp only [Act.put]))
  have _x := frm2 w #[.int .i64 M.places, .int .i64 M.any.a0, .int .i64 M.any.a1, .int .i64 M.any.a2, .int .i64 M.any.a3, .int .i64 M.any.a4, .int .i64 M.any.a5, .bool M.any.i, .bool M.any.s, .int .i64 M.mw, .int .i64 M.ms, .int .i64 M.mc, vF, vS] 29 #[.int .i64 lw, .int .i64 ls, .int .i64 lc, .bool li, .bool lt] 31
  have HX := hI9 _x.1
  have HL := hI9 _x.2.1
  have HB := hI9 _x.2.2.1
  have zW := _x.2.2.2
  clear _x
  generalize World.alloc (World.alloc w _) _ = W at *
  go_wp2_with (first | (go_at_call 102; (with_reducible refine (HCO.out _ (HA.out.below HB.out)).mono ?_); rintro e w1 ⟨rfl, hb1⟩; have nHX := hI9 (HX.out.below hb1); have nHL := hI9 (HL.out.below hb1); have nHB := hI9 (bthen HB.out hb1); have zz1 := hb1.size; clear HX HL HB hb1; have HX := nHX; have HL := nHL; have HB := nHB; clear nHX nHL nHB) | (refine wpl_row rfl 29 _ rfl _ rfl _ 14 HX.out Tryz.rowMet rfl ?_; simp only [Act.put]) | (refine wpl_row rfl 31 _ rfl _ rfl _ 5 HL.out Tryz.rowMin rfl ?_; simp only [Act.put]) | (go_at_call 103; (with_reducible refine (HOP.out _ (HA.out.below HB.out)).mono ?_); rintro e w1 ⟨rfl, hb1⟩; have nHX := hI9 (HX.out.below hb1); have nHL := hI9 (HL.out.below hb1); have nHB := hI9 (bthen HB.out hb1); have zz1 := hb1.size; clear HX HL HB hb1; have HX := nHX; have HL := nHL; have HB := nHB; clear nHX nHL nHB))
  go_ret2
  exact ⟨rfl, HB.out⟩
 ·have hez : (opE M lw ls lc p t != 0) = true := by simpa using he
  rw [show decide (opE M lw ls lc p t = 0) = false from decide_eq_false he, Bool.false_and]
  generalize opE M lw ls lc p t = E at *
  have HCO := hI9 hco
  have HOP := hI9 (fun (w1 : World) (_ : MetAt w1 vF vS M) => True.intro)
  clear hco he
  go_enter Tryz.func86, Tryz.ntmps86
  go_wp2_with (first | (refine wpl_row rfl 29 _ rfl _ rfl _ 14 ?_ Tryz.rowMet rfl ?_; (focus exact (by repeat (first | (refine Blk.newAt _ _ _ ?_; first | rfl | (simp; done)) | refine Blk.alloc ?_ _))); simp only [Act.put]) | (refine wpl_row rfl 31 _ rfl _ rfl _ 5 ?_ Tryz.rowMin rfl ?_; (focus exact (by repeat (first | (refine Blk.newAt _ _ _ ?_; first | rfl | (simp; done)) | refine Blk.alloc ?_ _))); simp only [Act.put]))
  have _x := frm2 w #[.int .i64 M.places, .int .i64 M.any.a0, .int .i64 M.any.a1, .int .i64 M.any.a2, .int .i64 M.any.a3, .int .i64 M.any.a4, .int .i64 M.any.a5, .bool M.any.i, .bool M.any.s, .int .i64 M.mw, .int .i64 M.ms, .int .i64 M.mc, vF, vS] 29 #[.int .i64 lw, .int .i64 ls, .int .i64 lc, .bool li, .bool lt] 31
  have HX := hI9 _x.1
  have HL := hI9 _x.2.1
  have HB := hI9 _x.2.2.1
  have zW := _x.2.2.2
  clear _x
  generalize World.alloc (World.alloc w _) _ = W at *
  go_wp2_with (first | (go_at_call 102; (with_reducible refine (HCO.out _ (HA.out.below HB.out)).mono ?_); rintro e w1 ⟨rfl, hb1⟩; have nHX := hI9 (HX.out.below hb1); have nHL := hI9 (HL.out.below hb1); have nHB := hI9 (bthen HB.out hb1); have zz1 := hb1.size; clear HX HL HB hb1; have HX := nHX; have HL := nHL; have HB := nHB; clear nHX nHL nHB) | (refine wpl_row rfl 29 _ rfl _ rfl _ 14 HX.out Tryz.rowMet rfl ?_; simp only [Act.put]) | (refine wpl_row rfl 31 _ rfl _ rfl _ 5 HL.out Tryz.rowMin rfl ?_; simp only [Act.put]) | (go_at_call 103; (with_reducible refine (HOP.out _ (HA.out.below HB.out)).mono ?_); rintro e w1 ⟨rfl, hb1⟩; have nHX := hI9 (HX.out.below hb1); have nHL := hI9 (HL.out.below hb1); have nHB := hI9 (bthen HB.out hb1); have zz1 := hb1.size; clear HX HL HB hb1; have HX := nHX; have HL := nHL; have HB := nHB; clear nHX nHL nHB))
  go_ret2
  exact ⟨rfl, HB.out⟩
end Go.Proofs.YtlabfpjlckdmfaaGreat

namespace Go.Proofs.YtlabfpjlckdmfaaGreat
open Go Go.RowKit Go.Proofs
set_option maxRecDepth 100000
set_option maxHeartbeats 8000000
theorem FliD.reach_nn {F : FliD} {P : Nat} {lt tt : Tab} {t : Int} {p : Nat} (hok : F.ok P lt) (hl : LegIn P lt) (h0 : F.dep ≤ t) (h1 : t ≤ F.at_ lt (F.m - 1)) (hr : (F.reach lt tt t p).2.2 = true) : 0 ≤ (F.reach lt tt t p).1 := by
 obtain ⟨hnu, hfl, hend⟩ := hok
 obtain ⟨hm, hd, -⟩ := FliD.nums_iff.1 hnu
 have hix := FliD.ix_le (F := F) (lt := lt) (t := t) (F.m - 1)
 have hixa := FliD.ix_at (F := F) (lt := lt) h0 (F.m - 1)
 have hat := fun i (hi : i < F.m) => FliD.at_in hl hd i ⟨fun j hj => hfl.1 j (by omega), fun j hj => hfl.2 j (by omega)⟩
 unfold FliD.reach at hr ⊢
 have a1 := hat _ (show F.ix lt t (F.m - 1) < F.m by omega)
 generalize F.ix lt t (F.m - 1) = i at *
 dsimp only at hr ⊢
 by_cases c : t = F.at_ lt i
 ·rw [if_pos c] at hr ⊢
  have := of_decide_eq_true hr
  dsimp only
  omega
 ·rw [if_neg c] at hr ⊢
  have him : i < F.m - 1 := by
   rcases Nat.lt_or_ge i (F.m - 1) with q | q
   ·exact q
   ·have : i = F.m - 1 := by omega
    subst this
    omega
  have a2 := hat (i + 1) (by omega)
  split at hr
  ·rename_i c2
   rw [if_pos c2]
   have := of_decide_eq_true hr
   dsimp only
   omega
  ·rename_i c2
   rw [if_neg c2]
   have := of_decide_eq_true hr
   dsimp only
   omega
structure RvK (T1 T2 T3 : TypeId) (C1 C2 C3 : Array Value) (l : List HavD) (vO : Value) (w wr : World) : Prop where
 b : RowKit.Below w.heap.size w wr
 x : Blk wr w.heap.size T1 C1
 i : Blk wr (w.heap.size + 1) T2 C2
 f : Blk wr (w.heap.size + 1 + 1) T3 C3
 o : wr.ownsRow (w.heap.size + 1 + 1 + 1) 67 3 vO l.length (hvL l)
theorem RvK.below {T1 T2 T3 : TypeId} {C1 C2 C3 : Array Value} {l : List HavD} {vO : Value} {w wr w2 : World} (h : RvK T1 T2 T3 C1 C2 C3 l vO w wr) (hb : RowKit.Below wr.heap.size wr w2) : RvK T1 T2 T3 C1 C2 C3 l vO w w2 :=
 ⟨bthen h.b hb, h.x.below hb, h.i.below hb, h.f.below hb, ownsRow_below h.o hb⟩
theorem RvK.app {T1 T2 T3 : TypeId} {C1 C2 C3 : Array Value} {l : List HavD} {vO v2 : Value} {w wr w2 : World} {x : HavD} (h : RvK T1 T2 T3 C1 C2 C3 l vO w wr) (ho : w2.ownsRow (w.heap.size + 1 + 1 + 1) 67 3 v2 (l.length + 1) (hvL l ++ [.int .i64 x.p, .int .i64 x.t, .bool x.b])) (hg : wr.grownBy w2 vO.ownBlock) : RvK T1 T2 T3 C1 C2 C3 (l ++ [x]) v2 w w2 := by
 have hb := belowGrew (base := w.heap.size + 1 + 1 + 1) hg (by have := h.f.lt; omega) (fun b q => (ownLt h.o q).1)
 exact ⟨h.b.trans (hb.mono (by omega)), h.x.under hb (by omega), h.i.under hb (by omega), h.f.under hb (by omega), by rw [hvL_snoc, List.length_append]; exact ho⟩
theorem r5havens_c (M : MetD) (vF vS : Value) (lw ls lc : Int) (li lb : Bool) (A : Option Addr) (n c : Nat) (S : Tab) (P : Nat) (F : FliD) (vR : Value) (t : Int) (w : World) (hM : MetAt w vF vS M) (hc1 : n ≤ c) (hc2 : c ≤ 9223372036854775807) (hL : RecsAt w A n 3 (nV S)) (hR : SlI w vR F.m F.R) (hok : F.ok P (lgT S n)) (hN : NetOk P S n) (hMP : M.places = P) (hp8 : 1 ≤ P ∧ P ≤ 8) (h0 : F.dep ≤ t) (h1 : t ≤ F.at_ (lgT S n) (F.m - 1)) :
  Calls Tryz.prog 60 #[.agg #[.int .i64 M.places, .int .i64 M.any.a0, .int .i64 M.any.a1, .int .i64 M.any.a2, .int .i64 M.any.a3, .int .i64 M.any.a4, .int .i64 M.any.a5, .bool M.any.i, .bool M.any.s, .int .i64 M.mw, .int .i64 M.ms, .int .i64 M.mc, vF, vS], .agg #[.int .i64 lw, .int .i64 ls, .int .i64 lc, .bool li, .bool lb], .slice A n c, .agg #[vR, .int .i64 F.dep, .int .i64 F.fuel, .int .i64 F.burn, .int .i64 F.res], .int .i64 t] w fun e w' => ∃ vO, e = .returned vO ∧ RowKit.Below w.heap.size w w' ∧ SlH w' vO (F.havK (lgT S n) (timT S n P) (opM M lw ls lc li lb) t false P) := by
 have HM := hI9 hM
 have HL := hI9 hL
 have HR := hI9 hR
 have HRE := hI9 (fun (k : Nat) (hk : k < P) w1 h1' h2' => r5Reach_c M vF vS A n c S P F vR t k w1 hc1 hc2 h1' h2' hok hN hMP hp8 hk h0 h1)
 have hlin : LegIn P (lgT S n) := fun i j => by have := lgT_in hN n (Nat.le_refl _) i j; omega
 have HIN := hI9 (fun k (hk : k < P) => FliD.reach_in (F := F) (t := t) (p := k) hok hlin (timT_in hN hp8.2) hk h0 h1)
 have HNN := hI9 (fun k => FliD.reach_nn (F := F) (t := t) (p := k) (tt := timT S n P) hok hlin h0 h1)
 have HLAS := hI9 (fun a ha w1 => r5lasts_c F vR a w1 hok.1 ha)
 have HOPN := hI9 (fun (p : Nat) a w1 h => rw_Open_c M vF vS lw ls lc li lb (p : Int) a w1 h)
 have HLATE := hI9 (fun (p : Nat) (a : Int) (ha : 2000 < a) => show opM M lw ls lc li lb p a = false by unfold opM openV; rw [decide_eq_false (opE_late ha)]; rfl)
 have HOPE := hI9 (fun (p : Nat) (a : Int) => show openV M lw ls lc li lb p a = opM M lw ls lc li lb p a from rfl)
 generalize opM M lw ls lc li lb = op at *
 have HREF := hI9 (fun k => show F.refR (lgT S n) (timT S n P) t k = if (F.reach (lgT S n) (timT S n P) t k).2.2 = true then ((F.reach (lgT S n) (timT S n P) t k).1, (F.reach (lgT S n) (timT S n P) t k).2.1) else (-1, false) from rfl)
 generalize lgT S n = lt at *
 generalize timT S n P = tt at *
 have HPE := hI9 hMP
 obtain ⟨hp1, hp8⟩ := hp8
 clear hM hL hR hok hN hMP h0 h1 hlin
 go_enter Tryz.func60, Tryz.ntmps60
 go_wp2_with (fail)
 have _x := frm3 w #[.int .i64 M.places, .int .i64 M.any.a0, .int .i64 M.any.a1, .int .i64 M.any.a2, .int .i64 M.any.a3, .int .i64 M.any.a4, .int .i64 M.any.a5, .bool M.any.i, .bool M.any.s, .int .i64 M.mw, .int .i64 M.ms, .int .i64 M.mc, vF, vS] 29 #[.int .i64 lw, .int .i64 ls, .int .i64 lc, .bool li, .bool lb] 31 #[vR, .int .i64 F.dep, .int .i64 F.fuel, .int .i64 F.burn, .int .i64 F.res] 37
 have HX := hI9 _x.1
 have HI := hI9 _x.2.1
 have HF := hI9 _x.2.2.1
 have HB := hI9 _x.2.2.2.1
 have zW := _x.2.2.2.2
 clear _x
 generalize World.alloc (World.alloc (World.alloc w _) _) _ = W at *
 have K0 := hI9 (show RvK 29 31 37 #[.int .i64 M.places, .int .i64 M.any.a0, .int .i64 M.any.a1, .int .i64 M.any.a2, .int .i64 M.any.a3, .int .i64 M.any.a4, .int .i64 M.any.a5, .bool M.any.i, .bool M.any.s, .int .i64 M.mw, .int .i64 M.ms, .int .i64 M.mc, vF, vS] #[.int .i64 lw, .int .i64 ls, .int .i64 lc, .bool li, .bool lb] #[vR, .int .i64 F.dep, .int .i64 F.fuel, .int .i64 F.burn, .int .i64 F.res] (F.havK lt tt op t false 0) (.slice none 0 0) w W from ⟨HB.out, HX.out, HI.out, HF.out, World.ownsRow_nil _ _ _ _⟩)
 clear HX HI HF HB zW
 go_wp2_with (fail)
 go_loopg [11, 12] P (fun gy ov iv wr => ∃ k : Nat, iv = .int .i64 k ∧ k ≤ P ∧ P - k ≤ gy ∧ Hid (RvK 29 31 37 #[.int .i64 M.places, .int .i64 M.any.a0, .int .i64 M.any.a1, .int .i64 M.any.a2, .int .i64 M.any.a3, .int .i64 M.any.a4, .int .i64 M.any.a5, .bool M.any.i, .bool M.any.s, .int .i64 M.mw, .int .i64 M.ms, .int .i64 M.mc, vF, vS] #[.int .i64 lw, .int .i64 ls, .int .i64 lc, .bool li, .bool lb] #[vR, .int .i64 F.dep, .int .i64 F.fuel, .int .i64 F.burn, .int .i64 F.res] (F.havK lt tt op t false k) ov w wr))
 case atStart => exact ⟨0, rfl, Nat.zero_le _, Nat.sub_le _ _, K0⟩
 case round =>
  clear K0
  obtain ⟨k, rfl, hk, hgy, K0⟩ := hrel
  have x0 : wr.cell? ⟨w.heap.size, 0, none⟩ = some (.int .i64 (P : Int)) := by rw [← HPE.out]; exact K0.out.x.cell 0
  by_cases hlt : k < P
  case pos =>
   have hltz : (k : Int) < (P : Int) := by omega
   have hre := HRE.out k hlt wr (HL.out.below K0.out.b) (HR.out.below K0.out.b)
   have hri := HIN.out k hlt
   have hnn := HNN.out k
   rw [HREF.out k] at hre
   rcases hrv : F.reach lt tt t k with ⟨ra, rb, rc⟩
   rw [hrv] at hre hri hnn
   dsimp only at hre hri hnn
   have HRV := hI9 hrv
   have HLA0 := hI9 (fun w1 => HLAS.out ra (by omega) w1)
   have hop := fun w1 h => HOPN.out k ra w1 h
   rw [HOPE.out k ra] at hop
   have hlate := HLATE.out k ra
   clear hrv
   have tokA : True := trivial
   have tokB : True := trivial
   go_wp2_with (first | (have _t := tokA; refine wpl_row rfl 29 (.tmp 5) rfl _ rfl _ 14 K0.out.x Tryz.rowMet rfl ?_; simp only [Act.put]; clear tokA) | (have _t := tokB; refine wpl_row rfl 37 (.tmp 8) rfl _ rfl _ 5 K0.out.f Tryz.rowFli rfl ?_; simp only [Act.put]; clear tokB))
   refine hre.mono ?_
   clear hre x0
   rintro e w2 ⟨rfl, hb2⟩
   have nK := hI9 (K0.out.below hb2)
   clear hb2 K0
   have K0 := nK
   clear nK
   have tokC : True := trivial
   have tokD : True := trivial
   have tokE : True := trivial
   cases rc
   case false =>
    clear hnn hop hlate
    rw [if_neg (show ¬ (false = true) by decide)]
    dsimp only
    clear tokE
    have HV := hI9 (show F.havK lt tt op t false (k + 1) = F.havK lt tt op t false k from if_neg (by unfold FliD.havB; rw [HRV.out]; simp [Bool.false_and]))
    go_wp2_with (first | (have _t := tokE; refine wpl_row_g ?_ 37 (.tmp 8) rfl _ rfl _ 5 K0.out.f Tryz.rowFli rfl ?_; (focus rfl); simp only [Act.put]; clear tokE) | (go_at_call 85; refine (HLA.out _).mono ?_; rintro e w4 ⟨rfl, hb4⟩; have K2 := hI9 (K0.out.below hb4); clear hb4 K0) | (have _t := tokC; refine wpl_row rfl 29 (.tmp 5) rfl _ rfl _ 14 K2.out.x Tryz.rowMet rfl ?_; simp only [Act.put]; clear tokC) | (have _t := tokD; refine wpl_row rfl 31 (.tmp 6) rfl _ rfl _ 5 K2.out.i Tryz.rowMin rfl ?_; simp only [Act.put]; clear tokD) | (go_at_call 86; refine (HOP.out _ (HM.out.below K2.out.b)).mono ?_; rintro e w5 ⟨rfl, hb5⟩; have K3 := hI9 (K2.out.below hb5); clear hb5 K2))
    go_roundg (P - (k + 1))
    case measure => omega
    case rel => exact ⟨k + 1, by first | rfl | go_num | (congr 1; omega), by omega, Nat.le_refl _, hI9 (by rw [HV.out]; exact K0.out)⟩
   rw [if_pos rfl]
   dsimp only
   have hr0 := hnn rfl
   have hr0n : ¬ ra < 0 := by omega
   by_cases hl : 2000 < ra
   case pos =>
    have ho := hlate hl
    clear hop
    clear tokE
    have HV := hI9 (show F.havK lt tt op t false (k + 1) = F.havK lt tt op t false k from if_neg (by unfold FliD.havB; rw [HRV.out]; simp [ho]))
    go_wp2_with (first | (have _t := tokE; refine wpl_row_g ?_ 37 (.tmp 8) rfl _ rfl _ 5 K0.out.f Tryz.rowFli rfl ?_; (focus rfl); simp only [Act.put]; clear tokE) | (go_at_call 85; refine (HLA.out _).mono ?_; rintro e w4 ⟨rfl, hb4⟩; have K2 := hI9 (K0.out.below hb4); clear hb4 K0) | (have _t := tokC; refine wpl_row rfl 29 (.tmp 5) rfl _ rfl _ 14 K2.out.x Tryz.rowMet rfl ?_; simp only [Act.put]; clear tokC) | (have _t := tokD; refine wpl_row rfl 31 (.tmp 6) rfl _ rfl _ 5 K2.out.i Tryz.rowMin rfl ?_; simp only [Act.put]; clear tokD) | (go_at_call 86; refine (HOP.out _ (HM.out.below K2.out.b)).mono ?_; rintro e w5 ⟨rfl, hb5⟩; have K3 := hI9 (K2.out.below hb5); clear hb5 K2))
    go_roundg (P - (k + 1))
    case measure => omega
    case rel => exact ⟨k + 1, by first | rfl | go_num | (congr 1; omega), by omega, Nat.le_refl _, hI9 (by rw [HV.out]; exact K0.out)⟩
   cases hla : F.lasts ra
   case false =>
    have hLA := HLA0.out
    rw [hla] at hLA
    have HLA := hI9 hLA
    clear hop hLA
    have HV := hI9 (show F.havK lt tt op t false (k + 1) = F.havK lt tt op t false k from if_neg (by unfold FliD.havB; rw [HRV.out]; simp [hla]))
    go_wp2_with (first | (have _t := tokE; refine wpl_row_g ?_ 37 (.tmp 8) rfl _ rfl _ 5 K0.out.f Tryz.rowFli rfl ?_; (focus rfl); simp only [Act.put]; clear tokE) | (go_at_call 85; refine (HLA.out _).mono ?_; rintro e w4 ⟨rfl, hb4⟩; have K2 := hI9 (K0.out.below hb4); clear hb4 K0) | (have _t := tokC; refine wpl_row rfl 29 (.tmp 5) rfl _ rfl _ 14 K2.out.x Tryz.rowMet rfl ?_; simp only [Act.put]; clear tokC) | (have _t := tokD; refine wpl_row rfl 31 (.tmp 6) rfl _ rfl _ 5 K2.out.i Tryz.rowMin rfl ?_; simp only [Act.put]; clear tokD) | (go_at_call 86; refine (HOP.out _ (HM.out.below K2.out.b)).mono ?_; rintro e w5 ⟨rfl, hb5⟩; have K3 := hI9 (K2.out.below hb5); clear hb5 K2))
    go_roundg (P - (k + 1))
    case measure => omega
    case rel => exact ⟨k + 1, by first | rfl | go_num | (congr 1; omega), by omega, Nat.le_refl _, hI9 (by rw [HV.out]; exact K2.out)⟩
   have hLA := HLA0.out
   rw [hla] at hLA
   have HLA := hI9 hLA
   clear hLA
   cases ho : op k ra
   case false =>
    rw [ho] at hop
    have HOP := hI9 hop
    clear hop
    have HV := hI9 (show F.havK lt tt op t false (k + 1) = F.havK lt tt op t false k from if_neg (by unfold FliD.havB; rw [HRV.out]; simp [ho]))
    go_wp2_with (first | (have _t := tokE; refine wpl_row_g ?_ 37 (.tmp 8) rfl _ rfl _ 5 K0.out.f Tryz.rowFli rfl ?_; (focus rfl); simp only [Act.put]; clear tokE) | (go_at_call 85; refine (HLA.out _).mono ?_; rintro e w4 ⟨rfl, hb4⟩; have K2 := hI9 (K0.out.below hb4); clear hb4 K0) | (have _t := tokC; refine wpl_row rfl 29 (.tmp 5) rfl _ rfl _ 14 K2.out.x Tryz.rowMet rfl ?_; simp only [Act.put]; clear tokC) | (have _t := tokD; refine wpl_row rfl 31 (.tmp 6) rfl _ rfl _ 5 K2.out.i Tryz.rowMin rfl ?_; simp only [Act.put]; clear tokD) | (go_at_call 86; refine (HOP.out _ (HM.out.below K2.out.b)).mono ?_; rintro e w5 ⟨rfl, hb5⟩; have K3 := hI9 (K2.out.below hb5); clear hb5 K2))
    go_roundg (P - (k + 1))
    case measure => omega
    case rel => exact ⟨k + 1, by first | rfl | go_num | (congr 1; omega), by omega, Nat.le_refl _, hI9 (by rw [HV.out]; exact K3.out)⟩
   rw [ho] at hop
   have HOP := hI9 hop
   clear hop
   have HV := hI9 (show F.havK lt tt op t false (k + 1) = F.havK lt tt op t false k ++ [⟨k, ra, rb⟩] from (if_pos (by unfold FliD.havB; rw [HRV.out]; simp [ho, hla])).trans (by unfold FliD.hav1; rw [HRV.out]))
   have hlen := FliD.havK_len (F := F) (lt := lt) (tt := tt) (op := op) (t := t) (dry := false) k
   go_wp2_with (first | (have _t := tokE; refine wpl_row_g ?_ 37 (.tmp 8) rfl _ rfl _ 5 K0.out.f Tryz.rowFli rfl ?_; (focus rfl); simp only [Act.put]; clear tokE) | (go_at_call 85; refine (HLA.out _).mono ?_; rintro e w4 ⟨rfl, hb4⟩; have K2 := hI9 (K0.out.below hb4); clear hb4 K0) | (have _t := tokC; refine wpl_row rfl 29 (.tmp 5) rfl _ rfl _ 14 K2.out.x Tryz.rowMet rfl ?_; simp only [Act.put]; clear tokC) | (have _t := tokD; refine wpl_row rfl 31 (.tmp 6) rfl _ rfl _ 5 K2.out.i Tryz.rowMin rfl ?_; simp only [Act.put]; clear tokD) | (go_at_call 86; refine (HOP.out _ (HM.out.below K2.out.b)).mono ?_; rintro e w5 ⟨rfl, hb5⟩; have K3 := hI9 (K2.out.below hb5); clear hb5 K2) | (at_builtin; refine wpl_appH rfl _ _ rfl (w.heap.size + 1 + 1 + 1) u11 (F.havK lt tt op t false k).length _ rfl (ownsRow_below K3.out.o (bal (RowKit.Below.refl _ _) _)) w5.heap.size (k : Int) ra rb rfl ?aZ ?cZ ?dZ (by omega) ?bZ ?_))
   (try case aZ => exact (Blk.new _ _ _).cell 0)
   (try case cZ => exact (Blk.new _ _ _).cell 1)
   (try case dZ => exact (Blk.new _ _ _).cell 2)
   case bZ => have := K3.out.f.lt; simp; omega
   intro v' w6 ho6 hg6
   have nK := hI9 (RvK.app (x := ⟨k, ra, rb⟩) (K3.out.below (bal (RowKit.Below.refl _ _) _)) ho6.out hg6.out)
   go_wp2_with (fail)
   go_roundg (P - (k + 1))
   case measure => omega
   case rel => exact ⟨k + 1, by first | rfl | go_num | (congr 1; omega), by omega, Nat.le_refl _, hI9 (by rw [HV.out]; exact nK.out)⟩
  obtain rfl : P = k := by omega
  go_wp2_with (fail)
  go_ret
  exact ⟨_, rfl, K0.out.b, SlH.of_owns K0.out.o⟩
end Go.Proofs.YtlabfpjlckdmfaaGreat

namespace Go.Proofs.YtlabfpjlckdmfaaGreat
open Go Go.RowKit Go.Proofs
set_option maxRecDepth 100000
set_option maxHeartbeats 8000000
end Go.Proofs.YtlabfpjlckdmfaaGreat
