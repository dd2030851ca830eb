/- Texts joined: JAE. -/
import Derived.Test.YtlambeiafdpkgaaGreatJAD
import Derived.Test.YtlambeiafdpkgaaGreatSpB
import Derived.Shelf.RegionOpenPlain
set_option linter.all false
namespace Go.Proofs.YtlambeiafdpkgaaGreat
open Go Go.RowKit Go.Proofs
theorem Blk.newAt {g : Nat} (W : World) (t : TypeId) (cs : Array Value) (hg : g = W.heap.size) : Blk (W.alloc (.cells cs t)) g t cs := by rw [hg]; exact Blk.new W t cs
theorem frm1 (w : World) (c1 : Array Value) (T1 : TypeId) : Blk (w.alloc (.cells c1 T1)) (w.heap.size) T1 c1 ∧ Below w.heap.size w (w.alloc (.cells c1 T1)) ∧ w.heap.size < (w.alloc (.cells c1 T1)).heap.size :=
 ⟨(Blk.newAt (g := w.heap.size) _ T1 c1 rfl), (bal (Below.refl _ _) _), Blk.lt (t := T1) (cs := c1) (Blk.newAt (g := w.heap.size) _ T1 c1 rfl)⟩
theorem frm2 (w : World) (c1 : Array Value) (T1 : TypeId) (c2 : Array Value) (T2 : TypeId) : Blk ((w.alloc (.cells c1 T1)).alloc (.cells c2 T2)) (w.heap.size) T1 c1 ∧ Blk ((w.alloc (.cells c1 T1)).alloc (.cells c2 T2)) (w.heap.size + 1) T2 c2 ∧ Below w.heap.size w ((w.alloc (.cells c1 T1)).alloc (.cells c2 T2)) ∧ w.heap.size + 1 < ((w.alloc (.cells c1 T1)).alloc (.cells c2 T2)).heap.size :=
 ⟨((Blk.newAt (g := w.heap.size) _ T1 c1 rfl).alloc _), (Blk.newAt (g := w.heap.size + 1) _ T2 c2 (by simp)), (bal (bal (Below.refl _ _) _) _), Blk.lt (t := T2) (cs := c2) (Blk.newAt (g := w.heap.size + 1) _ T2 c2 (by simp))⟩
theorem frm3 (w : World) (c1 : Array Value) (T1 : TypeId) (c2 : Array Value) (T2 : TypeId) (c3 : Array Value) (T3 : TypeId) : Blk (((w.alloc (.cells c1 T1)).alloc (.cells c2 T2)).alloc (.cells c3 T3)) (w.heap.size) T1 c1 ∧ Blk (((w.alloc (.cells c1 T1)).alloc (.cells c2 T2)).alloc (.cells c3 T3)) (w.heap.size + 1) T2 c2 ∧ Blk (((w.alloc (.cells c1 T1)).alloc (.cells c2 T2)).alloc (.cells c3 T3)) (w.heap.size + 1 + 1) T3 c3 ∧ Below w.heap.size w (((w.alloc (.cells c1 T1)).alloc (.cells c2 T2)).alloc (.cells c3 T3)) ∧ w.heap.size + 1 + 1 < (((w.alloc (.cells c1 T1)).alloc (.cells c2 T2)).alloc (.cells c3 T3)).heap.size :=
 ⟨(((Blk.newAt (g := w.heap.size) _ T1 c1 rfl).alloc _).alloc _), ((Blk.newAt (g := w.heap.size + 1) _ T2 c2 (by simp)).alloc _), (Blk.newAt (g := w.heap.size + 1 + 1) _ T3 c3 (by simp)), (bal (bal (bal (Below.refl _ _) _) _) _), Blk.lt (t := T3) (cs := c3) (Blk.newAt (g := w.heap.size + 1 + 1) _ T3 c3 (by simp))⟩
theorem frm4 (w : World) (c1 : Array Value) (T1 : TypeId) (c2 : Array Value) (T2 : TypeId) (c3 : Array Value) (T3 : TypeId) (c4 : Array Value) (T4 : TypeId) : Blk ((((w.alloc (.cells c1 T1)).alloc (.cells c2 T2)).alloc (.cells c3 T3)).alloc (.cells c4 T4)) (w.heap.size) T1 c1 ∧ Blk ((((w.alloc (.cells c1 T1)).alloc (.cells c2 T2)).alloc (.cells c3 T3)).alloc (.cells c4 T4)) (w.heap.size + 1) T2 c2 ∧ Blk ((((w.alloc (.cells c1 T1)).alloc (.cells c2 T2)).alloc (.cells c3 T3)).alloc (.cells c4 T4)) (w.heap.size + 1 + 1) T3 c3 ∧ Blk ((((w.alloc (.cells c1 T1)).alloc (.cells c2 T2)).alloc (.cells c3 T3)).alloc (.cells c4 T4)) (w.heap.size + 1 + 1 + 1) T4 c4 ∧ Below w.heap.size w ((((w.alloc (.cells c1 T1)).alloc (.cells c2 T2)).alloc (.cells c3 T3)).alloc (.cells c4 T4)) ∧ w.heap.size + 1 + 1 + 1 < ((((w.alloc (.cells c1 T1)).alloc (.cells c2 T2)).alloc (.cells c3 T3)).alloc (.cells c4 T4)).heap.size :=
 ⟨((((Blk.newAt (g := w.heap.size) _ T1 c1 rfl).alloc _).alloc _).alloc _), (((Blk.newAt (g := w.heap.size + 1) _ T2 c2 (by simp)).alloc _).alloc _), ((Blk.newAt (g := w.heap.size + 1 + 1) _ T3 c3 (by simp)).alloc _), (Blk.newAt (g := w.heap.size + 1 + 1 + 1) _ T4 c4 (by simp)), (bal (bal (bal (bal (Below.refl _ _) _) _) _) _), Blk.lt (t := T4) (cs := c4) (Blk.newAt (g := w.heap.size + 1 + 1 + 1) _ T4 c4 (by simp))⟩
theorem frm5 (w : World) (c1 : Array Value) (T1 : TypeId) (c2 : Array Value) (T2 : TypeId) (c3 : Array Value) (T3 : TypeId) (c4 : Array Value) (T4 : TypeId) (c5 : Array Value) (T5 : TypeId) : Blk (((((w.alloc (.cells c1 T1)).alloc (.cells c2 T2)).alloc (.cells c3 T3)).alloc (.cells c4 T4)).alloc (.cells c5 T5)) (w.heap.size) T1 c1 ∧ Blk (((((w.alloc (.cells c1 T1)).alloc (.cells c2 T2)).alloc (.cells c3 T3)).alloc (.cells c4 T4)).alloc (.cells c5 T5)) (w.heap.size + 1) T2 c2 ∧ Blk (((((w.alloc (.cells c1 T1)).alloc (.cells c2 T2)).alloc (.cells c3 T3)).alloc (.cells c4 T4)).alloc (.cells c5 T5)) (w.heap.size + 1 + 1) T3 c3 ∧ Blk (((((w.alloc (.cells c1 T1)).alloc (.cells c2 T2)).alloc (.cells c3 T3)).alloc (.cells c4 T4)).alloc (.cells c5 T5)) (w.heap.size + 1 + 1 + 1) T4 c4 ∧ Blk (((((w.alloc (.cells c1 T1)).alloc (.cells c2 T2)).alloc (.cells c3 T3)).alloc (.cells c4 T4)).alloc (.cells c5 T5)) (w.heap.size + 1 + 1 + 1 + 1) T5 c5 ∧ Below w.heap.size w (((((w.alloc (.cells c1 T1)).alloc (.cells c2 T2)).alloc (.cells c3 T3)).alloc (.cells c4 T4)).alloc (.cells c5 T5)) ∧ w.heap.size + 1 + 1 + 1 + 1 < (((((w.alloc (.cells c1 T1)).alloc (.cells c2 T2)).alloc (.cells c3 T3)).alloc (.cells c4 T4)).alloc (.cells c5 T5)).heap.size :=
 ⟨(((((Blk.newAt (g := w.heap.size) _ T1 c1 rfl).alloc _).alloc _).alloc _).alloc _), ((((Blk.newAt (g := w.heap.size + 1) _ T2 c2 (by simp)).alloc _).alloc _).alloc _), (((Blk.newAt (g := w.heap.size + 1 + 1) _ T3 c3 (by simp)).alloc _).alloc _), ((Blk.newAt (g := w.heap.size + 1 + 1 + 1) _ T4 c4 (by simp)).alloc _), (Blk.newAt (g := w.heap.size + 1 + 1 + 1 + 1) _ T5 c5 (by simp)), (bal (bal (bal (bal (bal (Below.refl _ _) _) _) _) _) _), Blk.lt (t := T5) (cs := c5) (Blk.newAt (g := w.heap.size + 1 + 1 + 1 + 1) _ T5 c5 (by simp))⟩
theorem frm6 (w : World) (c1 : Array Value) (T1 : TypeId) (c2 : Array Value) (T2 : TypeId) (c3 : Array Value) (T3 : TypeId) (c4 : Array Value) (T4 : TypeId) (c5 : Array Value) (T5 : TypeId) (c6 : Array Value) (T6 : TypeId) : Blk ((((((w.alloc (.cells c1 T1)).alloc (.cells c2 T2)).alloc (.cells c3 T3)).alloc (.cells c4 T4)).alloc (.cells c5 T5)).alloc (.cells c6 T6)) (w.heap.size) T1 c1 ∧ Blk ((((((w.alloc (.cells c1 T1)).alloc (.cells c2 T2)).alloc (.cells c3 T3)).alloc (.cells c4 T4)).alloc (.cells c5 T5)).alloc (.cells c6 T6)) (w.heap.size + 1) T2 c2 ∧ Blk ((((((w.alloc (.cells c1 T1)).alloc (.cells c2 T2)).alloc (.cells c3 T3)).alloc (.cells c4 T4)).alloc (.cells c5 T5)).alloc (.cells c6 T6)) (w.heap.size + 1 + 1) T3 c3 ∧ Blk ((((((w.alloc (.cells c1 T1)).alloc (.cells c2 T2)).alloc (.cells c3 T3)).alloc (.cells c4 T4)).alloc (.cells c5 T5)).alloc (.cells c6 T6)) (w.heap.size + 1 + 1 + 1) T4 c4 ∧ Blk ((((((w.alloc (.cells c1 T1)).alloc (.cells c2 T2)).alloc (.cells c3 T3)).alloc (.cells c4 T4)).alloc (.cells c5 T5)).alloc (.cells c6 T6)) (w.heap.size + 1 + 1 + 1 + 1) T5 c5 ∧ Blk ((((((w.alloc (.cells c1 T1)).alloc (.cells c2 T2)).alloc (.cells c3 T3)).alloc (.cells c4 T4)).alloc (.cells c5 T5)).alloc (.cells c6 T6)) (w.heap.size + 1 + 1 + 1 + 1 + 1) T6 c6 ∧ Below w.heap.size w ((((((w.alloc (.cells c1 T1)).alloc (.cells c2 T2)).alloc (.cells c3 T3)).alloc (.cells c4 T4)).alloc (.cells c5 T5)).alloc (.cells c6 T6)) ∧ w.heap.size + 1 + 1 + 1 + 1 + 1 < ((((((w.alloc (.cells c1 T1)).alloc (.cells c2 T2)).alloc (.cells c3 T3)).alloc (.cells c4 T4)).alloc (.cells c5 T5)).alloc (.cells c6 T6)).heap.size :=
 ⟨((((((Blk.newAt (g := w.heap.size) _ T1 c1 rfl).alloc _).alloc _).alloc _).alloc _).alloc _), (((((Blk.newAt (g := w.heap.size + 1) _ T2 c2 (by simp)).alloc _).alloc _).alloc _).alloc _), ((((Blk.newAt (g := w.heap.size + 1 + 1) _ T3 c3 (by simp)).alloc _).alloc _).alloc _), (((Blk.newAt (g := w.heap.size + 1 + 1 + 1) _ T4 c4 (by simp)).alloc _).alloc _), ((Blk.newAt (g := w.heap.size + 1 + 1 + 1 + 1) _ T5 c5 (by simp)).alloc _), (Blk.newAt (g := w.heap.size + 1 + 1 + 1 + 1 + 1) _ T6 c6 (by simp)), (bal (bal (bal (bal (bal (bal (Below.refl _ _) _) _) _) _) _) _), Blk.lt (t := T6) (cs := c6) (Blk.newAt (g := w.heap.size + 1 + 1 + 1 + 1 + 1) _ T6 c6 (by simp))⟩
noncomputable def bndLo (T : Tbl) (xl xh yl yh : Int) : Int := match leastO (cornersL T (stopsL T.X xl xh) (stopsL T.Y yl yh)) with | some p => p.n / p.d | none => 0
noncomputable def bndHi (T : Tbl) (xl xh yl yh : Int) : Int := match mostO (cornersL T (stopsL T.X xl xh) (stopsL T.Y yl yh)) with | some p => cdiv p.n p.d | none => 0
theorem bndLo_eq {T : Tbl} {xl xh yl yh : Int} {p : Pt} (h : leastO (cornersL T (stopsL T.X xl xh) (stopsL T.Y yl yh)) = some p) : bndLo T xl xh yl yh = p.n / p.d := by unfold bndLo; rw [h]
theorem bndHi_eq {T : Tbl} {xl xh yl yh : Int} {p : Pt} (h : mostO (cornersL T (stopsL T.X xl xh) (stopsL T.Y yl yh)) = some p) : bndHi T xl xh yl yh = cdiv p.n p.d := by unfold bndHi; rw [h]
structure Fits (T : Tbl) (xl xh yl yh : Int) : Prop where
 t : tblB T = true
 vx : vspan xl xh = true
 vy : vspan yl yh = true
 lx : liesB T.X xl xh = true
 ly : liesB T.Y yl yh = true
theorem vspan_le {l h : Int} (v : vspan l h = true) : l ≤ h := by unfold vspan at v; simp only [Bool.and_eq_true, inB, decide_eq_true_eq] at v; omega
theorem Fits.cp {T : Tbl} {xl xh yl yh : Int} (h : Fits T xl xh yl yh) : cpE T xl xh yl yh = 0 := by simp [cpE, h.t, h.vx, h.vy, h.lx, h.ly]
set_option maxHeartbeats 1600000 in
theorem Bound_c (x y v : Value) (T : Tbl) (xl xh yl yh : Int) (w : World) (hT : TblAt w x y v T) (hF : Fits T xl xh yl yh) :
  Calls Tryz.prog 26 #[.agg #[x, y, v], .agg #[.int .i64 xl, .int .i64 xh], .agg #[.int .i64 yl, .int .i64 yh]] w fun e w' => e = .returned (.tuple #[.agg #[.int .i64 (bndLo T xl xh yl yh), .int .i64 (bndHi T xl xh yl yh)], .int .i64 0]) ∧ Below w.heap.size w w' := by
 have e1 := hF.cp
 have HF := hI9 hF
 clear hF
 go_enter Tryz.func26, Tryz.ntmps26
 go_wp2_with (first | (go_at_call 53; (with_reducible refine (checkPoints_c x y v T xl xh yl yh _ (hT.below (by repeat' (first | exact Below.refl _ _ | assumption | refine Below.drew ?_ | refine bdn ?_ _ | refine bal ?_ _ | refine Below.setCell ?_ (by first | (simp; done) | omega | (simp; omega)) _)))).mono ?_); rintro e u1 ⟨rfl, hu1⟩; have uB := bthen (show Below w.heap.size w _ from (by repeat' (first | exact Below.refl _ _ | assumption | refine Below.drew ?_ | refine bdn ?_ _ | refine bal ?_ _ | refine Below.setCell ?_ (by first | (simp; done) | omega | (simp; omega)) _))) hu1; have hz0 := hu1.size; (try simp at hz0); have rB := hI9 (Blk.below (Blk.new _ 28 #[.int .i64 0, .int .i64 0]) hu1); obtain ⟨hc1, hf1⟩ := bcell hu1; clear hu1) | (go_at_call 54; (with_reducible refine (extremes_c x y v T xl xh yl yh _ (hT.below uB) HF.out.t (vspan_le HF.out.vx) (vspan_le HF.out.vy) HF.out.lx HF.out.ly).mono ?_); rintro e w1 ⟨p, q, rfl, hp, hq, hb1⟩; have hB1 := bthen uB hb1; have hz1 := hb1.size; have rC := hI9 (rB.out.below hb1); clear rB))
 have R := (rC.out.alloc (.cells #[.int .i64 p.x, .int .i64 p.y, .int .i64 p.n, .int .i64 p.d] 137)).alloc (.cells #[.int .i64 q.x, .int .i64 q.y, .int .i64 q.n, .int .i64 q.d] 137)
 have P1 := (Blk.new w1 137 #[.int .i64 p.x, .int .i64 p.y, .int .i64 p.n, .int .i64 p.d]).alloc (.cells #[.int .i64 q.x, .int .i64 q.y, .int .i64 q.n, .int .i64 q.d] 137)
 have P2 := Blk.new (w1.alloc (.cells #[.int .i64 p.x, .int .i64 p.y, .int .i64 p.n, .int .i64 p.d] 137)) 137 #[.int .i64 q.x, .int .i64 q.y, .int .i64 q.n, .int .i64 q.d]
 simp only [World.size_alloc] at R P2
 have BZ := bal (bal hB1 (.cells #[.int .i64 p.x, .int .i64 p.y, .int .i64 p.n, .int .i64 p.d] 137)) (.cells #[.int .i64 q.x, .int .i64 q.y, .int .i64 q.n, .int .i64 q.d] 137)
 have hn := bndLo_eq hp
 have hm := bndHi_eq hq
 have pn := p.hn
 have pd := p.hd
 have qn := q.hn
 have qd := q.hd
 generalize bndLo T xl xh yl yh = lo at *
 generalize bndHi T xl xh yl yh = hi at *
 subst hn
 subst hm
 generalize (w1.alloc (.cells #[.int .i64 p.x, .int .i64 p.y, .int .i64 p.n, .int .i64 p.d] 137)).alloc (.cells #[.int .i64 q.x, .int .i64 q.y, .int .i64 q.n, .int .i64 q.d] 137) = Z at *
 have f1 : ∀ r : After Z, r.w.cell? ⟨w1.heap.size, 2, none⟩ = some (.int .i64 p.n) := fun r => (P1.below r.below).cell 2
 have f2 : ∀ r : After Z, r.w.cell? ⟨w1.heap.size, 3, none⟩ = some (.int .i64 p.d) := fun r => (P1.below r.below).cell 3
 have f3 : ∀ r : After Z, r.w.cell? ⟨w1.heap.size + 1, 2, none⟩ = some (.int .i64 q.n) := fun r => (P2.below r.below).cell 2
 have f4 : ∀ r : After Z, r.w.cell? ⟨w1.heap.size + 1, 3, none⟩ = some (.int .i64 q.d) := fun r => (P2.below r.below).cell 3
 refine wp_region_aftert 11 (by kernel_rfl) (by kernel_rfl) ?_
 simp only [List.take_succ_cons, List.take_zero, List.drop_succ_cons, List.drop_zero]
 repeat (go_big_quiet_step (first | (go_at_call 55; (with_reducible refine qafter_same (floor_c p.n p.d _ (by omega) (by omega) pd.1 (by omega)))) | (go_at_call 56; (with_reducible refine qafter (up_c q.n q.d _ (by omega) (by omega) qd.1 (by omega))))))
 refine wpQuiet_nil ?_
 rintro _ ⟨r, rfl⟩
 have R' := R.below r.below
 have g0 : r.w.cell? ⟨w.heap.size + 1 + 1 + 1, 0, none⟩ = some (.int .i64 0) := R'.cell 0
 have g1 : r.w.cell? ⟨w.heap.size + 1 + 1 + 1, 1, none⟩ = some (.int .i64 0) := R'.cell 1
 have g2 := fun i => R'.frozen i
 clear f1 f2 f3 f4
 have BR := bthen BZ r.below
 go_wp2
 exact bodyPost_ret (v := .tuple #[.agg #[.int .i64 (p.n / p.d), .int .i64 (cdiv q.n q.d)], .int .i64 0]) (by simp (maxDischargeDepth := 9) [results, Tryz.results26, go_sem, g0, g1]) rfl ⟨by rw [bndLo_eq hp, bndHi_eq hq], bset (bset BR (by omega) _) (by omega) _⟩
end Go.Proofs.YtlambeiafdpkgaaGreat

namespace Go.Proofs.YtlambeiafdpkgaaGreat
open Go Go.RowKit Go.Proofs
set_option maxRecDepth 100000
set_option maxHeartbeats 4000000
theorem Tryz.rowSpan : RowTy Tryz.prog 28 2 := ⟨by kernel_rfl, by kernel_rfl⟩
theorem Tryz.rowSky : RowTy Tryz.prog 30 8 := ⟨by kernel_rfl, by kernel_rfl⟩
theorem Tryz.rowSet : RowTy Tryz.prog 153 8 := ⟨by kernel_rfl, by kernel_rfl⟩
theorem Tryz.rowMet : RowTy Tryz.prog 34 14 := ⟨by kernel_rfl, by kernel_rfl⟩
theorem Tryz.rowWe : RowTy Tryz.prog 157 5 := ⟨by kernel_rfl, by kernel_rfl⟩
theorem Tryz.rowMin : RowTy Tryz.prog 41 5 := ⟨by kernel_rfl, by kernel_rfl⟩
theorem wwithin_c (n lo hi : Int) (w : World) :
  Calls Tryz.prog 67 #[.int .i64 n, .int .i64 lo, .int .i64 hi] w fun e w' => e = .returned (.bool (inB n lo hi)) ∧ w = w' := by
 by_cases h : lo ≤ n
 ·go_enter Tryz.func67, Tryz.ntmps67
  go_wp2
  go_ret
  exact ⟨ret_bool (by simp [inB, h]), rfl⟩
 ·have h2 : n < lo := by omega
  go_enter Tryz.func67, Tryz.ntmps67
  go_wp2
  go_ret
  exact ⟨ret_bool (by simp [inB]; omega), rfl⟩
theorem Blk.newA {g : Nat} (W : World) (t : TypeId) (cs : Array Value) (hg : g = W.heap.size) : Blk (W.alloc (.cells cs t)) g t cs := by rw [hg]; exact Blk.new W t cs
theorem vspan_iff' {l h : Int} : vspan l h = true ↔ -1000000 ≤ l ∧ l ≤ h ∧ h ≤ 1000000 := by
 unfold vspan inB; simp only [Bool.and_eq_true, decide_eq_true_eq]; omega
theorem ret2 {a b c d : Int} (h1 : a = c) (h2 : b = d) : Ending.returned (.agg #[.int .i64 a, .int .i64 b]) = .returned (.agg #[.int .i64 c, .int .i64 d]) := by rw [h1, h2]
def meE (al ah bl bh : Int) : Int := if max al bl ≤ min ah bh then 0 else 3
def meL (al ah bl bh : Int) : Int := if max al bl ≤ min ah bh then max al bl else 0
def meH (al ah bl bh : Int) : Int := if max al bl ≤ min ah bh then min ah bh else 0
theorem Meet_c (al ah bl bh : Int) (w : World) (ha : vspan al ah = true) (hb : vspan bl bh = true) :
  Calls Tryz.prog 178 #[.agg #[.int .i64 al, .int .i64 ah], .agg #[.int .i64 bl, .int .i64 bh]] w fun e w' => e = .returned (.tuple #[.agg #[.int .i64 (meL al ah bl bh), .int .i64 (meH al ah bl bh)], .int .i64 (meE al ah bl bh)]) ∧ Below w.heap.size w w' := by
 have e4 := spanE_f
 have mixed : Tryz.prog.follows Departure.mixedOrders = true := by kernel_rfl
 obtain ⟨v0, v1, v2⟩ := vspan_iff'.1 ha
 obtain ⟨v3, v4, v5⟩ := vspan_iff'.1 hb
 have C1 := hI9 (fun b c w h0 h1 h2 h3 => (show Calls Tryz.prog 103 #[.slice (some ⟨b, 0, none⟩) 2 c] w fun e w' => e = .returned (.int .i64 0) ∧ Below w.heap.size w w' by
  have := spanned2_c b c al ah bl bh w h0 h1 h2 h3
  rwa [ha, hb, show spanE (!true || !true) = 0 from rfl] at this))
 clear ha hb
 obtain ⟨x, hx⟩ : ∃ q, q = max al bl := ⟨_, rfl⟩
 obtain ⟨y, hy⟩ : ∃ q, q = min ah bh := ⟨_, rfl⟩
 have HX := hI9 hx
 have HY := hI9 hy
 unfold meL meH meE
 rw [← hx, ← hy]
 clear hx hy
 have hx := HX.out
 have hy := HY.out
 clear HX HY
 by_cases h1 : al < bl
 ·by_cases h2 : bh < ah
  ·have ex : x = bl := by omega
   have ey : y = bh := by omega
   clear hx hy
   subst x
   subst y
   have h : bl ≤ bh := by omega
   ·skip
    rw [if_pos h, if_pos h, if_pos h]
    have hn : ¬ bh < bl := by omega
    go_enter Tryz.func178, Tryz.ntmps178
    go_wp2_with (first | (go_at_call 103; (with_reducible refine (C1.out _ _ _ (by first | (simp; done) | (rw [cell_new_at _ _ _ _ _ (by simp)]; first | rfl | (simp; done))) (by first | (simp; done) | (rw [cell_new_at _ _ _ _ _ (by simp)]; first | rfl | (simp; done))) (by first | (simp; done) | (rw [cell_new_at _ _ _ _ _ (by simp)]; first | rfl | (simp; done))) (by first | (simp; done) | (rw [cell_new_at _ _ _ _ _ (by simp)]; first | rfl | (simp; done)))).mono ?_); rintro e w1 ⟨rfl, hb1⟩; have hB1 := hI9 (bthen (show Below w.heap.size w _ from (by repeat' (first | exact Below.refl _ _ | assumption | refine Below.drew ?_ | refine bdn ?_ _ | refine bal ?_ _ | refine Below.setCell ?_ (by first | (simp; done) | omega | (simp; omega)) _))) hb1); have rA := hI9 (Blk.below ((((Blk.newA (g := w.heap.size) _ 28 #[.int .i64 al, .int .i64 ah] (by simp)).alloc _).alloc _).alloc _) hb1); have rB := hI9 (Blk.below (((Blk.newA (g := w.heap.size + 1) _ 28 #[.int .i64 bl, .int .i64 bh] (by simp)).alloc _).alloc _) hb1); have rC := hI9 (Blk.below ((Blk.newA (g := w.heap.size + 1 + 1) _ 28 #[.int .i64 0, .int .i64 0] (by simp)).alloc _) hb1); have z1 := hB1.out.size; have a0 := rA.out.cell 0; have a1 := rA.out.cell 1; have b0 := rB.out.cell 0; have b1 := rB.out.cell 1; have g0 := rC.out.cell 0; have g1 := rC.out.cell 1; have g2 := fun i => rC.out.frozen i; clear hb1))
    go_big_region_o
    go_wp2
    exact bodyPost_ret (res_ct rfl _ _ _ 2 rfl ((rC.out.set_ 0 _).set_ 1 _) Tryz.rowSpan rfl) rfl ⟨rfl, bset (bset (Below.drew hB1.out) (by omega) _) (by omega) _⟩
  ·have h2' : ah ≤ bh := by omega
   have ex : x = bl := by omega
   have ey : y = ah := by omega
   clear hx hy
   subst x
   subst y
   by_cases h : bl ≤ ah
   ·skip
    rw [if_pos h, if_pos h, if_pos h]
    have hn : ¬ ah < bl := by omega
    go_enter Tryz.func178, Tryz.ntmps178
    go_wp2_with (first | (go_at_call 103; (with_reducible refine (C1.out _ _ _ (by first | (simp; done) | (rw [cell_new_at _ _ _ _ _ (by simp)]; first | rfl | (simp; done))) (by first | (simp; done) | (rw [cell_new_at _ _ _ _ _ (by simp)]; first | rfl | (simp; done))) (by first | (simp; done) | (rw [cell_new_at _ _ _ _ _ (by simp)]; first | rfl | (simp; done))) (by first | (simp; done) | (rw [cell_new_at _ _ _ _ _ (by simp)]; first | rfl | (simp; done)))).mono ?_); rintro e w1 ⟨rfl, hb1⟩; have hB1 := hI9 (bthen (show Below w.heap.size w _ from (by repeat' (first | exact Below.refl _ _ | assumption | refine Below.drew ?_ | refine bdn ?_ _ | refine bal ?_ _ | refine Below.setCell ?_ (by first | (simp; done) | omega | (simp; omega)) _))) hb1); have rA := hI9 (Blk.below ((((Blk.newA (g := w.heap.size) _ 28 #[.int .i64 al, .int .i64 ah] (by simp)).alloc _).alloc _).alloc _) hb1); have rB := hI9 (Blk.below (((Blk.newA (g := w.heap.size + 1) _ 28 #[.int .i64 bl, .int .i64 bh] (by simp)).alloc _).alloc _) hb1); have rC := hI9 (Blk.below ((Blk.newA (g := w.heap.size + 1 + 1) _ 28 #[.int .i64 0, .int .i64 0] (by simp)).alloc _) hb1); have z1 := hB1.out.size; have a0 := rA.out.cell 0; have a1 := rA.out.cell 1; have b0 := rB.out.cell 0; have b1 := rB.out.cell 1; have g0 := rC.out.cell 0; have g1 := rC.out.cell 1; have g2 := fun i => rC.out.frozen i; clear hb1))
    go_big_region_o
    go_wp2
    exact bodyPost_ret (res_ct rfl _ _ _ 2 rfl ((rC.out.set_ 0 _).set_ 1 _) Tryz.rowSpan rfl) rfl ⟨rfl, bset (bset (Below.drew hB1.out) (by omega) _) (by omega) _⟩
   ·skip
    rw [if_neg h, if_neg h, if_neg h]
    have hn : ah < bl := by omega
    go_enter Tryz.func178, Tryz.ntmps178
    go_wp2_with (first | (go_at_call 103; (with_reducible refine (C1.out _ _ _ (by first | (simp; done) | (rw [cell_new_at _ _ _ _ _ (by simp)]; first | rfl | (simp; done))) (by first | (simp; done) | (rw [cell_new_at _ _ _ _ _ (by simp)]; first | rfl | (simp; done))) (by first | (simp; done) | (rw [cell_new_at _ _ _ _ _ (by simp)]; first | rfl | (simp; done))) (by first | (simp; done) | (rw [cell_new_at _ _ _ _ _ (by simp)]; first | rfl | (simp; done)))).mono ?_); rintro e w1 ⟨rfl, hb1⟩; have hB1 := hI9 (bthen (show Below w.heap.size w _ from (by repeat' (first | exact Below.refl _ _ | assumption | refine Below.drew ?_ | refine bdn ?_ _ | refine bal ?_ _ | refine Below.setCell ?_ (by first | (simp; done) | omega | (simp; omega)) _))) hb1); have rA := hI9 (Blk.below ((((Blk.newA (g := w.heap.size) _ 28 #[.int .i64 al, .int .i64 ah] (by simp)).alloc _).alloc _).alloc _) hb1); have rB := hI9 (Blk.below (((Blk.newA (g := w.heap.size + 1) _ 28 #[.int .i64 bl, .int .i64 bh] (by simp)).alloc _).alloc _) hb1); have rC := hI9 (Blk.below ((Blk.newA (g := w.heap.size + 1 + 1) _ 28 #[.int .i64 0, .int .i64 0] (by simp)).alloc _) hb1); have z1 := hB1.out.size; have a0 := rA.out.cell 0; have a1 := rA.out.cell 1; have b0 := rB.out.cell 0; have b1 := rB.out.cell 1; have g0 := rC.out.cell 0; have g1 := rC.out.cell 1; have g2 := fun i => rC.out.frozen i; clear hb1))
    go_big_region_o
    go_wp2
    exact bodyPost_ret (res_ct rfl _ _ _ 2 rfl ((rC.out.set_ 0 _).set_ 1 _) Tryz.rowSpan rfl) rfl ⟨rfl, bset (bset (Below.drew hB1.out) (by omega) _) (by omega) _⟩
 ·have h1' : bl ≤ al := by omega
  by_cases h2 : bh < ah
  ·have ex : x = al := by omega
   have ey : y = bh := by omega
   clear hx hy
   subst x
   subst y
   by_cases h : al ≤ bh
   ·skip
    rw [if_pos h, if_pos h, if_pos h]
    have hn : ¬ bh < al := by omega
    go_enter Tryz.func178, Tryz.ntmps178
    go_wp2_with (first | (go_at_call 103; (with_reducible refine (C1.out _ _ _ (by first | (simp; done) | (rw [cell_new_at _ _ _ _ _ (by simp)]; first | rfl | (simp; done))) (by first | (simp; done) | (rw [cell_new_at _ _ _ _ _ (by simp)]; first | rfl | (simp; done))) (by first | (simp; done) | (rw [cell_new_at _ _ _ _ _ (by simp)]; first | rfl | (simp; done))) (by first | (simp; done) | (rw [cell_new_at _ _ _ _ _ (by simp)]; first | rfl | (simp; done)))).mono ?_); rintro e w1 ⟨rfl, hb1⟩; have hB1 := hI9 (bthen (show Below w.heap.size w _ from (by repeat' (first | exact Below.refl _ _ | assumption | refine Below.drew ?_ | refine bdn ?_ _ | refine bal ?_ _ | refine Below.setCell ?_ (by first | (simp; done) | omega | (simp; omega)) _))) hb1); have rA := hI9 (Blk.below ((((Blk.newA (g := w.heap.size) _ 28 #[.int .i64 al, .int .i64 ah] (by simp)).alloc _).alloc _).alloc _) hb1); have rB := hI9 (Blk.below (((Blk.newA (g := w.heap.size + 1) _ 28 #[.int .i64 bl, .int .i64 bh] (by simp)).alloc _).alloc _) hb1); have rC := hI9 (Blk.below ((Blk.newA (g := w.heap.size + 1 + 1) _ 28 #[.int .i64 0, .int .i64 0] (by simp)).alloc _) hb1); have z1 := hB1.out.size; have a0 := rA.out.cell 0; have a1 := rA.out.cell 1; have b0 := rB.out.cell 0; have b1 := rB.out.cell 1; have g0 := rC.out.cell 0; have g1 := rC.out.cell 1; have g2 := fun i => rC.out.frozen i; clear hb1))
    go_big_region_o
    go_wp2
    exact bodyPost_ret (res_ct rfl _ _ _ 2 rfl ((rC.out.set_ 0 _).set_ 1 _) Tryz.rowSpan rfl) rfl ⟨rfl, bset (bset (Below.drew hB1.out) (by omega) _) (by omega) _⟩
   ·skip
    rw [if_neg h, if_neg h, if_neg h]
    have hn : bh < al := by omega
    go_enter Tryz.func178, Tryz.ntmps178
    go_wp2_with (first | (go_at_call 103; (with_reducible refine (C1.out _ _ _ (by first | (simp; done) | (rw [cell_new_at _ _ _ _ _ (by simp)]; first | rfl | (simp; done))) (by first | (simp; done) | (rw [cell_new_at _ _ _ _ _ (by simp)]; first | rfl | (simp; done))) (by first | (simp; done) | (rw [cell_new_at _ _ _ _ _ (by simp)]; first | rfl | (simp; done))) (by first | (simp; done) | (rw [cell_new_at _ _ _ _ _ (by simp)]; first | rfl | (simp; done)))).mono ?_); rintro e w1 ⟨rfl, hb1⟩; have hB1 := hI9 (bthen (show Below w.heap.size w _ from (by repeat' (first | exact Below.refl _ _ | assumption | refine Below.drew ?_ | refine bdn ?_ _ | refine bal ?_ _ | refine Below.setCell ?_ (by first | (simp; done) | omega | (simp; omega)) _))) hb1); have rA := hI9 (Blk.below ((((Blk.newA (g := w.heap.size) _ 28 #[.int .i64 al, .int .i64 ah] (by simp)).alloc _).alloc _).alloc _) hb1); have rB := hI9 (Blk.below (((Blk.newA (g := w.heap.size + 1) _ 28 #[.int .i64 bl, .int .i64 bh] (by simp)).alloc _).alloc _) hb1); have rC := hI9 (Blk.below ((Blk.newA (g := w.heap.size + 1 + 1) _ 28 #[.int .i64 0, .int .i64 0] (by simp)).alloc _) hb1); have z1 := hB1.out.size; have a0 := rA.out.cell 0; have a1 := rA.out.cell 1; have b0 := rB.out.cell 0; have b1 := rB.out.cell 1; have g0 := rC.out.cell 0; have g1 := rC.out.cell 1; have g2 := fun i => rC.out.frozen i; clear hb1))
    go_big_region_o
    go_wp2
    exact bodyPost_ret (res_ct rfl _ _ _ 2 rfl ((rC.out.set_ 0 _).set_ 1 _) Tryz.rowSpan rfl) rfl ⟨rfl, bset (bset (Below.drew hB1.out) (by omega) _) (by omega) _⟩
  ·have h2' : ah ≤ bh := by omega
   have ex : x = al := by omega
   have ey : y = ah := by omega
   clear hx hy
   subst x
   subst y
   have h : al ≤ ah := by omega
   ·skip
    rw [if_pos h, if_pos h, if_pos h]
    have hn : ¬ ah < al := by omega
    go_enter Tryz.func178, Tryz.ntmps178
    go_wp2_with (first | (go_at_call 103; (with_reducible refine (C1.out _ _ _ (by first | (simp; done) | (rw [cell_new_at _ _ _ _ _ (by simp)]; first | rfl | (simp; done))) (by first | (simp; done) | (rw [cell_new_at _ _ _ _ _ (by simp)]; first | rfl | (simp; done))) (by first | (simp; done) | (rw [cell_new_at _ _ _ _ _ (by simp)]; first | rfl | (simp; done))) (by first | (simp; done) | (rw [cell_new_at _ _ _ _ _ (by simp)]; first | rfl | (simp; done)))).mono ?_); rintro e w1 ⟨rfl, hb1⟩; have hB1 := hI9 (bthen (show Below w.heap.size w _ from (by repeat' (first | exact Below.refl _ _ | assumption | refine Below.drew ?_ | refine bdn ?_ _ | refine bal ?_ _ | refine Below.setCell ?_ (by first | (simp; done) | omega | (simp; omega)) _))) hb1); have rA := hI9 (Blk.below ((((Blk.newA (g := w.heap.size) _ 28 #[.int .i64 al, .int .i64 ah] (by simp)).alloc _).alloc _).alloc _) hb1); have rB := hI9 (Blk.below (((Blk.newA (g := w.heap.size + 1) _ 28 #[.int .i64 bl, .int .i64 bh] (by simp)).alloc _).alloc _) hb1); have rC := hI9 (Blk.below ((Blk.newA (g := w.heap.size + 1 + 1) _ 28 #[.int .i64 0, .int .i64 0] (by simp)).alloc _) hb1); have z1 := hB1.out.size; have a0 := rA.out.cell 0; have a1 := rA.out.cell 1; have b0 := rB.out.cell 0; have b1 := rB.out.cell 1; have g0 := rC.out.cell 0; have g1 := rC.out.cell 1; have g2 := fun i => rC.out.frozen i; clear hb1))
    go_big_region_o
    go_wp2
    exact bodyPost_ret (res_ct rfl _ _ _ 2 rfl ((rC.out.set_ 0 _).set_ 1 _) Tryz.rowSpan rfl) rfl ⟨rfl, bset (bset (Below.drew hB1.out) (by omega) _) (by omega) _⟩
theorem only1_c (n : Int) (w : World) : Calls Tryz.prog 169 #[.int .i64 n] w fun e w' => e = .returned (.agg #[.int .i64 n, .int .i64 n]) ∧ Below w.heap.size w w' := by
 go_enter Tryz.func169, Tryz.ntmps169
 go_wp2
 exact bodyPost_ret (res_c rfl _ _ _ 2 rfl (Blk.new _ _ _) Tryz.rowSpan rfl) rfl ⟨rfl, bal (Below.refl _ _) _⟩
def neL (n d m : Int) : Int := min (max (n - d) 0) m
def neH (n d m : Int) : Int := max (min (n + d) m) 0
theorem near_c (n d m : Int) (w : World) (h0 : -1000000000 ≤ n) (h1 : n ≤ 1000000000) (h2 : -1000000000 ≤ d) (h3 : d ≤ 1000000000) (h4 : -1000000000 ≤ m) (h5 : m ≤ 1000000000) :
  Calls Tryz.prog 116 #[.int .i64 n, .int .i64 d, .int .i64 m] w fun e w' => e = .returned (.agg #[.int .i64 (neL n d m), .int .i64 (neH n d m)]) ∧ Below w.heap.size w w' := by
 go_enter Tryz.func116, Tryz.ntmps116
 go_wp2
 all_goals exact bodyPost_ret (res_c rfl _ _ _ 2 rfl (Blk.new _ _ _) Tryz.rowSpan rfl) rfl ⟨ret2 (by unfold neL; omega) (by unfold neH; omega), bal (Below.refl _ _) _⟩
def insB (lo hi m : Int) : Bool := vspan lo hi && (inB lo 0 m && decide (hi ≤ m))
theorem inside_c (lo hi m : Int) (w : World) :
  Calls Tryz.prog 168 #[.agg #[.int .i64 lo, .int .i64 hi], .int .i64 m] w fun e w' => e = .returned (.bool (insB lo hi m)) ∧ Below w.heap.size w w' := by
 have e3 := spanE_t
 have e4 := spanE_f
 unfold insB
 have hk : ∀ b c w, w.cell? ⟨b, 0, none⟩ = some (.int .i64 lo) → w.cell? ⟨b, 1, none⟩ = some (.int .i64 hi) → Calls Tryz.prog 163 #[.slice (some ⟨b, 0, none⟩) 1 c] w fun e w' => e = .returned (.int .i64 (spanE (!vspan lo hi))) ∧ Below w.heap.size w w' := by
  intro b c w h0 h1
  have h := spCheck_c (some ⟨b, 0, none⟩) 1 c (fun _ => lo) (fun _ => hi) w (by omega)
   (fun _ => ⟨b, 0, rfl, blk_lt h0, fun k hk => by
    obtain rfl : k = 0 := by omega
    exact ⟨(by simpa using h0), (by simpa using h1)⟩⟩)
  rw [anyBad1] at h
  exact h
 have HK := hI9 hk
 clear hk
 cases h1 : vspan lo hi
 ·go_enter Tryz.func168, Tryz.ntmps168
  go_wp2_with (first | (go_at_call 163; (with_reducible refine (HK.out _ _ _ (by simp) (by simp)).mono ?_); rintro e w1 ⟨rfl, hb1⟩; have hB1 := bthen (show Below w.heap.size w _ from (by repeat' (first | exact Below.refl _ _ | assumption | refine Below.drew ?_ | refine bdn ?_ _ | refine bal ?_ _ | refine Below.setCell ?_ (by first | (simp; done) | omega | (simp; omega)) _))) hb1; have hz1 := hb1.size; (try simp at hz1); obtain ⟨hc1, hf1⟩ := bcell hb1; first | (have hE1 := bthen2 hE (by repeat' (first | exact Below.refl _ _ | refine Below.drew ?_ | refine bdn ?_ _ | refine bal ?_ _ | refine Below.setCell ?_ (by first | (simp; done) | omega | (simp; omega)) _)) hb1; clear hE; have hE := hE1; clear hE1; obtain ⟨hd1, hg1⟩ := bcell hE) | (have hE := hb1)) | (go_at_call 67; (with_reducible refine (wwithin_c _ _ _ _).mono ?_); rintro e w1 ⟨rfl, rfl⟩))
  go_ret
  exact ⟨rfl, (by repeat' (first | exact Below.refl _ _ | assumption | refine Below.drew ?_ | refine bdn ?_ _ | refine bal ?_ _ | refine Below.setCell ?_ (by first | (simp; done) | omega | (simp; omega)) _))⟩
 ·go_enter Tryz.func168, Tryz.ntmps168
  go_wp2_with (first | (go_at_call 163; (with_reducible refine (HK.out _ _ _ (by simp) (by simp)).mono ?_); rintro e w1 ⟨rfl, hb1⟩; have hB1 := bthen (show Below w.heap.size w _ from (by repeat' (first | exact Below.refl _ _ | assumption | refine Below.drew ?_ | refine bdn ?_ _ | refine bal ?_ _ | refine Below.setCell ?_ (by first | (simp; done) | omega | (simp; omega)) _))) hb1; have hz1 := hb1.size; (try simp at hz1); obtain ⟨hc1, hf1⟩ := bcell hb1; first | (have hE1 := bthen2 hE (by repeat' (first | exact Below.refl _ _ | refine Below.drew ?_ | refine bdn ?_ _ | refine bal ?_ _ | refine Below.setCell ?_ (by first | (simp; done) | omega | (simp; omega)) _)) hb1; clear hE; have hE := hE1; clear hE1; obtain ⟨hd1, hg1⟩ := bcell hE) | (have hE := hb1)) | (go_at_call 67; (with_reducible refine (wwithin_c _ _ _ _).mono ?_); rintro e w1 ⟨rfl, rfl⟩))
  all_goals go_ret
  all_goals exact ⟨ret_bool (by simp_all), (by repeat' (first | exact Below.refl _ _ | assumption | refine Below.drew ?_ | refine bdn ?_ _ | refine bal ?_ _ | refine Below.setCell ?_ (by first | (simp; done) | omega | (simp; omega)) _))⟩
end Go.Proofs.YtlambeiafdpkgaaGreat

namespace Go.Proofs.YtlambeiafdpkgaaGreat
open Go Go.RowKit Go.Proofs
set_option maxRecDepth 100000
set_option maxHeartbeats 4000000
def IsSl (v : Value) : Prop := ∃ a n c, v = .slice a n c
end Go.Proofs.YtlambeiafdpkgaaGreat

namespace Go.Proofs.YtlambeiafdpkgaaGreat
open Go Go.RowKit Go.Proofs
set_option maxRecDepth 100000
set_option maxHeartbeats 4000000
def lkE (T : Tbl) (xl xh yl yh : Int) : Bool := liesB T.X xl xh && liesB T.Y yl yh
end Go.Proofs.YtlambeiafdpkgaaGreat

namespace Go.Proofs.YtlambeiafdpkgaaGreat
open Go Go.RowKit
theorem Fits.on {T : Tbl} {xl xh yl yh x y : Int} (h : Fits T xl xh yl yh) (hx : xl ≤ x ∧ x ≤ xh) (hy : yl ≤ y ∧ y ≤ yh) : OnT T x y := by
 have h1 := h.lx
 have h2 := h.ly
 unfold liesB at h1 h2
 simp only [Bool.and_eq_true, decide_eq_true_eq] at h1 h2
 exact ⟨by omega, by omega, by omega, by omega⟩
end Go.Proofs.YtlambeiafdpkgaaGreat
