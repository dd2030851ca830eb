/- Texts joined: JAP. -/
import Derived.Test.YtlambeiafdpkgaaGreatJAO
import Derived.Test.YtlambeiafdpkgaaGreatJAE
import Derived.Great.CaseRows
import Derived.Deep.WholeRow
set_option linter.all false
namespace Go.Proofs.YtlambeiafdpkgaaGreat
open Go Go.RowKit Go.Proofs
set_option maxRecDepth 100000
set_option maxHeartbeats 8000000
theorem RecsAt.frm {w w' : World} {A : Option Addr} {n k : Nat} {V : Nat → Nat → Value} (h : RecsAt w A n k V) (hs : w.heap.size ≤ w'.heap.size) (hf : ∀ b off, A = some ⟨b, off, none⟩ → w'.heap[b]? = w.heap[b]?) : RecsAt w' A n k V := by
 intro hn
 obtain ⟨b, off, rfl, hb, hc⟩ := h hn
 exact ⟨b, off, rfl, by omega, fun i hi j hj => by rw [← hc i hi j hj]; simp only [World.cell?, hf b off rfl]⟩
def FliD.okB (F : FliD) (P : Nat) (lt : Tab) : Bool :=
 F.nums && ((List.range F.m).all (fun j => decide (0 ≤ F.R j ∧ F.R j < P)) && ((List.range (F.m - 1)).all (fun j => decide (0 ≤ lt (F.R j).toNat (F.R (j + 1)).toNat)) && decide (F.at_ lt (F.m - 1) ≤ 2000)))
theorem FliD.okB_iff {F : FliD} {P : Nat} {lt : Tab} : F.okB P lt = true ↔ F.ok P lt := by
 unfold FliD.okB FliD.ok FliD.flown
 simp only [Bool.and_eq_true, List.all_eq_true, List.mem_range, decide_eq_true_eq]
 constructor
 ·rintro ⟨h1, h2, h3, h4⟩
  exact ⟨h1, ⟨h2, fun j hj => h3 j (by omega)⟩, h4⟩
 ·rintro ⟨h1, ⟨h2, h3⟩, h4⟩
  exact ⟨h1, h2, fun j hj => h3 j (by omega), h4⟩
theorem netE_ok {M : MetD} {S : Tab} {n : Nat} (h : netE M S n = 0) : M.bad = false ∧ legsBad M S n = false := by
 unfold netE at h
 cases hb : M.bad
 ·have he : M.err = 0 := by unfold MetD.err; rw [hb]; rfl
  rw [he, if_pos rfl] at h
  cases hl : legsBad M S n
  ·exact ⟨rfl, rfl⟩
  ·rw [hl] at h; cases h
 ·have he : M.err = 40 := by unfold MetD.err; rw [hb]; rfl
  rw [he, if_neg (by decide)] at h
  exact absurd h (by decide)
theorem netME_ok {M : MetD} {lw ls lc : Int} {S : Tab} {n : Nat} (h : netME M lw ls lc S n = 0) : M.bad = false ∧ legsBad M S n = false ∧ opE M lw ls lc 0 0 = 0 := by
 unfold netME at h
 cases hb : M.bad
 ·have he : M.err = 0 := by unfold MetD.err; rw [hb]; rfl
  rw [he, if_pos rfl] at h
  by_cases ho : opE M lw ls lc 0 0 = 0
  ·rw [if_pos ho] at h
   cases hl : legsBad M S n
   ·exact ⟨rfl, rfl, ho⟩
   ·rw [hl] at h; cases h
  ·rw [if_neg ho] at h; exact absurd h ho
 ·have he : M.err = 40 := by unfold MetD.err; rw [hb]; rfl
  rw [he, if_neg (by decide)] at h
  exact absurd h (by decide)
theorem net_facts {M : MetD} {S : Tab} {n : Nat} (hb : M.bad = false) (hl : legsBad M S n = false) : M.places = (M.places.toNat : Int) ∧ (1 ≤ M.places.toNat ∧ M.places.toNat ≤ 8) ∧ LegIn M.places.toNat (lgT S n) ∧ NetOk M.places.toNat S n := by
 have h := (MetD.ok_of hb).places
 have hP : M.places = (M.places.toNat : Int) := by omega
 have hn := (legs_ok hP hl).2
 exact ⟨hP, by omega, fun i j => by have := lgT_in hn n (Nat.le_refl _) i j; omega, hn⟩
theorem Tryz.rowFli : RowTy Tryz.prog 70 5 := ⟨by kernel_rfl, by kernel_rfl⟩
def nfE (E : Int) (M : MetD) (S : Tab) (n : Nat) (F : FliD) : Int := if E = 0 then (if F.okB M.places.toNat (lgT S n) then 0 else 51) else E
def NfRes (E : Int) (w : World) (v : Value) (M : MetD) (vF vS : Value) (S : Tab) (n : Nat) (F : FliD) (vR : Value) (lw ls lc : Int) (li lb : Bool) : Prop := E = 0 → ∃ vN, FliAt w v vN M vF vS M.places.toNat (lgT S n) (timT S n M.places.toNat) F vR lw ls lc li lb
theorem newFlightN_c (M : MetD) (vF vS : Value) (A : Option Addr) (n c : Nat) (S : Tab) (F : FliD) (vR : Value) (w : World) (hM : MetAt w vF vS M) (hc1 : n ≤ c) (hc2 : c ≤ 9223372036854775807) (hL : RecsAt w A n 3 (nV S)) (hR : SlI w vR F.m F.R) :
  Calls Tryz.prog 41 #[.agg #[.int .i64 M.places, .int .i64 M.any.a0, .int .i64 M.any.a1, .int .i64 M.any.a2, .int .i64 M.any.a3, .int .i64 M.any.a4, .int .i64 M.any.a5, .bool M.any.i, .bool M.any.s, .int .i64 M.mw, .int .i64 M.ms, .int .i64 M.mc, vF, vS], .pointer none, .slice A n c, .agg #[vR, .int .i64 F.dep, .int .i64 F.fuel, .int .i64 F.burn, .int .i64 F.res]] w fun e w' => ∃ v, e = .returned (.tuple #[v, .int .i64 (nfE (netE M S n) M S n F)]) ∧ RowKit.Below w.heap.size w w' ∧ NfRes (nfE (netE M S n) M S n F) w' v M vF vS S n F vR 0 0 0 false false := by
 have HM := hI9 hM
 have HL := hI9 hL
 have HR := hI9 hR
 clear hM hL hR
 have hnn := fun w1 h1 h2 => netN_c M vF vS A n c S w1 h1 hc1 hc2 h2
 obtain ⟨E, hE⟩ : ∃ q, q = netE M S n := ⟨_, rfl⟩
 obtain ⟨NE, hNE⟩ : ∃ q, q = nfE E M S n F := ⟨_, rfl⟩
 rw [← hE] at hnn ⊢
 rw [← hNE]
 have HNN := hI9 hnn
 clear hnn
 unfold nfE at hNE
 by_cases h0 : E = 0
 case neg =>
  rw [if_neg h0] at hNE
  have hz : (E != 0) = true := by simpa using h0
  have HH := hI9 (And.intro hNE h0)
  clear hNE h0 hE
  go_enter Tryz.func41, Tryz.ntmps41
  go_wp2_with (fail)
  have _x := frm2 w #[.int .i64 M.places, .int .i64 M.any.a0, .int .i64 M.any.a1, .int .i64 M.any.a2, .int .i64 M.any.a3, .int .i64 M.any.a4, .int .i64 M.any.a5, .bool M.any.i, .bool M.any.s, .int .i64 M.mw, .int .i64 M.ms, .int .i64 M.mc, vF, vS] 34 #[vR, .int .i64 F.dep, .int .i64 F.fuel, .int .i64 F.burn, .int .i64 F.res] 70
  have HX := hI9 _x.1
  have HF := hI9 _x.2.1
  have HB := hI9 _x.2.2.1
  have zW := _x.2.2.2
  clear _x
  generalize World.alloc (World.alloc w _) _ = W at *
  have tok : True := trivial
  go_wp2_with (first | (have _t := tok; refine wpl_row rfl 34 _ rfl _ rfl _ 14 HX.out Tryz.rowMet rfl ?_; simp only [Act.put]; clear tok))
  refine (HNN.out _ (HM.out.below HB.out) (HL.out.below HB.out)).mono ?_
  rintro e w2 ⟨vN, rfl, hb2, hN⟩
  have nHX := hI9 (HX.out.below hb2)
  have nHF := hI9 (HF.out.below hb2)
  have nHB := hI9 (bthen HB.out hb2)
  clear HX HF HB hb2
  have HX := nHX
  have HF := nHF
  have HB := nHB
  clear nHX nHF nHB
  go_wp2_with (fail)
  go_ret2
  exact ⟨_, by rw [HH.out.1]; rfl, HB.out, fun h => absurd (HH.out.1.symm.trans h) HH.out.2⟩
 rw [if_pos h0] at hNE
 subst h0
 obtain ⟨f1, f2⟩ := netE_ok hE.symm
 obtain ⟨f3, f4, f5, f6⟩ := net_facts f1 f2
 have HFC := hI9 (fun v w1 h1 h2 => fly_c M vF vS v M.places.toNat (lgT S n) (timT S n M.places.toNat) F vR w1 h1 f3 f4 f5 h2)
 have HNE := hI9 hNE
 clear hNE hE f1 f2 f3 f4 f5 f6
 go_enter Tryz.func41, Tryz.ntmps41
 go_wp2_with (fail)
 have _x := frm2 w #[.int .i64 M.places, .int .i64 M.any.a0, .int .i64 M.any.a1, .int .i64 M.any.a2, .int .i64 M.any.a3, .int .i64 M.any.a4, .int .i64 M.any.a5, .bool M.any.i, .bool M.any.s, .int .i64 M.mw, .int .i64 M.ms, .int .i64 M.mc, vF, vS] 34 #[vR, .int .i64 F.dep, .int .i64 F.fuel, .int .i64 F.burn, .int .i64 F.res] 70
 have HX := hI9 _x.1
 have HF := hI9 _x.2.1
 have HB := hI9 _x.2.2.1
 have zW := _x.2.2.2
 clear _x
 generalize World.alloc (World.alloc w _) _ = W at *
 have tok : True := trivial
 go_wp2_with (first | (have _t := tok; refine wpl_row rfl 34 _ rfl _ rfl _ 14 HX.out Tryz.rowMet rfl ?_; simp only [Act.put]; clear tok))
 refine (HNN.out _ (HM.out.below HB.out) (HL.out.below HB.out)).mono ?_
 rintro e w2 ⟨vN, rfl, hb2, hN⟩
 have nHX := hI9 (HX.out.below hb2)
 have nHF := hI9 (HF.out.below hb2)
 have nHB := hI9 (bthen HB.out hb2)
 clear HX HF HB hb2
 have HX := nHX
 have HF := nHF
 have HB := nHB
 clear nHX nHF nHB
 have HNA := hI9 (hN (by trivial))
 clear hN
 go_wp2_with (refine wpl_row rfl 70 (.tmp 7) rfl _ rfl _ 5 HF.out Tryz.rowFli rfl ?_; simp only [Act.put])
 refine (HFC.out _ _ HNA.out (HR.out.below HB.out)).mono ?_
 rintro e w3 ⟨v, rfl, hb3, hfr⟩
 have HB3 := hI9 (bthen HB.out hb3)
 clear HB HX HF HNA hb3
 cases hok : F.okB M.places.toNat (lgT S n)
 case false =>
  obtain rfl := hfr.2 (fun h => by rw [FliD.okB_iff.2 h] at hok; cases hok)
  have HH := hI9 (show NE = 51 by rw [HNE.out, hok]; rfl)
  clear hfr hok HNE
  go_wp2_with (fail)
  go_ret2
  exact ⟨_, by rw [HH.out]; rfl, HB3.out, fun h => absurd (HH.out.symm.trans h) (by decide)⟩
 have hfa := (hfr.1 (FliD.okB_iff.1 hok)).1
 have hge := (hfr.1 (FliD.okB_iff.1 hok)).2
 have HFA := hI9 hfa
 have HH := hI9 (show NE = 0 by rw [HNE.out, hok]; rfl)
 obtain ⟨gx, vA, rfl, -⟩ := hfa
 clear hge hfr hok HNE
 go_wp2_with (fail)
 go_ret2
 exact ⟨_, by rw [HH.out]; rfl, HB3.out, fun _ => ⟨vN, HFA.out⟩⟩
theorem newFlightM_c (M : MetD) (vF vS : Value) (gl : Nat) (lw ls lc : Int) (li lb : Bool) (A : Option Addr) (n c : Nat) (S : Tab) (F : FliD) (vR : Value) (w : World) (hM : MetAt w vF vS M) (hmi : Blk w gl 41 #[.int .i64 lw, .int .i64 ls, .int .i64 lc, .bool li, .bool lb]) (hc1 : n ≤ c) (hc2 : c ≤ 9223372036854775807) (hL : RecsAt w A n 3 (nV S)) (hR : SlI w vR F.m F.R) :
  Calls Tryz.prog 41 #[.agg #[.int .i64 M.places, .int .i64 M.any.a0, .int .i64 M.any.a1, .int .i64 M.any.a2, .int .i64 M.any.a3, .int .i64 M.any.a4, .int .i64 M.any.a5, .bool M.any.i, .bool M.any.s, .int .i64 M.mw, .int .i64 M.ms, .int .i64 M.mc, vF, vS], .pointer (some ⟨gl, 0, none⟩), .slice A n c, .agg #[vR, .int .i64 F.dep, .int .i64 F.fuel, .int .i64 F.burn, .int .i64 F.res]] w fun e w' => ∃ v, e = .returned (.tuple #[v, .int .i64 (nfE (netME M lw ls lc S n) M S n F)]) ∧ RowKit.Below w.heap.size w w' ∧ NfRes (nfE (netME M lw ls lc S n) M S n F) w' v M vF vS S n F vR lw ls lc li lb := by
 have HM := hI9 hM
 have HL := hI9 hL
 have HR := hI9 hR
 have HMI := hI9 hmi
 clear hM hL hR hmi
 have hnn := fun w1 h1 hm h2 => netM_c M vF vS gl lw ls lc li lb A n c S w1 h1 hm hc1 hc2 h2
 obtain ⟨E, hE⟩ : ∃ q, q = netME M lw ls lc S n := ⟨_, rfl⟩
 obtain ⟨NE, hNE⟩ : ∃ q, q = nfE E M S n F := ⟨_, rfl⟩
 rw [← hE] at hnn ⊢
 rw [← hNE]
 have HNN := hI9 hnn
 clear hnn
 unfold nfE at hNE
 by_cases h0 : E = 0
 case neg =>
  rw [if_neg h0] at hNE
  have hz : (E != 0) = true := by simpa using h0
  have HH := hI9 (And.intro hNE h0)
  clear hNE h0 hE
  go_enter Tryz.func41, Tryz.ntmps41
  go_wp2_with (fail)
  have _x := frm2 w #[.int .i64 M.places, .int .i64 M.any.a0, .int .i64 M.any.a1, .int .i64 M.any.a2, .int .i64 M.any.a3, .int .i64 M.any.a4, .int .i64 M.any.a5, .bool M.any.i, .bool M.any.s, .int .i64 M.mw, .int .i64 M.ms, .int .i64 M.mc, vF, vS] 34 #[vR, .int .i64 F.dep, .int .i64 F.fuel, .int .i64 F.burn, .int .i64 F.res] 70
  have HX := hI9 _x.1
  have HF := hI9 _x.2.1
  have HB := hI9 _x.2.2.1
  have zW := _x.2.2.2
  clear _x
  generalize World.alloc (World.alloc w _) _ = W at *
  have tok : True := trivial
  go_wp2_with (first | (have _t := tok; refine wpl_row rfl 34 _ rfl _ rfl _ 14 HX.out Tryz.rowMet rfl ?_; simp only [Act.put]; clear tok))
  refine (HNN.out _ (HM.out.below HB.out) (HMI.out.below HB.out) (HL.out.below HB.out)).mono ?_
  rintro e w2 ⟨vN, rfl, hb2, hN⟩
  have nHX := hI9 (HX.out.below hb2)
  have nHF := hI9 (HF.out.below hb2)
  have nHB := hI9 (bthen HB.out hb2)
  clear HX HF HB hb2
  have HX := nHX
  have HF := nHF
  have HB := nHB
  clear nHX nHF nHB
  go_wp2_with (fail)
  go_ret2
  exact ⟨_, by rw [HH.out.1]; rfl, HB.out, fun h => absurd (HH.out.1.symm.trans h) HH.out.2⟩
 rw [if_pos h0] at hNE
 subst h0
 obtain ⟨f1, f2, -⟩ := netME_ok hE.symm
 obtain ⟨f3, f4, f5, f6⟩ := net_facts f1 f2
 have HFC := hI9 (fun v w1 h1 h2 => fly_c M vF vS v M.places.toNat (lgT S n) (timT S n M.places.toNat) F vR w1 h1 f3 f4 f5 h2)
 have HNE := hI9 hNE
 clear hNE hE f1 f2 f3 f4 f5 f6
 go_enter Tryz.func41, Tryz.ntmps41
 go_wp2_with (fail)
 have _x := frm2 w #[.int .i64 M.places, .int .i64 M.any.a0, .int .i64 M.any.a1, .int .i64 M.any.a2, .int .i64 M.any.a3, .int .i64 M.any.a4, .int .i64 M.any.a5, .bool M.any.i, .bool M.any.s, .int .i64 M.mw, .int .i64 M.ms, .int .i64 M.mc, vF, vS] 34 #[vR, .int .i64 F.dep, .int .i64 F.fuel, .int .i64 F.burn, .int .i64 F.res] 70
 have HX := hI9 _x.1
 have HF := hI9 _x.2.1
 have HB := hI9 _x.2.2.1
 have zW := _x.2.2.2
 clear _x
 generalize World.alloc (World.alloc w _) _ = W at *
 have tok : True := trivial
 go_wp2_with (first | (have _t := tok; refine wpl_row rfl 34 _ rfl _ rfl _ 14 HX.out Tryz.rowMet rfl ?_; simp only [Act.put]; clear tok))
 refine (HNN.out _ (HM.out.below HB.out) (HMI.out.below HB.out) (HL.out.below HB.out)).mono ?_
 rintro e w2 ⟨vN, rfl, hb2, hN⟩
 have nHX := hI9 (HX.out.below hb2)
 have nHF := hI9 (HF.out.below hb2)
 have nHB := hI9 (bthen HB.out hb2)
 clear HX HF HB hb2
 have HX := nHX
 have HF := nHF
 have HB := nHB
 clear nHX nHF nHB
 have HNA := hI9 (hN (by trivial))
 clear hN
 go_wp2_with (refine wpl_row rfl 70 (.tmp 7) rfl _ rfl _ 5 HF.out Tryz.rowFli rfl ?_; simp only [Act.put])
 refine (HFC.out _ _ HNA.out (HR.out.below HB.out)).mono ?_
 rintro e w3 ⟨v, rfl, hb3, hfr⟩
 have HB3 := hI9 (bthen HB.out hb3)
 have HB2 := HB
 have HB23 := hI9 hb3
 have HNA2 := HNA
 clear HB HX HF HNA hb3
 cases hok : F.okB M.places.toNat (lgT S n)
 case false =>
  obtain rfl := hfr.2 (fun h => by rw [FliD.okB_iff.2 h] at hok; cases hok)
  have HH := hI9 (show NE = 51 by rw [HNE.out, hok]; rfl)
  clear hfr hok HNE
  go_wp2_with (fail)
  go_ret2
  exact ⟨_, by rw [HH.out]; rfl, HB3.out, fun h => absurd (HH.out.symm.trans h) (by decide)⟩
 have hfa := (hfr.1 (FliD.okB_iff.1 hok)).1
 have hge := (hfr.1 (FliD.okB_iff.1 hok)).2
 have HH := hI9 (show NE = 0 by rw [HNE.out, hok]; rfl)
 obtain ⟨gx, vA, rfl, h1, h2, h3, h4, h5⟩ := hfa
 have HGE := hI9 (hge _ _ _ rfl)
 have HXX := hI9 h1
 have HH2 := hI9 (And.intro h2 (And.intro h3 (And.intro h4 h5)))
 have HM3 := hI9 (HMI.out.below HB3.out)
 have y6 := h1.cell 6
 have y7 := h1.cell 7
 have y8 := h1.cell 8
 have y9 := h1.cell 9
 have y10 := h1.cell 10
 have fr := fun i => h1.frozen i
 simp only [gtA, gtS, gtZ] at y6 y7 y8 y9 y10
 clear hge hfr hok HNE h1 h2 h3 h4 h5
 have tok2 : True := trivial
 go_wp2_with (have _t := tok2; refine wpl_row rfl 41 _ rfl _ rfl _ 5 HM3.out Tryz.rowMin rfl ?_; simp only [Act.put]; clear tok2)
 go_ret2
 have hx := (((((HXX.out.set_ 6 (.int .i64 lw)).set_ 7 (.int .i64 ls)).set_ 8 (.int .i64 lc)).set_ 9 (.bool li)).set_ 10 (.bool lb))
 obtain ⟨-, hsr, hsa, hne⟩ := HH2.out
 have hb2 : RowKit.Below w2.heap.size w2 (((((w3.setCell ⟨gx, 6, none⟩ (.int .i64 lw)).setCell ⟨gx, 7, none⟩ (.int .i64 ls)).setCell ⟨gx, 8, none⟩ (.int .i64 lc)).setCell ⟨gx, 9, none⟩ (.bool li)).setCell ⟨gx, 10, none⟩ (.bool lb)) := bset (bset (bset (bset (bset HB23.out HGE.out _) HGE.out _) HGE.out _) HGE.out _) HGE.out _
 refine ⟨_, by rw [HH.out]; rfl, bthen HB2.out hb2, fun _ => ⟨vN, gx, vA, rfl, hx, HNA2.out.below hb2, (HR.out.below HB2.out).below hb2, ?_, hne⟩⟩
 obtain ⟨A2, c2, rfl, e2, e3, e4⟩ := hsa
 refine ⟨A2, c2, rfl, e2, e3, RecsAt.frm e4 (by simp) fun b off e => ?_⟩
 subst e
 have hbg : b ≠ gx := fun q => hne (by rw [q]; rfl)
 rw [Below.heap_setCell _ ⟨gx, 10, none⟩ _ b hbg, Below.heap_setCell _ ⟨gx, 9, none⟩ _ b hbg, Below.heap_setCell _ ⟨gx, 8, none⟩ _ b hbg, Below.heap_setCell _ ⟨gx, 7, none⟩ _ b hbg, Below.heap_setCell _ ⟨gx, 6, none⟩ _ b hbg]
end Go.Proofs.YtlambeiafdpkgaaGreat

namespace Go.Proofs.YtlambeiafdpkgaaGreat
open Go Go.RowKit Go.Proofs
set_option maxRecDepth 100000
set_option maxHeartbeats 8000000
theorem RecsAt.frame {w w' : World} {A : Option Addr} {n k : Nat} {V : Nat → Nat → Value} (h : RecsAt w A n k V) (hs : w.heap.size ≤ w'.heap.size) (hf : 0 < n → ∀ b off, A = some ⟨b, off, none⟩ → w'.heap[b]? = w.heap[b]?) : RecsAt w' A n k V := by
 intro hn
 obtain ⟨b, off, rfl, hb, hc⟩ := h hn
 refine ⟨b, off, rfl, by omega, fun i hi j hj => ?_⟩
 rw [← hc i hi j hj]
 exact World.cell?_of_block (w := w) (hf hn b off rfl)
theorem fcV_one (D : Nat → Nat → Int) (B : Nat → Nat → Bool) (i j : Nat) : (fcV D B i j).oneCell' = true := by unfold fcV; split <;> rfl
theorem siV_one (E : Nat → Nat → Int) (C : Nat → Nat → Bool) (i j : Nat) : (siV E C i j).oneCell' = true := by unfold siV; split <;> rfl
theorem Tryz.fcU : Tryz.prog.underlying 31 = some (.slice 186) := by kernel_rfl
theorem Tryz.siU : Tryz.prog.underlying 32 = some (.slice 188) := by kernel_rfl
theorem Tryz.fcI : (Tryz.prog.info? 186).map (fun i => (i.zero.map (·.cells.size), i.size, decide (i.bytes ≤ 200))) = some (some 12, 12, true) := by kernel_rfl
theorem Tryz.siI : (Tryz.prog.info? 188).map (fun i => (i.zero.map (·.cells.size), i.size, decide (i.bytes ≤ 200))) = some (some 7, 7, true) := by kernel_rfl
def MetD.far (M : MetD) : Bool := decide (50 < M.n) || decide (30 < M.m)
theorem wFar_c (M : MetD) (vF vS : Value) (w : World) (hA : MetAt w vF vS M) :
  Calls Tryz.prog 23 #[.agg #[.int .i64 M.places, .int .i64 M.any.a0, .int .i64 M.any.a1, .int .i64 M.any.a2, .int .i64 M.any.a3, .int .i64 M.any.a4, .int .i64 M.any.a5, .bool M.any.i, .bool M.any.s, .int .i64 M.mw, .int .i64 M.ms, .int .i64 M.mc, vF, vS]] w fun e w' => e = .returned (.bool M.far) ∧ Below w.heap.size w w' := by
 obtain ⟨⟨A, cF, rfl, hF1, hF2, -⟩, ⟨A2, cS, rfl, hS1, hS2, -⟩⟩ := hA
 unfold MetD.far
 by_cases h1 : 50 < M.n
 ·have h1z : (50 : Int) < (M.n : Int) := by omega
  rw [show decide (50 < M.n) = true from decide_eq_true h1, Bool.true_or]
  go_enter Tryz.func23, Tryz.ntmps23
  go_wp2
  go_ret
  exact ⟨rfl, (by repeat' (first | exact Below.refl _ _ | assumption | refine Below.drew ?_ | refine bdn ?_ _ | refine bal ?_ _ | refine Below.setCell ?_ (by first | (simp; done) | omega | (simp; omega)) _))⟩
 ·have h1z : ¬ (50 : Int) < (M.n : Int) := by omega
  rw [show decide (50 < M.n) = false from decide_eq_false h1, Bool.false_or]
  by_cases h2 : 30 < M.m
  ·have h2z : (30 : Int) < (M.m : Int) := by omega
   rw [show decide (30 < M.m) = true from decide_eq_true h2]
   go_enter Tryz.func23, Tryz.ntmps23
   go_wp2
   go_ret
   exact ⟨rfl, (by repeat' (first | exact Below.refl _ _ | assumption | refine Below.drew ?_ | refine bdn ?_ _ | refine bal ?_ _ | refine Below.setCell ?_ (by first | (simp; done) | omega | (simp; omega)) _))⟩
  ·have h2z : ¬ (30 : Int) < (M.m : Int) := by omega
   rw [show decide (30 < M.m) = false from decide_eq_false h2]
   go_enter Tryz.func23, Tryz.ntmps23
   go_wp2
   go_ret
   exact ⟨rfl, (by repeat' (first | exact Below.refl _ _ | assumption | refine Below.drew ?_ | refine bdn ?_ _ | refine bal ?_ _ | refine Below.setCell ?_ (by first | (simp; done) | omega | (simp; omega)) _))⟩
theorem Tryz.sizeMet : (Tryz.prog.info? 34).map (·.size) = some 14 := by kernel_rfl
theorem oneM (M : MetD) (A A' : Option Addr) (n c n' c' : Nat) : (#[.int .i64 M.places, .int .i64 M.any.a0, .int .i64 M.any.a1, .int .i64 M.any.a2, .int .i64 M.any.a3, .int .i64 M.any.a4, .int .i64 M.any.a5, .bool M.any.i, .bool M.any.s, .int .i64 M.mw, .int .i64 M.ms, .int .i64 M.mc, .slice A n c, .slice A' n' c'] : Array Value).all (·.oneCell') = true := by simp [Value.oneCell']
theorem MetAt.setRow {w : World} {vF vS : Value} {M : MetD} (h : MetAt w vF vS M) {g : Nat} (h1 : ∀ b, some b = vF.ownBlock → b ≠ g) (h2 : ∀ b, some b = vS.ownBlock → b ≠ g) (us : Array Value) : MetAt (w.setRow g us) vF vS M := by
 obtain ⟨⟨A, c, rfl, q1, q2, q3⟩, ⟨A', c', rfl, k1, k2, k3⟩⟩ := h
 exact ⟨⟨A, c, rfl, q1, q2, q3.frame (by simp [World.setRow]) (fun _ b off e => setRow_other _ _ _ _ (h1 b (by rw [e]; rfl)))⟩, ⟨A', c', rfl, k1, k2, k3.frame (by simp [World.setRow]) (fun _ b off e => setRow_other _ _ _ _ (h2 b (by rw [e]; rfl)))⟩⟩
end Go.Proofs.YtlambeiafdpkgaaGreat

namespace Go.Proofs.YtlambeiafdpkgaaGreat
open Go Go.RowKit Go.Proofs
set_option maxRecDepth 100000
set_option maxHeartbeats 8000000
end Go.Proofs.YtlambeiafdpkgaaGreat

namespace Go.Proofs.YtlambeiafdpkgaaGreat
open Go Go.RowKit Go.Proofs
set_option maxRecDepth 100000
set_option maxHeartbeats 8000000
theorem rw_from_c (n lo hi : Int) (w : World) : Calls Tryz.prog 99 #[.int .i64 n, .int .i64 lo, .int .i64 hi] w fun e w' => e = .returned (.bool (inB n lo hi)) ∧ w = w' := by
 unfold inB
 by_cases h1 : lo ≤ n <;> by_cases h2 : n ≤ hi
 all_goals
  go_enter Tryz.func99, Tryz.ntmps99
  go_wp2
  go_ret
  exact ⟨by simp [h1, h2], rfl⟩
theorem insB_rng {lo hi m : Int} : insB lo hi m = (vspan lo hi && (decide (0 ≤ lo) && decide (hi ≤ m))) := by
 rw [Bool.eq_iff_iff, insB_iff]
 simp only [Bool.and_eq_true, decide_eq_true_eq]
 rw [vspan_iff']
 omega
theorem rw_ranged_c (lo hi m : Int) (w : World) : Calls Tryz.prog 147 #[.agg #[.int .i64 lo, .int .i64 hi], .int .i64 m] w fun e w' => e = .returned (.bool (insB lo hi m)) ∧ Below w.heap.size w w' := by
 rw [insB_rng]
 have HV := hI9 (fun w1 => rf_Valid_c lo hi w1)
 generalize vspan lo hi = V at *
 cases V
 ·go_enter Tryz.func147, Tryz.ntmps147
  go_wp2_with (fail)
  have _x := frm1 w #[.int .i64 lo, .int .i64 hi] 28
  have HX := hI9 _x.1
  have HB := hI9 _x.2.1
  have zW := _x.2.2
  clear _x
  generalize World.alloc w _ = W at *
  go_wp2_with (first | (go_at_call 98; (with_reducible refine (HV.out _).mono ?_); rintro e w1 ⟨rfl, hb1⟩; have nHX := hI9 (HX.out.below hb1); have nHB := hI9 (bthen HB.out hb1); have zz1 := hb1.size; clear HX HB hb1; have HX := nHX; have HB := nHB; clear nHX nHB; (try clear zHX); have zHX := HX.out.lt; (try clear cHX0); have cHX0 := HX.out.cell 0; (try clear cHX1); have cHX1 := HX.out.cell 1))
  go_ret
  exact ⟨rfl, HB.out⟩
 ·by_cases h1 : 0 ≤ lo <;> by_cases h2 : hi ≤ m
  all_goals
   go_enter Tryz.func147, Tryz.ntmps147
   go_wp2_with (fail)
   have _x := frm1 w #[.int .i64 lo, .int .i64 hi] 28
   have HX := hI9 _x.1
   have HB := hI9 _x.2.1
   have zW := _x.2.2
   clear _x
   generalize World.alloc w _ = W at *
   go_wp2_with (first | (go_at_call 98; (with_reducible refine (HV.out _).mono ?_); rintro e w1 ⟨rfl, hb1⟩; have nHX := hI9 (HX.out.below hb1); have nHB := hI9 (bthen HB.out hb1); have zz1 := hb1.size; clear HX HB hb1; have HX := nHX; have HB := nHB; clear nHX nHB; (try clear zHX); have zHX := HX.out.lt; (try clear cHX0); have cHX0 := HX.out.cell 0; (try clear cHX1); have cHX1 := HX.out.cell 1))
   go_ret
   exact ⟨by simp [h1, h2], HB.out⟩
theorem rw_ValidSky_c (x : Sk) (w : World) : Calls Tryz.prog 100 #[.agg #[.int .i64 x.a0, .int .i64 x.a1, .int .i64 x.a2, .int .i64 x.a3, .int .i64 x.a4, .int .i64 x.a5, .bool x.i, .bool x.s]] w fun e w' => e = .returned (.bool x.inr) ∧ Below w.heap.size w w' := by
 obtain ⟨a0, a1, a2, a3, a4, a5, xi, xs⟩ := x
 have h1 := fun w1 => rw_ranged_c a0 a1 300 w1
 have h2 := fun w1 => rw_ranged_c a2 a3 20000 w1
 have h3 := fun w1 => rw_ranged_c a4 a5 20000 w1
 show Calls _ _ _ _ fun e w' => e = .returned (.bool (insB a0 a1 300 && (insB a2 a3 20000 && insB a4 a5 20000))) ∧ Below w.heap.size w w'
 dsimp only
 generalize insB a0 a1 300 = B1 at *
 generalize insB a2 a3 20000 = B2 at *
 generalize insB a4 a5 20000 = B3 at *
 have H1 := hI9 h1
 have H2 := hI9 h2
 have H3 := hI9 h3
 clear h1 h2 h3
 cases B1 <;> cases B2
 all_goals
  go_enter Tryz.func100, Tryz.ntmps100
  go_wp2_with (fail)
  have _x := frm1 w #[.int .i64 a0, .int .i64 a1, .int .i64 a2, .int .i64 a3, .int .i64 a4, .int .i64 a5, .bool xi, .bool xs] 30
  have HX := hI9 _x.1
  have HB := hI9 _x.2.1
  have zW := _x.2.2
  clear _x
  generalize World.alloc w _ = W at *
  have zHX := HX.out.lt
  have cHX0 := HX.out.cell 0
  have cHX1 := HX.out.cell 1
  go_wp2_with (first | (go_at_call 147; (with_reducible refine (H1.out _).mono ?_); rintro e w1 ⟨rfl, hb1⟩; have nHX := hI9 (HX.out.below hb1); have nHB := hI9 (bthen HB.out hb1); have zz1 := hb1.size; clear HX HB hb1; have HX := nHX; have HB := nHB; clear nHX nHB; (try clear zHX); have zHX := HX.out.lt; (try clear cHX2); have cHX2 := HX.out.cell 2; (try clear cHX3); have cHX3 := HX.out.cell 3) | (go_at_call 147; (with_reducible refine (H2.out _).mono ?_); rintro e w1 ⟨rfl, hb1⟩; have nHX := hI9 (HX.out.below hb1); have nHB := hI9 (bthen HB.out hb1); have zz1 := hb1.size; clear HX HB hb1; have HX := nHX; have HB := nHB; clear nHX nHB; (try clear zHX); have zHX := HX.out.lt; (try clear cHX4); have cHX4 := HX.out.cell 4; (try clear cHX5); have cHX5 := HX.out.cell 5) | (go_at_call 147; (with_reducible refine (H3.out _).mono ?_); rintro e w1 ⟨rfl, hb1⟩; have nHX := hI9 (HX.out.below hb1); have nHB := hI9 (bthen HB.out hb1); have zz1 := hb1.size; clear HX HB hb1; have HX := nHX; have HB := nHB; clear nHX nHB))
  go_ret
  exact ⟨rfl, HB.out⟩
def wvB (a b c : Int) : Bool := inB a 0 300 && (inB b 0 20000 && inB c 0 20000)
theorem rw_ValidWeather_c (a b c : Int) (i s : Bool) (w : World) : Calls Tryz.prog 101 #[.agg #[.int .i64 a, .int .i64 b, .int .i64 c, .bool i, .bool s]] w fun e w' => e = .returned (.bool (wvB a b c)) ∧ Below w.heap.size w w' := by
 unfold wvB
 cases h1 : inB a 0 300 <;> cases h2 : inB b 0 20000
 all_goals
  go_enter Tryz.func101, Tryz.ntmps101
  go_wp2_with (first | (go_at_call 99; (with_reducible refine (rw_from_c _ _ _ _).mono ?_); rintro e w1 ⟨rfl, rfl⟩))
  go_ret
  exact ⟨rfl, (by repeat' (first | exact Below.refl _ _ | assumption | refine Below.drew ?_ | refine bdn ?_ _ | refine bal ?_ _ | refine Below.setCell ?_ (by first | (simp; done) | omega | (simp; omega)) _))⟩
end Go.Proofs.YtlambeiafdpkgaaGreat

namespace Go.Proofs.YtlambeiafdpkgaaGreat
open Go Go.RowKit Go.Proofs
set_option maxRecDepth 100000
def spC (l : List (Int × Int)) : List Value := l.flatMap fun p => [.int .i64 p.1, .int .i64 p.2]
end Go.Proofs.YtlambeiafdpkgaaGreat

namespace Go.Proofs.YtlambeiafdpkgaaGreat
open Go Go.RowKit Go.Proofs
set_option maxRecDepth 100000
set_option maxHeartbeats 4000000
end Go.Proofs.YtlambeiafdpkgaaGreat

namespace Go.Proofs.YtlambeiafdpkgaaGreat
open Go Go.RowKit Go.Proofs
set_option maxRecDepth 100000
set_option maxHeartbeats 8000000
structure WiK (M : MetD) (vF vS : Value) (lw ls lc : Int) (li lt : Bool) (w : World) (l : List (Int × Int)) (v : Value) (wr : World) : Prop where
 k : FiK M vF vS lw ls lc li lt w wr
 o : wr.ownsRow (w.heap.size + 2) 28 2 v l.length (spC l)
 n : v = .slice none 0 0 ↔ l = []
 z : w.heap.size + 2 ≤ wr.heap.size
theorem WiK.grow {M : MetD} {vF vS : Value} {lw ls lc : Int} {li lt : Bool} {w wr w2 : World} {l : List (Int × Int)} {v : Value} (h : WiK M vF vS lw ls lc li lt w l v wr) (hb : Below wr.heap.size wr w2) : WiK M vF vS lw ls lc li lt w l v w2 :=
 ⟨h.k.grow hb, ownsRow_below h.o hb, h.n, Nat.le_trans h.z hb.size⟩
theorem FiK.under {M : MetD} {vF vS : Value} {lw ls lc : Int} {li lt : Bool} {w wr w2 : World} (h : FiK M vF vS lw ls lc li lt w wr) (hb : Below (w.heap.size + 2) wr w2) : FiK M vF vS lw ls lc li lt w w2 :=
 ⟨h.b.trans (hb.mono (by omega)), h.m.under hb (by omega), h.l.under hb (by omega)⟩
theorem WiK.take {M : MetD} {vF vS : Value} {lw ls lc : Int} {li lt : Bool} {w wr w2 : World} {l : List (Int × Int)} {v v' : Value} {p : Int × Int} (h : WiK M vF vS lw ls lc li lt w l v wr) (h1 : w2.ownsRow (w.heap.size + 2) 28 2 v' (l ++ [p]).length (spC (l ++ [p])))
  (h2 : wr.grownBy w2 v.ownBlock) (h3 : v' ≠ .slice none 0 0) : WiK M vF vS lw ls lc li lt w (l ++ [p]) v' w2 :=
 ⟨h.k.under (below_grown h2 h.z (fun b hb => owns_base h.o hb)), h1, by simp [h3], Nat.le_trans h.z h2.size⟩
end Go.Proofs.YtlambeiafdpkgaaGreat

namespace Go.Proofs.YtlambeiafdpkgaaGreat
open Go Go.RowKit Go.Proofs
set_option maxRecDepth 100000
set_option maxHeartbeats 8000000
end Go.Proofs.YtlambeiafdpkgaaGreat

namespace Go.Proofs.YtlambeiafdpkgaaGreat
open Go Go.RowKit Go.Proofs
end Go.Proofs.YtlambeiafdpkgaaGreat

namespace Go.Proofs.YtlambeiafdpkgaaGreat
open Go Go.RowKit Go.Proofs
set_option maxRecDepth 100000
set_option maxHeartbeats 8000000
theorem wpl_buildw {P : Program} {ops : Array Oper} {rest : List Oper} {o : Oper} {a : Act} {w : World} {Q : Exit → Act → World → Prop} (hg : o.guard = none) (t : TypeId) (parts : Array (Nat × Operand)) (ho : o.op = .build t parts)
  (cs : Array Value) (hf : P.built t (parts.toList.map fun (i, x) => (i, a.eval x)) = some cs)
  (h : wpList P ops Q rest (a.put o.dst (.agg cs)) w) : wpList P ops Q (o :: rest) a w :=
 wpList_build hg t parts ho (by rw [Array.toList_map, hf]; rfl) (by rw [Array.toList_map, hf]; exact h)
theorem wpl_store_newW {P : Program} {ops : Array Oper} {rest : List Oper} {o : Oper} {a : Act} {w : World} {Q : Exit → Act → World → Prop} (hgd : o.guard = none) (ty : TypeId) (x y : Operand) (ho : o.op = .store ty x y)
  (cells old : Array Value) (g : Nat) (hx : a.eval x = .pointer (some ⟨g, 0, none⟩)) (hg : g = w.heap.size) (hy : a.eval y = .agg cells) (hi : (P.info? ty).map (·.size) = some cells.size)
  (hold : old.size = cells.size) (h1 : cells.all (·.oneCell') = true)
  (h : wpList P ops Q rest (a.put o.dst undef) (w.alloc (.cells cells ty))) : wpList P ops Q (o :: rest) a (w.alloc (.cells old ty)) := by
 subst hg
 refine wpList_store_row hgd ty x y ho w.heap.size cells hx hy ty old (World.alloc_heap_new w _) hi hold h1 ?_
 rw [World.setRow_alloc_new]; exact h
end Go.Proofs.YtlambeiafdpkgaaGreat

namespace Go.Proofs.YtlambeiafdpkgaaGreat
open Go Go.RowKit Go.Proofs
set_option maxRecDepth 100000
set_option maxHeartbeats 8000000
theorem wblk_setRow {w : World} {g : Nat} {t : TypeId} {old cs : Array Value} (h : Blk w g t old) : Blk (w.setRow g cs) g t cs := setRow_heap w g old cs t (0, 0) h
end Go.Proofs.YtlambeiafdpkgaaGreat

namespace Go.Proofs.YtlambeiafdpkgaaGreat
open Go Go.RowKit Go.Proofs
set_option maxRecDepth 100000
set_option maxHeartbeats 8000000
theorem opE_split {M : MetD} {lw ls lc p t : Int} (h : opE M lw ls lc p t = 0) : minE M lw ls lc = 0 ∧ atE M p t = 0 := by
 unfold opE at h
 by_cases he : minE M lw ls lc = 0
 ·rw [if_pos he] at h; exact ⟨he, h⟩
 ·rw [if_neg he] at h; exact absurd h he
theorem opE_mk {M : MetD} {lw ls lc p t : Int} (h1 : minE M lw ls lc = 0) (h2 : atE M p t = 0) : opE M lw ls lc p t = 0 := by
 unfold opE; rw [if_pos h1, h2]
theorem MetAt.alloc {w : World} {vF vS : Value} {M : MetD} (h : MetAt w vF vS M) (o : Obj) : MetAt (w.alloc o) vF vS M := h.below (bal (Below.refl _ _) _)
end Go.Proofs.YtlambeiafdpkgaaGreat
