/- Texts joined: JAN. -/
import Derived.Test.YtlabfpjlckdmfaaGreatJAM
import Derived.OpenShut
import Derived.Test.YtlabfpjlckdmfaaGreatJAK
set_option linter.all false
namespace Go.Proofs.YtlabfpjlckdmfaaGreat
open Go Go.RowKit Go.Proofs
set_option maxRecDepth 100000
set_option maxHeartbeats 8000000
theorem RecsAt.frm {w w' : World} {A : Option Addr} {n k : Nat} {V : Nat → Nat → Value} (h : RecsAt w A n k V) (hs : w.heap.size ≤ w'.heap.size) (hf : ∀ b off, A = some ⟨b, off, none⟩ → w'.heap[b]? = w.heap[b]?) : RecsAt w' A n k V := by
 intro hn
 obtain ⟨b, off, rfl, hb, hc⟩ := h hn
 exact ⟨b, off, rfl, by omega, fun i hi j hj => by rw [← hc i hi j hj]; simp only [World.cell?, hf b off rfl]⟩
def FliD.okB (F : FliD) (P : Nat) (lt : Tab) : Bool :=
 F.nums && ((List.range F.m).all (fun j => decide (0 ≤ F.R j ∧ F.R j < P)) && ((List.range (F.m - 1)).all (fun j => decide (0 ≤ lt (F.R j).toNat (F.R (j + 1)).toNat)) && decide (F.at_ lt (F.m - 1) ≤ 2000)))
theorem FliD.okB_iff {F : FliD} {P : Nat} {lt : Tab} : F.okB P lt = true ↔ F.ok P lt := by
 unfold FliD.okB FliD.ok FliD.flown
 simp only [Bool.and_eq_true, List.all_eq_true, List.mem_range, decide_eq_true_eq]
 constructor
 ·rintro ⟨h1, h2, h3, h4⟩
  exact ⟨h1, ⟨h2, fun j hj => h3 j (by omega)⟩, h4⟩
 ·rintro ⟨h1, ⟨h2, h3⟩, h4⟩
  exact ⟨h1, h2, fun j hj => h3 j (by omega), h4⟩
theorem netE_ok {M : MetD} {S : Tab} {n : Nat} (h : netE M S n = 0) : M.bad = false ∧ legsBad M S n = false := by
 unfold netE at h
 cases hb : M.bad
 ·have he : M.err = 0 := by unfold MetD.err; rw [hb]; rfl
  rw [he, if_pos rfl] at h
  cases hl : legsBad M S n
  ·exact ⟨rfl, rfl⟩
  ·rw [hl] at h; cases h
 ·have he : M.err = 40 := by unfold MetD.err; rw [hb]; rfl
  rw [he, if_neg (by decide)] at h
  exact absurd h (by decide)
theorem netME_ok {M : MetD} {lw ls lc : Int} {S : Tab} {n : Nat} (h : netME M lw ls lc S n = 0) : M.bad = false ∧ legsBad M S n = false ∧ opE M lw ls lc 0 0 = 0 := by
 unfold netME at h
 cases hb : M.bad
 ·have he : M.err = 0 := by unfold MetD.err; rw [hb]; rfl
  rw [he, if_pos rfl] at h
  by_cases ho : opE M lw ls lc 0 0 = 0
  ·rw [if_pos ho] at h
   cases hl : legsBad M S n
   ·exact ⟨rfl, rfl, ho⟩
   ·rw [hl] at h; cases h
  ·rw [if_neg ho] at h; exact absurd h ho
 ·have he : M.err = 40 := by unfold MetD.err; rw [hb]; rfl
  rw [he, if_neg (by decide)] at h
  exact absurd h (by decide)
theorem net_facts {M : MetD} {S : Tab} {n : Nat} (hb : M.bad = false) (hl : legsBad M S n = false) : M.places = (M.places.toNat : Int) ∧ (1 ≤ M.places.toNat ∧ M.places.toNat ≤ 8) ∧ LegIn M.places.toNat (lgT S n) ∧ NetOk M.places.toNat S n := by
 have h := (MetD.ok_of hb).places
 have hP : M.places = (M.places.toNat : Int) := by omega
 have hn := (legs_ok hP hl).2
 exact ⟨hP, by omega, fun i j => by have := lgT_in hn n (Nat.le_refl _) i j; omega, hn⟩
theorem Tryz.rowFli : RowTy Tryz.prog 37 5 := ⟨by kernel_rfl, by kernel_rfl⟩
def nfE (E : Int) (M : MetD) (S : Tab) (n : Nat) (F : FliD) : Int := if E = 0 then (if F.okB M.places.toNat (lgT S n) then 0 else 51) else E
def NfRes (E : Int) (w : World) (v : Value) (M : MetD) (vF vS : Value) (S : Tab) (n : Nat) (F : FliD) (vR : Value) (lw ls lc : Int) (li lb : Bool) : Prop := E = 0 → ∃ vN, FliAt w v vN M vF vS M.places.toNat (lgT S n) (timT S n M.places.toNat) F vR lw ls lc li lb
theorem newFlightN_c (M : MetD) (vF vS : Value) (A : Option Addr) (n c : Nat) (S : Tab) (F : FliD) (vR : Value) (w : World) (hM : MetAt w vF vS M) (hc1 : n ≤ c) (hc2 : c ≤ 9223372036854775807) (hL : RecsAt w A n 3 (nV S)) (hR : SlI w vR F.m F.R) :
  Calls Tryz.prog 25 #[.agg #[.int .i64 M.places, .int .i64 M.any.a0, .int .i64 M.any.a1, .int .i64 M.any.a2, .int .i64 M.any.a3, .int .i64 M.any.a4, .int .i64 M.any.a5, .bool M.any.i, .bool M.any.s, .int .i64 M.mw, .int .i64 M.ms, .int .i64 M.mc, vF, vS], .pointer none, .slice A n c, .agg #[vR, .int .i64 F.dep, .int .i64 F.fuel, .int .i64 F.burn, .int .i64 F.res]] w fun e w' => ∃ v, e = .returned (.tuple #[v, .int .i64 (nfE (netE M S n) M S n F)]) ∧ RowKit.Below w.heap.size w w' ∧ NfRes (nfE (netE M S n) M S n F) w' v M vF vS S n F vR 0 0 0 false false := by
 have HM := hI9 hM
 have HL := hI9 hL
 have HR := hI9 hR
 clear hM hL hR
 have hnn := fun w1 h1 h2 => netN_c M vF vS A n c S w1 h1 hc1 hc2 h2
 obtain ⟨E, hE⟩ : ∃ q, q = netE M S n := ⟨_, rfl⟩
 obtain ⟨NE, hNE⟩ : ∃ q, q = nfE E M S n F := ⟨_, rfl⟩
 rw [← hE] at hnn ⊢
 rw [← hNE]
 have HNN := hI9 hnn
 clear hnn
 unfold nfE at hNE
 by_cases h0 : E = 0
 case neg =>
  rw [if_neg h0] at hNE
  have hz : (E != 0) = true := by simpa using h0
  have HH := hI9 (And.intro hNE h0)
  clear hNE h0 hE
  go_enter Tryz.func25, Tryz.ntmps25
  go_wp2_with (fail)
  have _x := frm2 w #[.int .i64 M.places, .int .i64 M.any.a0, .int .i64 M.any.a1, .int .i64 M.any.a2, .int .i64 M.any.a3, .int .i64 M.any.a4, .int .i64 M.any.a5, .bool M.any.i, .bool M.any.s, .int .i64 M.mw, .int .i64 M.ms, .int .i64 M.mc, vF, vS] 29 #[vR, .int .i64 F.dep, .int .i64 F.fuel, .int .i64 F.burn, .int .i64 F.res] 37
  have HX := hI9 _x.1
  have HF := hI9 _x.2.1
  have HB := hI9 _x.2.2.1
  have zW := _x.2.2.2
  clear _x
  generalize World.alloc (World.alloc w _) _ = W at *
  have tok : True := trivial
  go_wp2_with (first | (have _t := tok; refine wpl_row rfl 29 _ rfl _ rfl _ 14 HX.out Tryz.rowMet rfl ?_; simp only [Act.put]; clear tok))
  refine (HNN.out _ (HM.out.below HB.out) (HL.out.below HB.out)).mono ?_
  rintro e w2 ⟨vN, rfl, hb2, hN⟩
  have nHX := hI9 (HX.out.below hb2)
  have nHF := hI9 (HF.out.below hb2)
  have nHB := hI9 (bthen HB.out hb2)
  clear HX HF HB hb2
  have HX := nHX
  have HF := nHF
  have HB := nHB
  clear nHX nHF nHB
  go_wp2_with (fail)
  go_ret2
  exact ⟨_, by rw [HH.out.1]; rfl, HB.out, fun h => absurd (HH.out.1.symm.trans h) HH.out.2⟩
 rw [if_pos h0] at hNE
 subst h0
 obtain ⟨f1, f2⟩ := netE_ok hE.symm
 obtain ⟨f3, f4, f5, f6⟩ := net_facts f1 f2
 have HFC := hI9 (fun v w1 h1 h2 => fly_c M vF vS v M.places.toNat (lgT S n) (timT S n M.places.toNat) F vR w1 h1 f3 f4 f5 h2)
 have HNE := hI9 hNE
 clear hNE hE f1 f2 f3 f4 f5 f6
 go_enter Tryz.func25, Tryz.ntmps25
 go_wp2_with (fail)
 have _x := frm2 w #[.int .i64 M.places, .int .i64 M.any.a0, .int .i64 M.any.a1, .int .i64 M.any.a2, .int .i64 M.any.a3, .int .i64 M.any.a4, .int .i64 M.any.a5, .bool M.any.i, .bool M.any.s, .int .i64 M.mw, .int .i64 M.ms, .int .i64 M.mc, vF, vS] 29 #[vR, .int .i64 F.dep, .int .i64 F.fuel, .int .i64 F.burn, .int .i64 F.res] 37
 have HX := hI9 _x.1
 have HF := hI9 _x.2.1
 have HB := hI9 _x.2.2.1
 have zW := _x.2.2.2
 clear _x
 generalize World.alloc (World.alloc w _) _ = W at *
 have tok : True := trivial
 go_wp2_with (first | (have _t := tok; refine wpl_row rfl 29 _ rfl _ rfl _ 14 HX.out Tryz.rowMet rfl ?_; simp only [Act.put]; clear tok))
 refine (HNN.out _ (HM.out.below HB.out) (HL.out.below HB.out)).mono ?_
 rintro e w2 ⟨vN, rfl, hb2, hN⟩
 have nHX := hI9 (HX.out.below hb2)
 have nHF := hI9 (HF.out.below hb2)
 have nHB := hI9 (bthen HB.out hb2)
 clear HX HF HB hb2
 have HX := nHX
 have HF := nHF
 have HB := nHB
 clear nHX nHF nHB
 have HNA := hI9 (hN (by trivial))
 clear hN
 go_wp2_with (refine wpl_row rfl 37 (.tmp 7) rfl _ rfl _ 5 HF.out Tryz.rowFli rfl ?_; simp only [Act.put])
 refine (HFC.out _ _ HNA.out (HR.out.below HB.out)).mono ?_
 rintro e w3 ⟨v, rfl, hb3, hfr⟩
 have HB3 := hI9 (bthen HB.out hb3)
 clear HB HX HF HNA hb3
 cases hok : F.okB M.places.toNat (lgT S n)
 case false =>
  obtain rfl := hfr.2 (fun h => by rw [FliD.okB_iff.2 h] at hok; cases hok)
  have HH := hI9 (show NE = 51 by rw [HNE.out, hok]; rfl)
  clear hfr hok HNE
  go_wp2_with (fail)
  go_ret2
  exact ⟨_, by rw [HH.out]; rfl, HB3.out, fun h => absurd (HH.out.symm.trans h) (by decide)⟩
 have hfa := (hfr.1 (FliD.okB_iff.1 hok)).1
 have hge := (hfr.1 (FliD.okB_iff.1 hok)).2
 have HFA := hI9 hfa
 have HH := hI9 (show NE = 0 by rw [HNE.out, hok]; rfl)
 obtain ⟨gx, vA, rfl, -⟩ := hfa
 clear hge hfr hok HNE
 go_wp2_with (fail)
 go_ret2
 exact ⟨_, by rw [HH.out]; rfl, HB3.out, fun _ => ⟨vN, HFA.out⟩⟩
theorem newFlightM_c (M : MetD) (vF vS : Value) (gl : Nat) (lw ls lc : Int) (li lb : Bool) (A : Option Addr) (n c : Nat) (S : Tab) (F : FliD) (vR : Value) (w : World) (hM : MetAt w vF vS M) (hmi : Blk w gl 31 #[.int .i64 lw, .int .i64 ls, .int .i64 lc, .bool li, .bool lb]) (hc1 : n ≤ c) (hc2 : c ≤ 9223372036854775807) (hL : RecsAt w A n 3 (nV S)) (hR : SlI w vR F.m F.R) :
  Calls Tryz.prog 25 #[.agg #[.int .i64 M.places, .int .i64 M.any.a0, .int .i64 M.any.a1, .int .i64 M.any.a2, .int .i64 M.any.a3, .int .i64 M.any.a4, .int .i64 M.any.a5, .bool M.any.i, .bool M.any.s, .int .i64 M.mw, .int .i64 M.ms, .int .i64 M.mc, vF, vS], .pointer (some ⟨gl, 0, none⟩), .slice A n c, .agg #[vR, .int .i64 F.dep, .int .i64 F.fuel, .int .i64 F.burn, .int .i64 F.res]] w fun e w' => ∃ v, e = .returned (.tuple #[v, .int .i64 (nfE (netME M lw ls lc S n) M S n F)]) ∧ RowKit.Below w.heap.size w w' ∧ NfRes (nfE (netME M lw ls lc S n) M S n F) w' v M vF vS S n F vR lw ls lc li lb := by
 have HM := hI9 hM
 have HL := hI9 hL
 have HR := hI9 hR
 have HMI := hI9 hmi
 clear hM hL hR hmi
 have hnn := fun w1 h1 hm h2 => netM_c M vF vS gl lw ls lc li lb A n c S w1 h1 hm hc1 hc2 h2
 obtain ⟨E, hE⟩ : ∃ q, q = netME M lw ls lc S n := ⟨_, rfl⟩
 obtain ⟨NE, hNE⟩ : ∃ q, q = nfE E M S n F := ⟨_, rfl⟩
 rw [← hE] at hnn ⊢
 rw [← hNE]
 have HNN := hI9 hnn
 clear hnn
 unfold nfE at hNE
 by_cases h0 : E = 0
 case neg =>
  rw [if_neg h0] at hNE
  have hz : (E != 0) = true := by simpa using h0
  have HH := hI9 (And.intro hNE h0)
  clear hNE h0 hE
  go_enter Tryz.func25, Tryz.ntmps25
  go_wp2_with (fail)
  have _x := frm2 w #[.int .i64 M.places, .int .i64 M.any.a0, .int .i64 M.any.a1, .int .i64 M.any.a2, .int .i64 M.any.a3, .int .i64 M.any.a4, .int .i64 M.any.a5, .bool M.any.i, .bool M.any.s, .int .i64 M.mw, .int .i64 M.ms, .int .i64 M.mc, vF, vS] 29 #[vR, .int .i64 F.dep, .int .i64 F.fuel, .int .i64 F.burn, .int .i64 F.res] 37
  have HX := hI9 _x.1
  have HF := hI9 _x.2.1
  have HB := hI9 _x.2.2.1
  have zW := _x.2.2.2
  clear _x
  generalize World.alloc (World.alloc w _) _ = W at *
  have tok : True := trivial
  go_wp2_with (first | (have _t := tok; refine wpl_row rfl 29 _ rfl _ rfl _ 14 HX.out Tryz.rowMet rfl ?_; simp only [Act.put]; clear tok))
  refine (HNN.out _ (HM.out.below HB.out) (HMI.out.below HB.out) (HL.out.below HB.out)).mono ?_
  rintro e w2 ⟨vN, rfl, hb2, hN⟩
  have nHX := hI9 (HX.out.below hb2)
  have nHF := hI9 (HF.out.below hb2)
  have nHB := hI9 (bthen HB.out hb2)
  clear HX HF HB hb2
  have HX := nHX
  have HF := nHF
  have HB := nHB
  clear nHX nHF nHB
  go_wp2_with (fail)
  go_ret2
  exact ⟨_, by rw [HH.out.1]; rfl, HB.out, fun h => absurd (HH.out.1.symm.trans h) HH.out.2⟩
 rw [if_pos h0] at hNE
 subst h0
 obtain ⟨f1, f2, -⟩ := netME_ok hE.symm
 obtain ⟨f3, f4, f5, f6⟩ := net_facts f1 f2
 have HFC := hI9 (fun v w1 h1 h2 => fly_c M vF vS v M.places.toNat (lgT S n) (timT S n M.places.toNat) F vR w1 h1 f3 f4 f5 h2)
 have HNE := hI9 hNE
 clear hNE hE f1 f2 f3 f4 f5 f6
 go_enter Tryz.func25, Tryz.ntmps25
 go_wp2_with (fail)
 have _x := frm2 w #[.int .i64 M.places, .int .i64 M.any.a0, .int .i64 M.any.a1, .int .i64 M.any.a2, .int .i64 M.any.a3, .int .i64 M.any.a4, .int .i64 M.any.a5, .bool M.any.i, .bool M.any.s, .int .i64 M.mw, .int .i64 M.ms, .int .i64 M.mc, vF, vS] 29 #[vR, .int .i64 F.dep, .int .i64 F.fuel, .int .i64 F.burn, .int .i64 F.res] 37
 have HX := hI9 _x.1
 have HF := hI9 _x.2.1
 have HB := hI9 _x.2.2.1
 have zW := _x.2.2.2
 clear _x
 generalize World.alloc (World.alloc w _) _ = W at *
 have tok : True := trivial
 go_wp2_with (first | (have _t := tok; refine wpl_row rfl 29 _ rfl _ rfl _ 14 HX.out Tryz.rowMet rfl ?_; simp only [Act.put]; clear tok))
 refine (HNN.out _ (HM.out.below HB.out) (HMI.out.below HB.out) (HL.out.below HB.out)).mono ?_
 rintro e w2 ⟨vN, rfl, hb2, hN⟩
 have nHX := hI9 (HX.out.below hb2)
 have nHF := hI9 (HF.out.below hb2)
 have nHB := hI9 (bthen HB.out hb2)
 clear HX HF HB hb2
 have HX := nHX
 have HF := nHF
 have HB := nHB
 clear nHX nHF nHB
 have HNA := hI9 (hN (by trivial))
 clear hN
 go_wp2_with (refine wpl_row rfl 37 (.tmp 7) rfl _ rfl _ 5 HF.out Tryz.rowFli rfl ?_; simp only [Act.put])
 refine (HFC.out _ _ HNA.out (HR.out.below HB.out)).mono ?_
 rintro e w3 ⟨v, rfl, hb3, hfr⟩
 have HB3 := hI9 (bthen HB.out hb3)
 have HB2 := HB
 have HB23 := hI9 hb3
 have HNA2 := HNA
 clear HB HX HF HNA hb3
 cases hok : F.okB M.places.toNat (lgT S n)
 case false =>
  obtain rfl := hfr.2 (fun h => by rw [FliD.okB_iff.2 h] at hok; cases hok)
  have HH := hI9 (show NE = 51 by rw [HNE.out, hok]; rfl)
  clear hfr hok HNE
  go_wp2_with (fail)
  go_ret2
  exact ⟨_, by rw [HH.out]; rfl, HB3.out, fun h => absurd (HH.out.symm.trans h) (by decide)⟩
 have hfa := (hfr.1 (FliD.okB_iff.1 hok)).1
 have hge := (hfr.1 (FliD.okB_iff.1 hok)).2
 have HH := hI9 (show NE = 0 by rw [HNE.out, hok]; rfl)
 obtain ⟨gx, vA, rfl, h1, h2, h3, h4, h5⟩ := hfa
 have HGE := hI9 (hge _ _ _ rfl)
 have HXX := hI9 h1
 have HH2 := hI9 (And.intro h2 (And.intro h3 (And.intro h4 h5)))
 have HM3 := hI9 (HMI.out.below HB3.out)
 have y6 := h1.cell 6
 have y7 := h1.cell 7
 have y8 := h1.cell 8
 have y9 := h1.cell 9
 have y10 := h1.cell 10
 have fr := fun i => h1.frozen i
 simp only [gtA, gtS, gtZ] at y6 y7 y8 y9 y10
 clear hge hfr hok HNE h1 h2 h3 h4 h5
 have tok2 : True := trivial
 go_wp2_with (have _t := tok2; refine wpl_row rfl 31 _ rfl _ rfl _ 5 HM3.out Tryz.rowMin rfl ?_; simp only [Act.put]; clear tok2)
 go_ret2
 have hx := (((((HXX.out.set_ 6 (.int .i64 lw)).set_ 7 (.int .i64 ls)).set_ 8 (.int .i64 lc)).set_ 9 (.bool li)).set_ 10 (.bool lb))
 obtain ⟨-, hsr, hsa, hne⟩ := HH2.out
 have hb2 : RowKit.Below w2.heap.size w2 (((((w3.setCell ⟨gx, 6, none⟩ (.int .i64 lw)).setCell ⟨gx, 7, none⟩ (.int .i64 ls)).setCell ⟨gx, 8, none⟩ (.int .i64 lc)).setCell ⟨gx, 9, none⟩ (.bool li)).setCell ⟨gx, 10, none⟩ (.bool lb)) := bset (bset (bset (bset (bset HB23.out HGE.out _) HGE.out _) HGE.out _) HGE.out _) HGE.out _
 refine ⟨_, by rw [HH.out]; rfl, bthen HB2.out hb2, fun _ => ⟨vN, gx, vA, rfl, hx, HNA2.out.below hb2, (HR.out.below HB2.out).below hb2, ?_, hne⟩⟩
 obtain ⟨A2, c2, rfl, e2, e3, e4⟩ := hsa
 refine ⟨A2, c2, rfl, e2, e3, RecsAt.frm e4 (by simp) fun b off e => ?_⟩
 subst e
 have hbg : b ≠ gx := fun q => hne (by rw [q]; rfl)
 rw [Below.heap_setCell _ ⟨gx, 10, none⟩ _ b hbg, Below.heap_setCell _ ⟨gx, 9, none⟩ _ b hbg, Below.heap_setCell _ ⟨gx, 8, none⟩ _ b hbg, Below.heap_setCell _ ⟨gx, 7, none⟩ _ b hbg, Below.heap_setCell _ ⟨gx, 6, none⟩ _ b hbg]
end Go.Proofs.YtlabfpjlckdmfaaGreat

namespace Go.Proofs.YtlabfpjlckdmfaaGreat
open Go Go.RowKit Go.Proofs Go.ChangeShapes Go.WideShapes Go.ChangeAt Go.Deep
set_option maxRecDepth 100000
set_option maxHeartbeats 4000000
section
variable {H : Type} {enc : TypeId × Value → H} {W : World} {sp : Nat → Bool} {held : Bool}
theorem legs_trod {fuel : Nat} {c : Value} {x : DataW H × List MemPlace} (ht : DataW.trod enc Tryz.prog W 0 sp held fuel 32 [c] = some x) :
  ∃ (A : Option Addr) (n cp : Nat) (S : Nat → Nat → Int), c = .slice A n cp ∧ n ≤ cp ∧ cp ≤ 9223372036854775807 ∧ RecsAt W A n 3 (nV S) := by
 obtain ⟨A, n, cp, D, B, rfl, h1, h2, h3, h4, -⟩ := slice_kinds (e := 45) (n := 3) (fun _ => true) (by kernel_rfl) (by kernel_rfl) (Nat.succ_pos _) ht (by kernel_rfl)
 exact ⟨A, n, cp, D, rfl, h1, h2, h4⟩
theorem route_trod {fuel : Nat} {c : Value} {x : DataW H × List MemPlace} (ht : DataW.trod enc Tryz.prog W 0 sp held fuel 35 [c] = some x) :
  ∃ (n : Nat) (R : Nat → Int), SlI W c n R := by
 obtain ⟨A, n, cp, D, B, rfl, h1, h2, h3, h4, -⟩ := slice_kinds (e := 3) (n := 1) (fun _ => true) (by kernel_rfl) (by kernel_rfl) (Nat.succ_pos _) ht (by kernel_rfl)
 refine ⟨n, fun i => D i 0, A, cp, rfl, h1, h2, fun hp => ?_⟩
 obtain ⟨b, off, e1, e2, e3⟩ := h4 hp
 refine ⟨b, off, e1, e2, fun i hi j hj => ?_⟩
 rw [e3 i hi j hj]
 obtain rfl : j = 0 := by omega
 rfl
theorem plan_trod {r : Reach} {b0 : Nat} {v : Value} {d : DataW H} {ps : List MemPlace} (hval : Value.okWide Tryz.prog W r b0 34 v) (hd : DataW.Trod enc Tryz.prog W 0 sp held 34 v d ps) :
  ∃ (M : MetD) (vF vS : Value) (lw ls lc : Int) (li lb : Bool) (A : Option Addr) (n c : Nat) (S : Tab), v = .agg #[.int .i64 M.places, .int .i64 M.any.a0, .int .i64 M.any.a1, .int .i64 M.any.a2, .int .i64 M.any.a3, .int .i64 M.any.a4, .int .i64 M.any.a5, .bool M.any.i, .bool M.any.s, .int .i64 M.mw, .int .i64 M.ms, .int .i64 M.mc, vF, vS, .int .i64 lw, .int .i64 ls, .int .i64 lc, .bool li, .bool lb, .slice A n c] ∧ MetAt W vF vS M ∧ n ≤ c ∧ c ≤ 9223372036854775807 ∧ RecsAt W A n 3 (nV S) := by
 obtain ⟨cs, rfl, hl, fuel, x, ht⟩ := struct_trod (q := (29, 0)) (n := 20) (by kernel_rfl) (by kernel_rfl) hval hd
 have hl' : cs.length = Tryz.prog.cellsOf 34 := hl.trans (by kernel_rfl)
 obtain ⟨n0, e0, -⟩ := leaf_int hl' ht 0 (by kernel_rfl)
 obtain ⟨n1, e1, -⟩ := leaf_int hl' ht 1 (by kernel_rfl)
 obtain ⟨n2, e2, -⟩ := leaf_int hl' ht 2 (by kernel_rfl)
 obtain ⟨n3, e3, -⟩ := leaf_int hl' ht 3 (by kernel_rfl)
 obtain ⟨n4, e4, -⟩ := leaf_int hl' ht 4 (by kernel_rfl)
 obtain ⟨n5, e5, -⟩ := leaf_int hl' ht 5 (by kernel_rfl)
 obtain ⟨n6, e6, -⟩ := leaf_int hl' ht 6 (by kernel_rfl)
 obtain ⟨b7, e7⟩ := leaf_bool hl' ht 7 (by kernel_rfl)
 obtain ⟨b8, e8⟩ := leaf_bool hl' ht 8 (by kernel_rfl)
 obtain ⟨n9, e9, -⟩ := leaf_int hl' ht 9 (by kernel_rfl)
 obtain ⟨n10, e10, -⟩ := leaf_int hl' ht 10 (by kernel_rfl)
 obtain ⟨n11, e11, -⟩ := leaf_int hl' ht 11 (by kernel_rfl)
 obtain ⟨m12, y12, h12⟩ := trod_leaf (t := 26) 9 _ 12 fuel cs x (by kernel_rfl) hl' ht
 obtain ⟨A12, l12, c12, X12, B12, e12, p12, q12, r12⟩ := fcs_trod h12
 obtain ⟨m13, y13, h13⟩ := trod_leaf (t := 27) 9 _ 13 fuel cs x (by kernel_rfl) hl' ht
 obtain ⟨A13, l13, c13, X13, B13, e13, p13, q13, r13⟩ := sis_trod h13
 obtain ⟨n14, e14, -⟩ := leaf_int hl' ht 14 (by kernel_rfl)
 obtain ⟨n15, e15, -⟩ := leaf_int hl' ht 15 (by kernel_rfl)
 obtain ⟨n16, e16, -⟩ := leaf_int hl' ht 16 (by kernel_rfl)
 obtain ⟨b17, e17⟩ := leaf_bool hl' ht 17 (by kernel_rfl)
 obtain ⟨b18, e18⟩ := leaf_bool hl' ht 18 (by kernel_rfl)
 obtain ⟨m19, y19, h19⟩ := trod_leaf (t := 32) 9 _ 19 fuel cs x (by kernel_rfl) hl' ht
 obtain ⟨A19, l19, c19, X19, e19, p19, q19, r19⟩ := legs_trod h19
 refine ⟨⟨n0, ⟨n1, n2, n3, n4, n5, n6, b7, b8⟩, n9, n10, n11, l12, X12, B12, l13, X13, B13⟩, .slice A12 l12 c12, .slice A13 l13 c13, n14, n15, n16, b17, b18, A19, l19, c19, X19, ?_, ⟨⟨_, _, rfl, p12, q12, r12⟩, ⟨_, _, rfl, p13, q13, r13⟩⟩, p19, q19, r19⟩
 rw [list_cells hl]
 simp only [show List.range 20 = [0, 1, 2, 3, 4, 5, 6, 7, 8, 9, 10, 11, 12, 13, 14, 15, 16, 17, 18, 19] from rfl, List.map_cons, List.map_nil, e0, e1, e2, e3, e4, e5, e6, e7, e8, e9, e10, e11, e12, e13, e14, e15, e16, e17, e18, e19]
theorem flight_trod {r : Reach} {b0 : Nat} {v : Value} {d : DataW H} {ps : List MemPlace} (hval : Value.okWide Tryz.prog W r b0 37 v) (hd : DataW.Trod enc Tryz.prog W 0 sp held 37 v d ps) :
  ∃ (F : FliD) (vR : Value), v = .agg #[vR, .int .i64 F.dep, .int .i64 F.fuel, .int .i64 F.burn, .int .i64 F.res] ∧ SlI W vR F.m F.R ∧ I64 F.dep ∧ I64 F.fuel ∧ I64 F.burn ∧ I64 F.res := by
 obtain ⟨cs, rfl, hl, fuel, x, ht⟩ := struct_trod (q := (35, 0)) (n := 5) (by kernel_rfl) (by kernel_rfl) hval hd
 have hl' : cs.length = Tryz.prog.cellsOf 37 := hl.trans (by kernel_rfl)
 obtain ⟨m0, y0, h0⟩ := trod_leaf (t := 35) 9 _ 0 fuel cs x (by kernel_rfl) hl' ht
 obtain ⟨l0, X0, hR⟩ := route_trod h0
 obtain ⟨n1, e1, w1⟩ := leaf_int hl' ht 1 (by kernel_rfl)
 obtain ⟨n2, e2, w2⟩ := leaf_int hl' ht 2 (by kernel_rfl)
 obtain ⟨n3, e3, w3⟩ := leaf_int hl' ht 3 (by kernel_rfl)
 obtain ⟨n4, e4, w4⟩ := leaf_int hl' ht 4 (by kernel_rfl)
 refine ⟨⟨l0, X0, n1, n2, n3, n4⟩, cs.getD 0 undef, ?_, hR, w1, w2, w3, w4⟩
 conv => lhs; rw [list_cells hl]
 simp only [show List.range 5 = [0, 1, 2, 3, 4] from rfl, List.map_cons, List.map_nil, e1, e2, e3, e4]
end
end Go.Proofs.YtlabfpjlckdmfaaGreat
