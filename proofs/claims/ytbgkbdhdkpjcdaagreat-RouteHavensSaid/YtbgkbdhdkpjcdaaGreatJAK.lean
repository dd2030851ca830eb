/- Texts joined: JAK. -/
import Derived.Test.YtbgkbdhdkpjcdaaGreatNaE
import Derived.Test.YtbgkbdhdkpjcdaaGreatJAB
import Derived.Test.YtbgkbdhdkpjcdaaGreatWeQ
set_option linter.all false
namespace Go.Proofs.YtbgkbdhdkpjcdaaGreat
open Go Go.RowKit Go.Proofs
set_option maxRecDepth 100000
set_option maxHeartbeats 8000000
theorem RecsAt.frm {w w' : World} {A : Option Addr} {n k : Nat} {V : Nat → Nat → Value} (h : RecsAt w A n k V) (hs : w.heap.size ≤ w'.heap.size) (hf : ∀ b off, A = some ⟨b, off, none⟩ → w'.heap[b]? = w.heap[b]?) : RecsAt w' A n k V := by
  intro hn
  obtain ⟨b, off, rfl, hb, hc⟩ := h hn
  exact ⟨b, off, rfl, by omega, fun i hi j hj => by rw [← hc i hi j hj]; simp only [World.cell?, hf b off rfl]⟩
def FliD.okB (F : FliD) (P : Nat) (lt : Tab) : Bool :=
  F.nums && ((List.range F.m).all (fun j => decide (0 ≤ F.R j ∧ F.R j < P)) && ((List.range (F.m - 1)).all (fun j => decide (0 ≤ lt (F.R j).toNat (F.R (j + 1)).toNat)) && decide (F.at_ lt (F.m - 1) ≤ 2000)))
theorem FliD.okB_iff {F : FliD} {P : Nat} {lt : Tab} : F.okB P lt = true ↔ F.ok P lt := by
  unfold FliD.okB FliD.ok FliD.flown
  simp only [Bool.and_eq_true, List.all_eq_true, List.mem_range, decide_eq_true_eq]
  constructor
  · rintro ⟨h1, h2, h3, h4⟩
    exact ⟨h1, ⟨h2, fun j hj => h3 j (by omega)⟩, h4⟩
  · rintro ⟨h1, ⟨h2, h3⟩, h4⟩
    exact ⟨h1, h2, fun j hj => h3 j (by omega), h4⟩
theorem netE_ok {M : MetD} {S : Tab} {n : Nat} (h : netE M S n = 0) : M.bad = false ∧ legsBad M S n = false := by
  unfold netE at h
  cases hb : M.bad
  · have he : M.err = 0 := by unfold MetD.err; rw [hb]; rfl
    rw [he, if_pos rfl] at h
    cases hl : legsBad M S n
    · exact ⟨rfl, rfl⟩
    · rw [hl] at h; cases h
  · have he : M.err = 40 := by unfold MetD.err; rw [hb]; rfl
    rw [he, if_neg (by decide)] at h
    exact absurd h (by decide)
theorem netME_ok {M : MetD} {lw ls lc : Int} {S : Tab} {n : Nat} (h : netME M lw ls lc S n = 0) : M.bad = false ∧ legsBad M S n = false ∧ opE M lw ls lc 0 0 = 0 := by
  unfold netME at h
  cases hb : M.bad
  · have he : M.err = 0 := by unfold MetD.err; rw [hb]; rfl
    rw [he, if_pos rfl] at h
    by_cases ho : opE M lw ls lc 0 0 = 0
    · rw [if_pos ho] at h
      cases hl : legsBad M S n
      · exact ⟨rfl, rfl, ho⟩
      · rw [hl] at h; cases h
    · rw [if_neg ho] at h; exact absurd h ho
  · have he : M.err = 40 := by unfold MetD.err; rw [hb]; rfl
    rw [he, if_neg (by decide)] at h
    exact absurd h (by decide)
theorem net_facts {M : MetD} {S : Tab} {n : Nat} (hb : M.bad = false) (hl : legsBad M S n = false) : M.places = (M.places.toNat : Int) ∧ (1 ≤ M.places.toNat ∧ M.places.toNat ≤ 8) ∧ LegIn M.places.toNat (lgT S n) ∧ NetOk M.places.toNat S n := by
  have h := (MetD.ok_of hb).places
  have hP : M.places = (M.places.toNat : Int) := by omega
  have hn := (legs_ok hP hl).2
  exact ⟨hP, by omega, fun i j => by have := lgT_in hn n (Nat.le_refl _) i j; omega, hn⟩
theorem Tryz.rowFli : RowTy Tryz.prog 37 5 := ⟨by kernel_rfl, by kernel_rfl⟩
def nfE (E : Int) (M : MetD) (S : Tab) (n : Nat) (F : FliD) : Int := if E = 0 then (if F.okB M.places.toNat (lgT S n) then 0 else 51) else E
def NfRes (E : Int) (w : World) (v : Value) (M : MetD) (vF vS : Value) (S : Tab) (n : Nat) (F : FliD) (vR : Value) (lw ls lc : Int) (li lb : Bool) : Prop := E = 0 → ∃ vN, FliAt w v vN M vF vS M.places.toNat (lgT S n) (timT S n M.places.toNat) F vR lw ls lc li lb
theorem newFlightM_c (M : MetD) (vF vS : Value) (gl : Nat) (lw ls lc : Int) (li lb : Bool) (A : Option Addr) (n c : Nat) (S : Tab) (F : FliD) (vR : Value) (w : World) (hM : MetAt w vF vS M) (hmi : Blk w gl 31 #[.int .i64 lw, .int .i64 ls, .int .i64 lc, .bool li, .bool lb]) (hc1 : n ≤ c) (hc2 : c ≤ 9223372036854775807) (hL : RecsAt w A n 3 (nV S)) (hR : SlI w vR F.m F.R) :
   Calls Tryz.prog 86 #[.agg #[.int .i64 M.places, .int .i64 M.any.a0, .int .i64 M.any.a1, .int .i64 M.any.a2, .int .i64 M.any.a3, .int .i64 M.any.a4, .int .i64 M.any.a5, .bool M.any.i, .bool M.any.s, .int .i64 M.mw, .int .i64 M.ms, .int .i64 M.mc, vF, vS], .pointer (some ⟨gl, 0, none⟩), .slice A n c, .agg #[vR, .int .i64 F.dep, .int .i64 F.fuel, .int .i64 F.burn, .int .i64 F.res]] w fun e w' => ∃ v, e = .returned (.tuple #[v, .int .i64 (nfE (netME M lw ls lc S n) M S n F)]) ∧ RowKit.Below w.heap.size w w' ∧ NfRes (nfE (netME M lw ls lc S n) M S n F) w' v M vF vS S n F vR lw ls lc li lb := by
  have HM := Lib.hid hM
  have HL := Lib.hid hL
  have HR := Lib.hid hR
  have HMI := Lib.hid hmi
  clear hM hL hR hmi
  have hnn := fun w1 h1 hm h2 => netM_c M vF vS gl lw ls lc li lb A n c S w1 h1 hm hc1 hc2 h2
  obtain ⟨E, hE⟩ : ∃ q, q = netME M lw ls lc S n := ⟨_, rfl⟩
  obtain ⟨NE, hNE⟩ : ∃ q, q = nfE E M S n F := ⟨_, rfl⟩
  rw [← hE] at hnn ⊢
  rw [← hNE]
  have HNN := Lib.hid hnn
  clear hnn
  unfold nfE at hNE
  by_cases h0 : E = 0
  case neg =>
    rw [if_neg h0] at hNE
    have hz : (E != 0) = true := by simpa using h0
    have HH := Lib.hid (And.intro hNE h0)
    clear hNE h0 hE
    go_enter Tryz.func86, Tryz.ntmps86
    go_wp2_with (fail)
    have bHX : Blk ((w.alloc (.cells #[.int .i64 M.places, .int .i64 M.any.a0, .int .i64 M.any.a1, .int .i64 M.any.a2, .int .i64 M.any.a3, .int .i64 M.any.a4, .int .i64 M.any.a5, .bool M.any.i, .bool M.any.s, .int .i64 M.mw, .int .i64 M.ms, .int .i64 M.mc, vF, vS] 29)).alloc (.cells #[vR, .int .i64 F.dep, .int .i64 F.fuel, .int .i64 F.burn, .int .i64 F.res] 37)) (w.heap.size) 29 #[.int .i64 M.places, .int .i64 M.any.a0, .int .i64 M.any.a1, .int .i64 M.any.a2, .int .i64 M.any.a3, .int .i64 M.any.a4, .int .i64 M.any.a5, .bool M.any.i, .bool M.any.s, .int .i64 M.mw, .int .i64 M.ms, .int .i64 M.mc, vF, vS] := (by repeat (first | (refine Blk.newAt _ _ _ ?_; first | rfl | (simp; done)) | refine Blk.alloc ?_ _))
    have bHF : Blk ((w.alloc (.cells #[.int .i64 M.places, .int .i64 M.any.a0, .int .i64 M.any.a1, .int .i64 M.any.a2, .int .i64 M.any.a3, .int .i64 M.any.a4, .int .i64 M.any.a5, .bool M.any.i, .bool M.any.s, .int .i64 M.mw, .int .i64 M.ms, .int .i64 M.mc, vF, vS] 29)).alloc (.cells #[vR, .int .i64 F.dep, .int .i64 F.fuel, .int .i64 F.burn, .int .i64 F.res] 37)) (w.heap.size + 1) 37 #[vR, .int .i64 F.dep, .int .i64 F.fuel, .int .i64 F.burn, .int .i64 F.res] := (by repeat (first | (refine Blk.newAt _ _ _ ?_; first | rfl | (simp; done)) | refine Blk.alloc ?_ _))
    have bHB : Below w.heap.size w ((w.alloc (.cells #[.int .i64 M.places, .int .i64 M.any.a0, .int .i64 M.any.a1, .int .i64 M.any.a2, .int .i64 M.any.a3, .int .i64 M.any.a4, .int .i64 M.any.a5, .bool M.any.i, .bool M.any.s, .int .i64 M.mw, .int .i64 M.ms, .int .i64 M.mc, vF, vS] 29)).alloc (.cells #[vR, .int .i64 F.dep, .int .i64 F.fuel, .int .i64 F.burn, .int .i64 F.res] 37)) := (by repeat' (first | exact Below.refl _ _ | assumption | refine Below.drew ?_ | refine bdn ?_ _ | refine bal ?_ _ | refine Below.setCell ?_ (by first | (simp; done) | omega | (simp; omega)) _))
    generalize ((w.alloc (.cells #[.int .i64 M.places, .int .i64 M.any.a0, .int .i64 M.any.a1, .int .i64 M.any.a2, .int .i64 M.any.a3, .int .i64 M.any.a4, .int .i64 M.any.a5, .bool M.any.i, .bool M.any.s, .int .i64 M.mw, .int .i64 M.ms, .int .i64 M.mc, vF, vS] 29)).alloc (.cells #[vR, .int .i64 F.dep, .int .i64 F.fuel, .int .i64 F.burn, .int .i64 F.res] 37)) = W at *
    have zW := bHF.lt
    have HX := Lib.hid bHX
    have HF := Lib.hid bHF
    have HB := Lib.hid bHB
    clear bHX bHF bHB
    have tok : True := trivial
    go_wp2_with (first | (have _t := tok; refine wpl_row rfl 29 _ rfl _ rfl #[.int .i64 M.places, .int .i64 M.any.a0, .int .i64 M.any.a1, .int .i64 M.any.a2, .int .i64 M.any.a3, .int .i64 M.any.a4, .int .i64 M.any.a5, .bool M.any.i, .bool M.any.s, .int .i64 M.mw, .int .i64 M.ms, .int .i64 M.mc, vF, vS] 14 HX.out Tryz.rowMet rfl ?_; simp only [Act.put]; clear tok))
    refine (HNN.out _ (HM.out.below HB.out) (HMI.out.below HB.out) (HL.out.below HB.out)).mono ?_
    rintro e w2 ⟨vN, rfl, hb2, hN⟩
    have nHX := Lib.hid (HX.out.below hb2)
    have nHF := Lib.hid (HF.out.below hb2)
    have nHB := Lib.hid (bthen HB.out hb2)
    clear HX HF HB hb2
    have HX := nHX
    have HF := nHF
    have HB := nHB
    clear nHX nHF nHB
    go_wp2_with (fail)
    go_ret2
    exact ⟨_, by rw [HH.out.1]; rfl, HB.out, fun h => absurd (HH.out.1.symm.trans h) HH.out.2⟩
  rw [if_pos h0] at hNE
  subst h0
  obtain ⟨f1, f2, -⟩ := netME_ok hE.symm
  obtain ⟨f3, f4, f5, f6⟩ := net_facts f1 f2
  have HFC := Lib.hid (fun v w1 h1 h2 => fly_c M vF vS v M.places.toNat (lgT S n) (timT S n M.places.toNat) F vR w1 h1 f3 f4 f5 h2)
  have HNE := Lib.hid hNE
  clear hNE hE f1 f2 f3 f4 f5 f6
  go_enter Tryz.func86, Tryz.ntmps86
  go_wp2_with (fail)
  have bHX : Blk ((w.alloc (.cells #[.int .i64 M.places, .int .i64 M.any.a0, .int .i64 M.any.a1, .int .i64 M.any.a2, .int .i64 M.any.a3, .int .i64 M.any.a4, .int .i64 M.any.a5, .bool M.any.i, .bool M.any.s, .int .i64 M.mw, .int .i64 M.ms, .int .i64 M.mc, vF, vS] 29)).alloc (.cells #[vR, .int .i64 F.dep, .int .i64 F.fuel, .int .i64 F.burn, .int .i64 F.res] 37)) (w.heap.size) 29 #[.int .i64 M.places, .int .i64 M.any.a0, .int .i64 M.any.a1, .int .i64 M.any.a2, .int .i64 M.any.a3, .int .i64 M.any.a4, .int .i64 M.any.a5, .bool M.any.i, .bool M.any.s, .int .i64 M.mw, .int .i64 M.ms, .int .i64 M.mc, vF, vS] := (by repeat (first | (refine Blk.newAt _ _ _ ?_; first | rfl | (simp; done)) | refine Blk.alloc ?_ _))
  have bHF : Blk ((w.alloc (.cells #[.int .i64 M.places, .int .i64 M.any.a0, .int .i64 M.any.a1, .int .i64 M.any.a2, .int .i64 M.any.a3, .int .i64 M.any.a4, .int .i64 M.any.a5, .bool M.any.i, .bool M.any.s, .int .i64 M.mw, .int .i64 M.ms, .int .i64 M.mc, vF, vS] 29)).alloc (.cells #[vR, .int .i64 F.dep, .int .i64 F.fuel, .int .i64 F.burn, .int .i64 F.res] 37)) (w.heap.size + 1) 37 #[vR, .int .i64 F.dep, .int .i64 F.fuel, .int .i64 F.burn, .int .i64 F.res] := (by repeat (first | (refine Blk.newAt _ _ _ ?_; first | rfl | (simp; done)) | refine Blk.alloc ?_ _))
  have bHB : Below w.heap.size w ((w.alloc (.cells #[.int .i64 M.places, .int .i64 M.any.a0, .int .i64 M.any.a1, .int .i64 M.any.a2, .int .i64 M.any.a3, .int .i64 M.any.a4, .int .i64 M.any.a5, .bool M.any.i, .bool M.any.s, .int .i64 M.mw, .int .i64 M.ms, .int .i64 M.mc, vF, vS] 29)).alloc (.cells #[vR, .int .i64 F.dep, .int .i64 F.fuel, .int .i64 F.burn, .int .i64 F.res] 37)) := (by repeat' (first | exact Below.refl _ _ | assumption | refine Below.drew ?_ | refine bdn ?_ _ | refine bal ?_ _ | refine Below.setCell ?_ (by first | (simp; done) | omega | (simp; omega)) _))
  generalize ((w.alloc (.cells #[.int .i64 M.places, .int .i64 M.any.a0, .int .i64 M.any.a1, .int .i64 M.any.a2, .int .i64 M.any.a3, .int .i64 M.any.a4, .int .i64 M.any.a5, .bool M.any.i, .bool M.any.s, .int .i64 M.mw, .int .i64 M.ms, .int .i64 M.mc, vF, vS] 29)).alloc (.cells #[vR, .int .i64 F.dep, .int .i64 F.fuel, .int .i64 F.burn, .int .i64 F.res] 37)) = W at *
  have zW := bHF.lt
  have HX := Lib.hid bHX
  have HF := Lib.hid bHF
  have HB := Lib.hid bHB
  clear bHX bHF bHB
  have tok : True := trivial
  go_wp2_with (first | (have _t := tok; refine wpl_row rfl 29 _ rfl _ rfl #[.int .i64 M.places, .int .i64 M.any.a0, .int .i64 M.any.a1, .int .i64 M.any.a2, .int .i64 M.any.a3, .int .i64 M.any.a4, .int .i64 M.any.a5, .bool M.any.i, .bool M.any.s, .int .i64 M.mw, .int .i64 M.ms, .int .i64 M.mc, vF, vS] 14 HX.out Tryz.rowMet rfl ?_; simp only [Act.put]; clear tok))
  refine (HNN.out _ (HM.out.below HB.out) (HMI.out.below HB.out) (HL.out.below HB.out)).mono ?_
  rintro e w2 ⟨vN, rfl, hb2, hN⟩
  have nHX := Lib.hid (HX.out.below hb2)
  have nHF := Lib.hid (HF.out.below hb2)
  have nHB := Lib.hid (bthen HB.out hb2)
  clear HX HF HB hb2
  have HX := nHX
  have HF := nHF
  have HB := nHB
  clear nHX nHF nHB
  have HNA := Lib.hid (hN (by trivial))
  clear hN
  go_wp2_with (refine wpl_row rfl 37 (.tmp 7) rfl _ rfl #[vR, .int .i64 F.dep, .int .i64 F.fuel, .int .i64 F.burn, .int .i64 F.res] 5 HF.out Tryz.rowFli rfl ?_; simp only [Act.put])
  refine (HFC.out _ _ HNA.out (HR.out.below HB.out)).mono ?_
  rintro e w3 ⟨v, rfl, hb3, hfr⟩
  have HB3 := Lib.hid (bthen HB.out hb3)
  have HB2 := HB
  have HB23 := Lib.hid hb3
  have HNA2 := HNA
  clear HB HX HF HNA hb3
  cases hok : F.okB M.places.toNat (lgT S n)
  case false =>
    obtain rfl := hfr.2 (fun h => by rw [FliD.okB_iff.2 h] at hok; cases hok)
    have HH := Lib.hid (show NE = 51 by rw [HNE.out, hok]; rfl)
    clear hfr hok HNE
    go_wp2_with (fail)
    go_ret2
    exact ⟨_, by rw [HH.out]; rfl, HB3.out, fun h => absurd (HH.out.symm.trans h) (by decide)⟩
  have hfa := (hfr.1 (FliD.okB_iff.1 hok)).1
  have hge := (hfr.1 (FliD.okB_iff.1 hok)).2
  have HH := Lib.hid (show NE = 0 by rw [HNE.out, hok]; rfl)
  obtain ⟨gx, vA, rfl, h1, h2, h3, h4, h5⟩ := hfa
  have HGE := Lib.hid (hge _ _ _ rfl)
  have HXX := Lib.hid h1
  have HH2 := Lib.hid (And.intro h2 (And.intro h3 (And.intro h4 h5)))
  have HM3 := Lib.hid (HMI.out.below HB3.out)
  have y6 := h1.cell 6
  have y7 := h1.cell 7
  have y8 := h1.cell 8
  have y9 := h1.cell 9
  have y10 := h1.cell 10
  have fr := fun i => h1.frozen i
  simp only [List.getElem?_toArray, List.getElem?_cons_succ, List.getElem?_cons_zero] at y6 y7 y8 y9 y10
  clear hge hfr hok HNE h1 h2 h3 h4 h5
  have tok2 : True := trivial
  go_wp2_with (have _t := tok2; refine wpl_row rfl 31 _ rfl _ rfl #[.int .i64 lw, .int .i64 ls, .int .i64 lc, .bool li, .bool lb] 5 HM3.out Tryz.rowMin rfl ?_; simp only [Act.put]; clear tok2)
  go_ret2
  have hx := (((((HXX.out.set_ 6 (.int .i64 lw)).set_ 7 (.int .i64 ls)).set_ 8 (.int .i64 lc)).set_ 9 (.bool li)).set_ 10 (.bool lb))
  obtain ⟨-, hsr, hsa, hne⟩ := HH2.out
  have hb2 : RowKit.Below w2.heap.size w2 (((((w3.setCell ⟨gx, 6, none⟩ (.int .i64 lw)).setCell ⟨gx, 7, none⟩ (.int .i64 ls)).setCell ⟨gx, 8, none⟩ (.int .i64 lc)).setCell ⟨gx, 9, none⟩ (.bool li)).setCell ⟨gx, 10, none⟩ (.bool lb)) := bset (bset (bset (bset (bset HB23.out HGE.out _) HGE.out _) HGE.out _) HGE.out _) HGE.out _
  refine ⟨_, by rw [HH.out]; rfl, bthen HB2.out hb2, fun _ => ⟨vN, gx, vA, rfl, hx, HNA2.out.below hb2, (HR.out.below HB2.out).below hb2, ?_, hne⟩⟩
  obtain ⟨A2, c2, rfl, e2, e3, e4⟩ := hsa
  refine ⟨A2, c2, rfl, e2, e3, RecsAt.frm e4 (by simp) fun b off e => ?_⟩
  subst e
  have hbg : b ≠ gx := fun q => hne (by rw [q]; rfl)
  rw [Below.heap_setCell _ ⟨gx, 10, none⟩ _ b hbg, Below.heap_setCell _ ⟨gx, 9, none⟩ _ b hbg, Below.heap_setCell _ ⟨gx, 8, none⟩ _ b hbg, Below.heap_setCell _ ⟨gx, 7, none⟩ _ b hbg, Below.heap_setCell _ ⟨gx, 6, none⟩ _ b hbg]
end Go.Proofs.YtbgkbdhdkpjcdaaGreat

namespace Go.Proofs.YtbgkbdhdkpjcdaaGreat
open Go Go.RowKit Go.Proofs

theorem rf_From_c (n lo hi : Int) (w : World) : Calls Tryz.prog 206 #[.int .i64 n, .int .i64 lo, .int .i64 hi] w fun e w' => e = .returned (.bool (inB n lo hi)) ∧ w = w' := by
  unfold inB
  by_cases h1 : lo ≤ n <;> by_cases h2 : n ≤ hi
  all_goals
    go_enter Tryz.func206, Tryz.ntmps206
    go_wp2
    go_ret
    exact ⟨by simp [h1, h2], rfl⟩
theorem vspan_two {lo hi : Int} : (inB lo (-1000000) 1000000 && inB hi lo 1000000) = vspan lo hi := by
  rw [Bool.eq_iff_iff]; unfold vspan inB; simp only [Bool.and_eq_true, decide_eq_true_eq]; omega

theorem rf_Valid_c (lo hi : Int) (w : World) : Calls Tryz.prog 173 #[.agg #[.int .i64 lo, .int .i64 hi]] w fun e w' => e = .returned (.bool (vspan lo hi)) ∧ Below w.heap.size w w' := by
  rw [← vspan_two]
  cases h1 : inB lo (-1000000) 1000000
  all_goals
    go_enter Tryz.func173, Tryz.ntmps173
    go_wp2_with (first | (go_at_call 206; (with_reducible refine (rf_From_c _ _ _ _).mono ?_); rintro e w1 ⟨rfl, rfl⟩))
    go_ret
    exact ⟨by simp, (by repeat' (first | exact Below.refl _ _ | assumption | refine Below.drew ?_ | refine bdn ?_ _ | refine bal ?_ _ | refine Below.setCell ?_ (by first | (simp; done) | omega | (simp; omega)) _))⟩

theorem rf_two_c (al ah bl bh : Int) (w : World) : Calls Tryz.prog 228 #[.agg #[.int .i64 al, .int .i64 ah], .agg #[.int .i64 bl, .int .i64 bh]] w fun e w' => e = .returned (.int .i64 (spanE (!vspan al ah || !vspan bl bh))) ∧ Below w.heap.size w w' := by
  cases h1 : vspan al ah <;> cases h2 : vspan bl bh
  all_goals
    go_enter Tryz.func228, Tryz.ntmps228
    go_wp2_with (first | (go_at_call 173; (with_reducible refine (rf_Valid_c _ _ _).mono ?_); rintro e w1 ⟨rfl, hb1⟩; have hB1 := bthen (show Below w.heap.size w _ from (by repeat' (first | exact Below.refl _ _ | assumption | refine Below.drew ?_ | refine bdn ?_ _ | refine bal ?_ _ | refine Below.setCell ?_ (by first | (simp; done) | omega | (simp; omega)) _))) hb1; have hz1 := hb1.size; (try simp at hz1); obtain ⟨hc1, hf1⟩ := bcell hb1; first | (have hE1 := bthen2 hE (by repeat' (first | exact Below.refl _ _ | refine Below.drew ?_ | refine bdn ?_ _ | refine bal ?_ _ | refine Below.setCell ?_ (by first | (simp; done) | omega | (simp; omega)) _)) hb1; clear hE; have hE := hE1; clear hE1; obtain ⟨hd1, hg1⟩ := bcell hE) | (have hE := hb1)))
    go_ret
    exact ⟨rfl, (by repeat' (first | exact Below.refl _ _ | assumption | refine Below.drew ?_ | refine bdn ?_ _ | refine bal ?_ _ | refine Below.setCell ?_ (by first | (simp; done) | omega | (simp; omega)) _))⟩

end Go.Proofs.YtbgkbdhdkpjcdaaGreat

/- Contracts: knots, CheckTable, filled of the references. -/
namespace Go.Proofs.YtbgkbdhdkpjcdaaGreat
open Go Go.RowKit Go.Proofs
set_option maxRecDepth 100000
set_option maxHeartbeats 4000000

end Go.Proofs.YtbgkbdhdkpjcdaaGreat

/- Contracts: filled of the reference. -/
namespace Go.Proofs.YtbgkbdhdkpjcdaaGreat
open Go Go.RowKit Go.Proofs
set_option maxRecDepth 100000
set_option maxHeartbeats 4000000

end Go.Proofs.YtbgkbdhdkpjcdaaGreat

/- Contracts: part of the references. -/
namespace Go.Proofs.YtbgkbdhdkpjcdaaGreat
open Go Go.RowKit Go.Proofs
set_option maxRecDepth 100000
set_option maxHeartbeats 4000000

end Go.Proofs.YtbgkbdhdkpjcdaaGreat

namespace Go.Proofs.YtbgkbdhdkpjcdaaGreat
open Go Go.RowKit Go.Proofs
set_option maxRecDepth 100000
set_option maxHeartbeats 8000000

end Go.Proofs.YtbgkbdhdkpjcdaaGreat

namespace Go.Proofs.YtbgkbdhdkpjcdaaGreat
open Go Go.RowKit Go.Proofs
set_option maxRecDepth 100000
set_option maxHeartbeats 8000000

/-- What the loop keeps. -/
structure FiK (M : MetD) (vF vS : Value) (lw ls lc : Int) (li lt : Bool) (w wr : World) : Prop where
  b : Below w.heap.size w wr
  m : Blk wr w.heap.size 29 #[.int .i64 M.places, .int .i64 M.any.a0, .int .i64 M.any.a1, .int .i64 M.any.a2, .int .i64 M.any.a3, .int .i64 M.any.a4, .int .i64 M.any.a5, .bool M.any.i, .bool M.any.s, .int .i64 M.mw, .int .i64 M.ms, .int .i64 M.mc, vF, vS]
  l : Blk wr (w.heap.size + 1) 31 #[.int .i64 lw, .int .i64 ls, .int .i64 lc, .bool li, .bool lt]
theorem FiK.grow {M : MetD} {vF vS : Value} {lw ls lc : Int} {li lt : Bool} {w wr w2 : World} (h : FiK M vF vS lw ls lc li lt w wr) (hb : Below wr.heap.size wr w2) : FiK M vF vS lw ls lc li lt w w2 :=
  ⟨bthen h.b hb, h.m.below hb, h.l.below hb⟩
end Go.Proofs.YtbgkbdhdkpjcdaaGreat

namespace Go.Proofs.YtbgkbdhdkpjcdaaGreat
open Go Go.RowKit Go.Proofs
set_option maxRecDepth 100000
set_option maxHeartbeats 8000000

theorem RecsAt.frame {w w' : World} {A : Option Addr} {n k : Nat} {V : Nat → Nat → Value} (h : RecsAt w A n k V) (hs : w.heap.size ≤ w'.heap.size) (hf : 0 < n → ∀ b off, A = some ⟨b, off, none⟩ → w'.heap[b]? = w.heap[b]?) : RecsAt w' A n k V := by
  intro hn
  obtain ⟨b, off, rfl, hb, hc⟩ := h hn
  refine ⟨b, off, rfl, by omega, fun i hi j hj => ?_⟩
  rw [← hc i hi j hj]
  exact World.cell?_of_block (w := w) (hf hn b off rfl)
theorem Tryz.fcU : Tryz.prog.underlying 26 = some (.slice 77) := by kernel_rfl
def MetD.far (M : MetD) : Bool := decide (50 < M.n) || decide (30 < M.m)
theorem Tryz.sizeMet : (Tryz.prog.info? 29).map (·.size) = some 14 := by kernel_rfl
/-- A met under a store into a block that it does not lie in. -/
theorem MetAt.setRow {w : World} {vF vS : Value} {M : MetD} (h : MetAt w vF vS M) {g : Nat} (h1 : ∀ b, some b = vF.ownBlock → b ≠ g) (h2 : ∀ b, some b = vS.ownBlock → b ≠ g) (us : Array Value) : MetAt (w.setRow g us) vF vS M := by
  obtain ⟨⟨A, c, rfl, q1, q2, q3⟩, ⟨A', c', rfl, k1, k2, k3⟩⟩ := h
  exact ⟨⟨A, c, rfl, q1, q2, q3.frame (by simp [World.setRow]) (fun _ b off e => setRow_other _ _ _ _ (h1 b (by rw [e]; rfl)))⟩, ⟨A', c', rfl, k1, k2, k3.frame (by simp [World.setRow]) (fun _ b off e => setRow_other _ _ _ _ (h2 b (by rw [e]; rfl)))⟩⟩
end Go.Proofs.YtbgkbdhdkpjcdaaGreat

namespace Go.Proofs.YtbgkbdhdkpjcdaaGreat
open Go Go.RowKit Go.Proofs
set_option maxRecDepth 100000
set_option maxHeartbeats 8000000

end Go.Proofs.YtbgkbdhdkpjcdaaGreat

namespace Go.Proofs.YtbgkbdhdkpjcdaaGreat
open Go Go.RowKit Go.Proofs
set_option maxRecDepth 100000
set_option maxHeartbeats 8000000

theorem rw_from_c (n lo hi : Int) (w : World) : Calls Tryz.prog 64 #[.int .i64 n, .int .i64 lo, .int .i64 hi] w fun e w' => e = .returned (.bool (inB n lo hi)) ∧ w = w' := by
  unfold inB
  by_cases h1 : lo ≤ n <;> by_cases h2 : n ≤ hi
  all_goals
    go_enter Tryz.func64, Tryz.ntmps64
    go_wp2
    go_ret
    exact ⟨by simp [h1, h2], rfl⟩
theorem insB_rng {lo hi m : Int} : insB lo hi m = (vspan lo hi && (decide (0 ≤ lo) && decide (hi ≤ m))) := by
  rw [Bool.eq_iff_iff, insB_iff]
  simp only [Bool.and_eq_true, decide_eq_true_eq]
  rw [vspan_iff']
  omega
theorem rw_ranged_c (lo hi m : Int) (w : World) : Calls Tryz.prog 142 #[.agg #[.int .i64 lo, .int .i64 hi], .int .i64 m] w fun e w' => e = .returned (.bool (insB lo hi m)) ∧ Below w.heap.size w w' := by
  rw [insB_rng]
  have HV := Lib.hid (fun w1 => rf_Valid_c lo hi w1)
  generalize vspan lo hi = V at *
  cases V
  · go_enter Tryz.func142, Tryz.ntmps142
    go_wp2_with (fail)
    have bHX : Blk (w.alloc (.cells #[.int .i64 lo, .int .i64 hi] 23)) (w.heap.size) 23 #[.int .i64 lo, .int .i64 hi] := (by repeat (first | (refine Blk.newAt _ _ _ ?_; first | rfl | (simp; done)) | refine Blk.alloc ?_ _))
    have bHB : Below w.heap.size w (w.alloc (.cells #[.int .i64 lo, .int .i64 hi] 23)) := (by repeat' (first | exact Below.refl _ _ | assumption | refine Below.drew ?_ | refine bdn ?_ _ | refine bal ?_ _ | refine Below.setCell ?_ (by first | (simp; done) | omega | (simp; omega)) _))
    generalize (w.alloc (.cells #[.int .i64 lo, .int .i64 hi] 23)) = W at *
    have zW := bHX.lt
    have HX := Lib.hid bHX
    have HB := Lib.hid bHB
    clear bHX bHB
    go_wp2_with (first | (go_at_call 173; (with_reducible refine (HV.out _).mono ?_); rintro e w1 ⟨rfl, hb1⟩; have nHX := Lib.hid (HX.out.below hb1); have nHB := Lib.hid (bthen HB.out hb1); have zz1 := hb1.size; clear HX HB hb1; have HX := nHX; have HB := nHB; clear nHX nHB; (try clear zHX); have zHX := HX.out.lt; (try clear cHX0); have cHX0 := HX.out.cell 0; (try clear cHX1); have cHX1 := HX.out.cell 1))
    go_ret
    exact ⟨rfl, HB.out⟩
  · by_cases h1 : 0 ≤ lo <;> by_cases h2 : hi ≤ m
    all_goals
      go_enter Tryz.func142, Tryz.ntmps142
      go_wp2_with (fail)
      have bHX : Blk (w.alloc (.cells #[.int .i64 lo, .int .i64 hi] 23)) (w.heap.size) 23 #[.int .i64 lo, .int .i64 hi] := (by repeat (first | (refine Blk.newAt _ _ _ ?_; first | rfl | (simp; done)) | refine Blk.alloc ?_ _))
      have bHB : Below w.heap.size w (w.alloc (.cells #[.int .i64 lo, .int .i64 hi] 23)) := (by repeat' (first | exact Below.refl _ _ | assumption | refine Below.drew ?_ | refine bdn ?_ _ | refine bal ?_ _ | refine Below.setCell ?_ (by first | (simp; done) | omega | (simp; omega)) _))
      generalize (w.alloc (.cells #[.int .i64 lo, .int .i64 hi] 23)) = W at *
      have zW := bHX.lt
      have HX := Lib.hid bHX
      have HB := Lib.hid bHB
      clear bHX bHB
      go_wp2_with (first | (go_at_call 173; (with_reducible refine (HV.out _).mono ?_); rintro e w1 ⟨rfl, hb1⟩; have nHX := Lib.hid (HX.out.below hb1); have nHB := Lib.hid (bthen HB.out hb1); have zz1 := hb1.size; clear HX HB hb1; have HX := nHX; have HB := nHB; clear nHX nHB; (try clear zHX); have zHX := HX.out.lt; (try clear cHX0); have cHX0 := HX.out.cell 0; (try clear cHX1); have cHX1 := HX.out.cell 1))
      go_ret
      exact ⟨by simp [h1, h2], HB.out⟩
theorem rw_ValidSky_c (x : Sk) (w : World) : Calls Tryz.prog 91 #[.agg #[.int .i64 x.a0, .int .i64 x.a1, .int .i64 x.a2, .int .i64 x.a3, .int .i64 x.a4, .int .i64 x.a5, .bool x.i, .bool x.s]] w fun e w' => e = .returned (.bool x.inr) ∧ Below w.heap.size w w' := by
  obtain ⟨a0, a1, a2, a3, a4, a5, xi, xs⟩ := x
  have h1 := fun w1 => rw_ranged_c a0 a1 300 w1
  have h2 := fun w1 => rw_ranged_c a2 a3 20000 w1
  have h3 := fun w1 => rw_ranged_c a4 a5 20000 w1
  show Calls _ _ _ _ fun e w' => e = .returned (.bool (insB a0 a1 300 && (insB a2 a3 20000 && insB a4 a5 20000))) ∧ Below w.heap.size w w'
  dsimp only
  generalize insB a0 a1 300 = B1 at *
  generalize insB a2 a3 20000 = B2 at *
  generalize insB a4 a5 20000 = B3 at *
  have H1 := Lib.hid h1
  have H2 := Lib.hid h2
  have H3 := Lib.hid h3
  clear h1 h2 h3
  cases B1 <;> cases B2
  all_goals
    go_enter Tryz.func91, Tryz.ntmps91
    go_wp2_with (fail)
    have bHX : Blk (w.alloc (.cells #[.int .i64 a0, .int .i64 a1, .int .i64 a2, .int .i64 a3, .int .i64 a4, .int .i64 a5, .bool xi, .bool xs] 25)) (w.heap.size) 25 #[.int .i64 a0, .int .i64 a1, .int .i64 a2, .int .i64 a3, .int .i64 a4, .int .i64 a5, .bool xi, .bool xs] := (by repeat (first | (refine Blk.newAt _ _ _ ?_; first | rfl | (simp; done)) | refine Blk.alloc ?_ _))
    have bHB : Below w.heap.size w (w.alloc (.cells #[.int .i64 a0, .int .i64 a1, .int .i64 a2, .int .i64 a3, .int .i64 a4, .int .i64 a5, .bool xi, .bool xs] 25)) := (by repeat' (first | exact Below.refl _ _ | assumption | refine Below.drew ?_ | refine bdn ?_ _ | refine bal ?_ _ | refine Below.setCell ?_ (by first | (simp; done) | omega | (simp; omega)) _))
    generalize (w.alloc (.cells #[.int .i64 a0, .int .i64 a1, .int .i64 a2, .int .i64 a3, .int .i64 a4, .int .i64 a5, .bool xi, .bool xs] 25)) = W at *
    have zW := bHX.lt
    have HX := Lib.hid bHX
    have HB := Lib.hid bHB
    clear bHX bHB
    have zHX := HX.out.lt
    have cHX0 := HX.out.cell 0
    have cHX1 := HX.out.cell 1
    go_wp2_with (first | (go_at_call 142; (with_reducible refine (H1.out _).mono ?_); rintro e w1 ⟨rfl, hb1⟩; have nHX := Lib.hid (HX.out.below hb1); have nHB := Lib.hid (bthen HB.out hb1); have zz1 := hb1.size; clear HX HB hb1; have HX := nHX; have HB := nHB; clear nHX nHB; (try clear zHX); have zHX := HX.out.lt; (try clear cHX2); have cHX2 := HX.out.cell 2; (try clear cHX3); have cHX3 := HX.out.cell 3) | (go_at_call 142; (with_reducible refine (H2.out _).mono ?_); rintro e w1 ⟨rfl, hb1⟩; have nHX := Lib.hid (HX.out.below hb1); have nHB := Lib.hid (bthen HB.out hb1); have zz1 := hb1.size; clear HX HB hb1; have HX := nHX; have HB := nHB; clear nHX nHB; (try clear zHX); have zHX := HX.out.lt; (try clear cHX4); have cHX4 := HX.out.cell 4; (try clear cHX5); have cHX5 := HX.out.cell 5) | (go_at_call 142; (with_reducible refine (H3.out _).mono ?_); rintro e w1 ⟨rfl, hb1⟩; have nHX := Lib.hid (HX.out.below hb1); have nHB := Lib.hid (bthen HB.out hb1); have zz1 := hb1.size; clear HX HB hb1; have HX := nHX; have HB := nHB; clear nHX nHB))
    go_ret
    exact ⟨rfl, HB.out⟩
def wvB (a b c : Int) : Bool := inB a 0 300 && (inB b 0 20000 && inB c 0 20000)
theorem rw_ValidWeather_c (a b c : Int) (i s : Bool) (w : World) : Calls Tryz.prog 92 #[.agg #[.int .i64 a, .int .i64 b, .int .i64 c, .bool i, .bool s]] w fun e w' => e = .returned (.bool (wvB a b c)) ∧ Below w.heap.size w w' := by
  unfold wvB
  cases h1 : inB a 0 300 <;> cases h2 : inB b 0 20000
  all_goals
    go_enter Tryz.func92, Tryz.ntmps92
    go_wp2_with (first | (go_at_call 64; (with_reducible refine (rw_from_c _ _ _ _).mono ?_); rintro e w1 ⟨rfl, rfl⟩))
    go_ret
    exact ⟨rfl, (by repeat' (first | exact Below.refl _ _ | assumption | refine Below.drew ?_ | refine bdn ?_ _ | refine bal ?_ _ | refine Below.setCell ?_ (by first | (simp; done) | omega | (simp; omega)) _))⟩
theorem rw_Flyable_c (we se ce : Int) (ic st : Bool) (lw ls lc : Int) (li lt : Bool) (w : World) : Calls Tryz.prog 24 #[.agg #[.int .i64 we, .int .i64 se, .int .i64 ce, .bool ic, .bool st], .agg #[.int .i64 lw, .int .i64 ls, .int .i64 lc, .bool li, .bool lt]] w
    fun e w' => e = .returned (.bool (flyB we se ce ic st lw ls lc li lt)) ∧ Below w.heap.size w w' := by
  unfold flyB
  by_cases h1 : we ≤ lw
  · by_cases h2 : ls ≤ se
    · by_cases h3 : lc ≤ ce
      · cases ic <;> cases st <;> cases li <;> cases lt
        all_goals
          go_enter Tryz.func24, Tryz.ntmps24
          go_wp2
          go_ret
          exact ⟨ret_bool (by simp [h1, h2, h3]), (by repeat' (first | exact Below.refl _ _ | assumption | refine Below.drew ?_ | refine bdn ?_ _ | refine bal ?_ _ | refine Below.setCell ?_ (by first | (simp; done) | omega | (simp; omega)) _))⟩
      · have h3' : ce < lc := by omega
        go_enter Tryz.func24, Tryz.ntmps24
        go_wp2
        go_ret
        exact ⟨ret_bool (by rw [show decide (lc ≤ ce) = false from decide_eq_false (by omega)]; simp), (by repeat' (first | exact Below.refl _ _ | assumption | refine Below.drew ?_ | refine bdn ?_ _ | refine bal ?_ _ | refine Below.setCell ?_ (by first | (simp; done) | omega | (simp; omega)) _))⟩
    · have h2' : se < ls := by omega
      go_enter Tryz.func24, Tryz.ntmps24
      go_wp2
      go_ret
      exact ⟨ret_bool (by rw [show decide (ls ≤ se) = false from decide_eq_false (by omega)]; simp), (by repeat' (first | exact Below.refl _ _ | assumption | refine Below.drew ?_ | refine bdn ?_ _ | refine bal ?_ _ | refine Below.setCell ?_ (by first | (simp; done) | omega | (simp; omega)) _))⟩
  · have h1' : lw < we := by omega
    go_enter Tryz.func24, Tryz.ntmps24
    go_wp2
    go_ret
    exact ⟨ret_bool (by rw [show decide (we ≤ lw) = false from decide_eq_false (by omega)]; simp), (by repeat' (first | exact Below.refl _ _ | assumption | refine Below.drew ?_ | refine bdn ?_ _ | refine bal ?_ _ | refine Below.setCell ?_ (by first | (simp; done) | omega | (simp; omega)) _))⟩
end Go.Proofs.YtbgkbdhdkpjcdaaGreat
