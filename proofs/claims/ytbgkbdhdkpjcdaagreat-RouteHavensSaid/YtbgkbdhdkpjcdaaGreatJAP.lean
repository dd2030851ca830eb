/- Texts joined: JAP. -/
import Derived.Test.YtbgkbdhdkpjcdaaGreatJAO
import Derived.Test.YtbgkbdhdkpjcdaaGreatJAM
set_option linter.all false
namespace Go.Proofs.YtbgkbdhdkpjcdaaGreat
open Go Go.RowKit Go.Proofs
/-- Legs take a tick at least. -/
def LegPos (lt : Tab) : Prop := ∀ i j, lt i j = -1 ∨ 1 ≤ lt i j
theorem FliD.at_lt {F : FliD} {P : Nat} {lt : Tab} (hl : LegPos lt) : ∀ i j, i < j → F.flown P lt (j + 1) → F.at_ lt i < F.at_ lt j
  | i, 0, h, _ => absurd h (Nat.not_lt_zero _)
  | i, j + 1, h, hf => by
    have h1 := hf.2 j (by omega)
    have h2 := hl (F.R j).toNat (F.R (j + 1)).toNat
    have e : F.at_ lt (j + 1) = F.at_ lt j + lt (F.R j).toNat (F.R (j + 1)).toNat := rfl
    by_cases q : i = j
    · subst q; omega
    · have := FliD.at_lt hl i j (by omega) ⟨fun k hk => hf.1 k (by omega), fun k hk => hf.2 k (by omega)⟩
      omega
theorem FliD.ix_is {F : FliD} {P : Nat} {lt : Tab} {t : Int} (hl : LegPos lt) (hf : F.flown P lt F.m) (h0 : F.dep ≤ t) {k : Nat} (hk : k < F.m) (h1 : F.at_ lt k ≤ t) (h2 : k + 1 < F.m → t < F.at_ lt (k + 1)) : F.ix lt t (F.m - 1) = k := by
  have a1 := FliD.ix_le (F := F) (lt := lt) (t := t) (F.m - 1)
  have a2 := FliD.ix_at (F := F) (lt := lt) h0 (F.m - 1)
  have a3 := FliD.ix_lt (F := F) (lt := lt) (t := t) (F.m - 1)
  generalize F.ix lt t (F.m - 1) = i at *
  have mono := fun i j (hij : i < j) (hj : j < F.m) => FliD.at_lt hl i j hij ⟨fun q hq => hf.1 q (by omega), fun q hq => hf.2 q (by omega)⟩
  have monoe := fun i j (hij : i ≤ j) (hj : j < F.m) => show F.at_ lt i ≤ F.at_ lt j by
    by_cases q : i = j
    · subst q; exact Int.le_refl _
    · have := mono i j (by omega) hj; omega
  rcases Nat.lt_trichotomy i k with q | q | q
  · have h3 := a3 (by omega)
    have := monoe (i + 1) k (by omega) hk
    omega
  · exact q
  · have h3 := h2 (by omega)
    have := monoe (k + 1) i (by omega) (by omega)
    omega
/-- What the reference's Reach returns. -/
def FliD.refR (F : FliD) (lt tt : Tab) (t : Int) (p : Nat) : Int × Bool := if (F.reach lt tt t p).2.2 = true then ((F.reach lt tt t p).1, (F.reach lt tt t p).2.1) else (-1, false)
/-- Two places that a leg joins: either both lead to a place or none does. -/
def Joined (P : Nat) (lt tt : Tab) : Prop := ∀ a b p, a < P → b < P → p < P → 0 ≤ lt a b → (0 ≤ tt a p ↔ 0 ≤ tt b p)
theorem timT_joined {P l : Nat} {S : Tab} (h : NetOk P S l) : Joined P (lgT S l) (timT S l P) := by
  intro a b p ha hb hp h0
  have T := timT_tri h
  have hab : 0 ≤ timT S l P a b := by
    by_cases q : a = b
    · subst q; rw [T.dg a ha]; exact Int.le_refl _
    · have := T.leg a b ha hb (by unfold dgK; rw [if_neg (fun r => q r.1)]; exact h0)
      exact this.1
  have hba : 0 ≤ timT S l P b a := by rw [← T.sym a b ha hb]; exact hab
  exact ⟨fun h => (T.tri b p a hb hp ha ha hba h).1, fun h => (T.tri a p b ha hp hb hb hab h).1⟩
theorem lgT_pos {P l : Nat} {S : Tab} (h : NetOk P S l) : LegPos (lgT S l) := fun i j => by
  have := lgT_in h l (Nat.le_refl _) i j; omega
/-- At a place. -/
theorem FliD.refR_at {F : FliD} {P : Nat} {lt tt : Tab} {t : Int} {p k : Nat} (hl : LegPos lt) (hf : F.flown P lt F.m) (h0 : F.dep ≤ t) (hk : k < F.m) (h1 : F.at_ lt k = t) : F.refR lt tt t p = if 0 ≤ tt (F.R k).toNat p then (tt (F.R k).toNat p + t, false) else (-1, false) := by
  have hi := FliD.ix_is hl hf h0 hk (by omega) (fun h => by
    have := FliD.at_lt hl k (k + 1) (by omega) ⟨fun q hq => hf.1 q (by omega), fun q hq => hf.2 q (by omega)⟩
    omega)
  unfold FliD.refR FliD.reach
  rw [hi]
  dsimp only
  rw [if_pos h1.symm]
  dsimp only
  rw [h1]
  by_cases q : 0 ≤ tt (F.R k).toNat p
  · rw [if_pos (decide_eq_true q), if_pos q, show t + (t - t) + tt (F.R k).toNat p = tt (F.R k).toNat p + t by omega, decide_eq_false (Int.lt_irrefl t)]
  · rw [if_neg q, if_neg (by simpa using q)]
/-- Between two places. -/
theorem FliD.refR_on {F : FliD} {P : Nat} {lt tt : Tab} {t : Int} {p k : Nat} (hl : LegPos lt) (hj : Joined P lt tt) (hp : p < P) (hf : F.flown P lt F.m) (h0 : F.dep ≤ t) (hk : k + 1 < F.m) (h1 : F.at_ lt k < t) (h2 : t < F.at_ lt (k + 1)) :
    F.refR lt tt t p = if tt (F.R k).toNat p < 0 then (-1, false) else if t + (t - F.at_ lt k) + tt (F.R k).toNat p < F.at_ lt (k + 1) + tt (F.R (k + 1)).toNat p then (t + (t - F.at_ lt k) + tt (F.R k).toNat p, true) else (F.at_ lt (k + 1) + tt (F.R (k + 1)).toNat p, false) := by
  have hi := FliD.ix_is hl hf h0 (by omega) (by omega) (fun _ => h2)
  have hr1 := hf.1 k (by omega)
  have hr2 := hf.1 (k + 1) hk
  have hJ := hj (F.R k).toNat (F.R (k + 1)).toNat p (by omega) (by omega) hp (hf.2 k hk)
  unfold FliD.refR FliD.reach
  rw [hi]
  dsimp only
  rw [if_neg (show ¬ t = F.at_ lt k by omega)]
  by_cases c : t + (t - F.at_ lt k) + tt (F.R k).toNat p < F.at_ lt (k + 1) + tt (F.R (k + 1)).toNat p
  · rw [if_pos c]
    dsimp only
    by_cases q : tt (F.R k).toNat p < 0
    · rw [if_pos q, if_neg (by simp; omega)]
    · rw [if_neg q, if_pos (by simp; omega), decide_eq_true h1, if_pos c]
  · rw [if_neg c]
    dsimp only
    by_cases q : tt (F.R k).toNat p < 0
    · rw [if_pos q, if_neg (by simp; omega)]
    · rw [if_neg q, if_pos (by simp; omega), if_neg c]
end Go.Proofs.YtbgkbdhdkpjcdaaGreat

namespace Go.Proofs.YtbgkbdhdkpjcdaaGreat
open Go Go.RowKit Go.Proofs
set_option maxRecDepth 100000
set_option maxHeartbeats 8000000
theorem r5lasts_c (F : FliD) (vR : Value) (t : Int) (w : World) (hn : F.nums = true) (ht : -1000000 ≤ t ∧ t ≤ 1000000) :
   Calls Tryz.prog 99 #[.agg #[vR, .int .i64 F.dep, .int .i64 F.fuel, .int .i64 F.burn, .int .i64 F.res], .int .i64 t] w fun e w' => e = .returned (.bool (F.lasts t)) ∧ RowKit.Below w.heap.size w w' := by
  obtain ⟨hm, hd, hf, hr, hb⟩ := FliD.nums_iff.1 hn
  unfold FliD.lasts
  generalize F.dep = dp at *
  generalize F.fuel = fu at *
  generalize F.burn = bu at *
  generalize F.res = re at *
  have hw1 : IntKind.i64.wrap (t - dp) = t - dp := by rw [IntKind.wrap_i64]; omega
  have hD : -1002000 ≤ t - dp ∧ t - dp ≤ 1002000 := by omega
  have hbd := mul_bd (A := 100000) (B := 1002000) (a := bu) (b := t - dp) (by omega) (by omega) hD.1 hD.2
  have hw2 : IntKind.i64.wrap (bu * (t - dp)) = bu * (t - dp) := by rw [IntKind.wrap_i64]; omega
  have hw3 : IntKind.i64.wrap (fu - bu * (t - dp)) = fu - bu * (t - dp) := by rw [IntKind.wrap_i64]; omega
  clear hbd hD hm hd hf hr hb ht hn
  go_enter Tryz.func99, Tryz.ntmps99
  go_wp2_with (fail)
  go_ret
  exact ⟨ret_bool (by simp), (by repeat' (first | exact Below.refl _ _ | assumption | refine Below.drew ?_ | refine bdn ?_ _ | refine bal ?_ _ | refine Below.setCell ?_ (by first | (simp; done) | omega | (simp; omega)) _))⟩
theorem r5Reach_c (M : MetD) (vF vS : Value) (A : Option Addr) (n c : Nat) (S : Tab) (P : Nat) (F : FliD) (vR : Value) (t : Int) (p : Nat) (w : World) (hc1 : n ≤ c) (hc2 : c ≤ 9223372036854775807) (hL : RecsAt w A n 3 (nV S)) (hR : SlI w vR F.m F.R) (hok : F.ok P (lgT S n)) (hN : NetOk P S n) (hMP : M.places = P) (hp8 : 1 ≤ P ∧ P ≤ 8) (hp : p < P) (h0 : F.dep ≤ t) (h1 : t ≤ F.at_ (lgT S n) (F.m - 1)) :
   Calls Tryz.prog 55 #[.agg #[.int .i64 M.places, .int .i64 M.any.a0, .int .i64 M.any.a1, .int .i64 M.any.a2, .int .i64 M.any.a3, .int .i64 M.any.a4, .int .i64 M.any.a5, .bool M.any.i, .bool M.any.s, .int .i64 M.mw, .int .i64 M.ms, .int .i64 M.mc, vF, vS], .slice A n c, .agg #[vR, .int .i64 F.dep, .int .i64 F.fuel, .int .i64 F.burn, .int .i64 F.res], .int .i64 t, .int .i64 p] w fun e w' => e = .returned (.tuple #[.int .i64 (F.refR (lgT S n) (timT S n P) t p).1, .bool (F.refR (lgT S n) (timT S n P) t p).2]) ∧ RowKit.Below w.heap.size w w' := by
  obtain ⟨hnu, hfl, hend⟩ := hok
  obtain ⟨hm, hd, -⟩ := FliD.nums_iff.1 hnu
  have hlb := FliD.legB_iff.2 hfl.2
  have hflc := fun w1 h1 h2 => r5flown_c A n c S P F vR w1 hc1 hc2 h1 h2 hN hm hd hfl.1
  rw [hlb] at hflc
  have htic := fun w1 h1 => r5times_c M vF vS A n c S P w1 hc1 hc2 h1 hN hMP hp8
  have hlin : LegIn P (lgT S n) := fun i j => by have := lgT_in hN n (Nat.le_refl _) i j; omega
  have hlp := lgT_pos hN
  have hjo := timT_joined hN
  have hti := timT_in hN hp8.2
  generalize lgT S n = lt at *
  generalize timT S n P = tt at *
  have hat := fun i (hi : i < F.m) => FliD.at_in hlin hd i ⟨fun j hj => hfl.1 j (by omega), fun j hj => hfl.2 j (by omega)⟩
  have HFL := Lib.hid hflc
  have HTI := Lib.hid htic
  have HRA := Lib.hid (fun k hk h1 => FliD.refR_at (F := F) (tt := tt) (t := t) (p := p) (k := k) hlp hfl h0 hk h1)
  have HRO := Lib.hid (fun k hk h1 h2 => FliD.refR_on (F := F) (tt := tt) (t := t) (p := p) (k := k) hlp hjo hp hfl h0 hk h1 h2)
  have HJ := Lib.hid hjo
  have HTT := Lib.hid hti.1
  have HFB := Lib.hid hfl
  have HAT := Lib.hid hat
  have HL := Lib.hid hL
  have HR := Lib.hid hR
  have HDP := Lib.hid h0
  obtain ⟨RR, hRR⟩ : ∃ q, q = F.refR lt tt t p := ⟨_, rfl⟩
  rw [← hRR]
  have HRR := Lib.hid hRR
  clear hRR
  obtain ⟨AR, cR, hvR, r1, r2, r3⟩ := hR
  obtain ⟨bR, oR, rfl, hbR, hcR⟩ := r3 (by omega)
  have HVR := Lib.hid hvR
  clear hvR
  have HCR := Lib.hid hcR
  clear hL hcR hti hjo hlp hlin hat hflc htic hlb hfl hnu hd hN hMP hend h0 r3
  go_enter Tryz.func55, Tryz.ntmps55
  go_wp2_with (fail)
  have bHX : Blk ((w.alloc (.cells #[.int .i64 M.places, .int .i64 M.any.a0, .int .i64 M.any.a1, .int .i64 M.any.a2, .int .i64 M.any.a3, .int .i64 M.any.a4, .int .i64 M.any.a5, .bool M.any.i, .bool M.any.s, .int .i64 M.mw, .int .i64 M.ms, .int .i64 M.mc, vF, vS] 29)).alloc (.cells #[vR, .int .i64 F.dep, .int .i64 F.fuel, .int .i64 F.burn, .int .i64 F.res] 37)) (w.heap.size) 29 #[.int .i64 M.places, .int .i64 M.any.a0, .int .i64 M.any.a1, .int .i64 M.any.a2, .int .i64 M.any.a3, .int .i64 M.any.a4, .int .i64 M.any.a5, .bool M.any.i, .bool M.any.s, .int .i64 M.mw, .int .i64 M.ms, .int .i64 M.mc, vF, vS] := (by repeat (first | (refine Blk.newAt _ _ _ ?_; first | rfl | (simp; done)) | refine Blk.alloc ?_ _))
  have bHF : Blk ((w.alloc (.cells #[.int .i64 M.places, .int .i64 M.any.a0, .int .i64 M.any.a1, .int .i64 M.any.a2, .int .i64 M.any.a3, .int .i64 M.any.a4, .int .i64 M.any.a5, .bool M.any.i, .bool M.any.s, .int .i64 M.mw, .int .i64 M.ms, .int .i64 M.mc, vF, vS] 29)).alloc (.cells #[vR, .int .i64 F.dep, .int .i64 F.fuel, .int .i64 F.burn, .int .i64 F.res] 37)) (w.heap.size + 1) 37 #[vR, .int .i64 F.dep, .int .i64 F.fuel, .int .i64 F.burn, .int .i64 F.res] := (by repeat (first | (refine Blk.newAt _ _ _ ?_; first | rfl | (simp; done)) | refine Blk.alloc ?_ _))
  have bHB : Below w.heap.size w ((w.alloc (.cells #[.int .i64 M.places, .int .i64 M.any.a0, .int .i64 M.any.a1, .int .i64 M.any.a2, .int .i64 M.any.a3, .int .i64 M.any.a4, .int .i64 M.any.a5, .bool M.any.i, .bool M.any.s, .int .i64 M.mw, .int .i64 M.ms, .int .i64 M.mc, vF, vS] 29)).alloc (.cells #[vR, .int .i64 F.dep, .int .i64 F.fuel, .int .i64 F.burn, .int .i64 F.res] 37)) := (by repeat' (first | exact Below.refl _ _ | assumption | refine Below.drew ?_ | refine bdn ?_ _ | refine bal ?_ _ | refine Below.setCell ?_ (by first | (simp; done) | omega | (simp; omega)) _))
  generalize ((w.alloc (.cells #[.int .i64 M.places, .int .i64 M.any.a0, .int .i64 M.any.a1, .int .i64 M.any.a2, .int .i64 M.any.a3, .int .i64 M.any.a4, .int .i64 M.any.a5, .bool M.any.i, .bool M.any.s, .int .i64 M.mw, .int .i64 M.ms, .int .i64 M.mc, vF, vS] 29)).alloc (.cells #[vR, .int .i64 F.dep, .int .i64 F.fuel, .int .i64 F.burn, .int .i64 F.res] 37)) = W at *
  have zW := bHF.lt
  have HX := Lib.hid bHX
  have HF := Lib.hid bHF
  have HB := Lib.hid bHB
  clear bHX bHF bHB
  go_wp2_with (refine wpl_row rfl 37 (.tmp 7) rfl _ rfl #[vR, .int .i64 F.dep, .int .i64 F.fuel, .int .i64 F.burn, .int .i64 F.res] 5 HF.out Tryz.rowFli rfl ?_; simp only [Act.put])
  refine (HFL.out _ (HL.out.below HB.out) (HR.out.below HB.out)).mono ?_
  rintro e w2 ⟨v, rfl, hb2, hv⟩
  have HSA := Lib.hid (hv (by trivial))
  obtain ⟨A2, c2, rfl, e2, e3, e4⟩ := HSA.out
  clear hv e4
  have nHX := Lib.hid (HX.out.below hb2)
  have nHF := Lib.hid (HF.out.below hb2)
  have nHB := Lib.hid (bthen HB.out hb2)
  clear HX HF HB hb2
  have HX := nHX
  have HF := nHF
  have HB := nHB
  clear nHX nHF nHB
  go_wp2_with (refine wpl_row rfl 29 (.tmp 5) rfl _ rfl #[.int .i64 M.places, .int .i64 M.any.a0, .int .i64 M.any.a1, .int .i64 M.any.a2, .int .i64 M.any.a3, .int .i64 M.any.a4, .int .i64 M.any.a5, .bool M.any.i, .bool M.any.s, .int .i64 M.mw, .int .i64 M.ms, .int .i64 M.mc, vF, vS] 14 HX.out Tryz.rowMet rfl ?_; simp only [Act.put])
  refine (HTI.out _ (HL.out.below HB.out)).mono ?_
  rintro e w3 ⟨v, rfl, hb3, hv⟩
  obtain ⟨gT, cT, lo, hi, rT, rfl, hs⟩ := hv
  have HSQ := Lib.hid hs
  have hsa := HSA.out.below hb3
  clear hs HSA
  obtain ⟨A3, c3, e5, -, -, e6⟩ := hsa
  simp only [Value.slice.injEq] at e5
  obtain ⟨rfl, -, rfl⟩ := e5
  obtain ⟨b2, o2, rfl, hbb, hc2⟩ := e6 (by omega)
  have HC := Lib.hid (fun j (hj : j < F.m) => show w3.cell? ⟨b2, o2 + j, none⟩ = some (.int .i64 (F.at_ lt j)) from by have := hc2 j hj 0 (by omega); rw [Nat.mul_one, Nat.add_zero] at this; exact this)
  clear hc2 e6 hbb
  have nHX := Lib.hid (HX.out.below hb3)
  have nHF := Lib.hid (HF.out.below hb3)
  have nHB := Lib.hid (bthen HB.out hb3)
  clear HX HF HB hb3
  have HX := nHX
  have HF := nHF
  have HB := nHB
  clear nHX nHF nHB
  have HCR2 := Lib.hid (fun j (hj : j < F.m) => show w3.cell? ⟨bR, oR + j, none⟩ = some (.int .i64 (F.R j)) from (HB.out.cell (p := ⟨bR, oR + j, none⟩) hbR).trans (by have := HCR.out j hj 0 (by omega); rw [Nat.mul_one, Nat.add_zero] at this; exact this))
  clear HCR HR HL HFL HTI
  have x0 := HF.out.cell 0
  simp only [List.getElem?_toArray, List.getElem?_cons_zero] at x0
  rw [HVR.out] at x0
  go_wp2_with (fail)
  go_loopg [15] F.m (fun gy iv wr => ∃ i : Nat, iv = .int .i64 i ∧ i < F.m ∧ F.m - i ≤ gy ∧ Hid (∀ j, j < i → F.at_ lt j < t) ∧ wr = w3)
  case atStart => exact ⟨0, rfl, by omega, Nat.sub_le _ _, Lib.hid (fun j hj => absurd hj (Nat.not_lt_zero _)), rfl⟩
  case round =>
    obtain ⟨i, rfl, hi, hgy, HLS, rfl⟩ := hrel
    have ca := HC.out i hi
    have hiz : (i : Int) < (F.m : Int) := by omega
    have hai := HAT.out i hi
    have hpz : (p : Int) < (P : Int) := by omega
    by_cases hc : F.at_ lt i < t
    case pos =>
      have him : i + 1 < F.m := by
        rcases Nat.lt_or_ge (i + 1) F.m with q | q
        · exact q
        · have e : F.m - 1 = i := by omega
          rw [e] at h1; omega
      have HLS2 := Lib.hid (fun j (hj : j < i + 1) => show F.at_ lt j < t by
        by_cases q : j = i
        · subst q; exact hc
        · exact HLS.out j (by omega))
      generalize F.at_ lt i = D at *
      go_wp2_with (fail)
      go_roundg (F.m - (i + 1))
      case measure => omega
      case rel => exact ⟨i + 1, by first | rfl | go_num | (congr 1; omega), him, Nat.le_refl _, HLS2, rfl⟩
    have hri := HFB.out.1 i hi
    obtain ⟨a, ha⟩ : ∃ a : Nat, F.R i = a := Int.eq_ofNat_of_zero_le hri.1
    have haP : a < P := by omega
    have haz : (a : Int) < (P : Int) := by omega
    have cr := HCR2.out i hi
    rw [ha] at cr
    obtain ⟨ca2, -, -, co⟩ := HSQ.out.o a haP
    have cc := HSQ.out.cell haP hp
    have hbu := HTT.out a haP p hp
    by_cases heq : F.at_ lt i = t
    case pos =>
      have hre := HRR.out.trans (HRA.out i hi heq)
      rw [ha, Int.toNat_natCast] at hre
      rw [heq] at ca hai
      generalize tt a p = u at *
      by_cases hu : 0 ≤ u
      · rw [if_pos hu] at hre
        have HE := Lib.hid hre
        clear hre
        go_wp2_with (fail)
        go_ret2
        exact ⟨by rw [HE.out]; rfl, HB.out⟩
      · rw [if_neg hu] at hre
        have HE := Lib.hid hre
        clear hre
        obtain rfl : u = -1 := by omega
        go_wp2_with (fail)
        go_ret2
        exact ⟨by rw [HE.out]; rfl, HB.out⟩
    obtain ⟨k, rfl⟩ : ∃ k, i = k + 1 := by
      rcases i with _ | k
      · exact absurd (show F.at_ lt 0 = t from by have := HDP.out; have e : F.at_ lt 0 = F.dep := rfl; omega) heq
      · exact ⟨k, rfl⟩
    have hkt := HLS.out k (by omega)
    have hre := HRR.out.trans (HRO.out k hi hkt (by omega))
    have hrk := HFB.out.1 k (by omega)
    obtain ⟨b, hb⟩ : ∃ b : Nat, F.R k = b := Int.eq_ofNat_of_zero_le hrk.1
    have hbP : b < P := by omega
    have hbz : (b : Int) < (P : Int) := by omega
    have crk := HCR2.out k (by omega)
    rw [hb] at crk
    have cak := HC.out k (by omega)
    have hak := HAT.out k (by omega)
    obtain ⟨cb2, -, -, cob⟩ := HSQ.out.o b hbP
    have ccb := HSQ.out.cell hbP hp
    have hbv := HTT.out b hbP p hp
    have hJ := HJ.out b a p hbP haP hp (by have := HFB.out.2 k hi; rw [hb, ha] at this; exact this)
    rw [ha, hb, Int.toNat_natCast, Int.toNat_natCast] at hre
    clear ha hb hri hrk
    have hk1 : (k : Int) + 1 - 1 = (k : Int) := by omega
    have hkm : (k : Int) < (F.m : Int) := by omega
    generalize tt a p = u at *
    generalize tt b p = v at *
    generalize F.at_ lt (k + 1) = D1 at *
    generalize F.at_ lt k = D0 at *
    have hwk : IntKind.i64.wrap ((k : Int) + 1 - 1) = (k : Int) := by rw [IntKind.wrap_i64]; omega
    by_cases hv : v < 0
    · rw [if_pos hv] at hre
      have HE := Lib.hid hre
      clear hre
      obtain rfl : v = -1 := by omega
      obtain rfl : u = -1 := by omega
      go_wp2_with (fail)
      go_ret2
      exact ⟨by rw [HE.out]; rfl, HB.out⟩
    rw [if_neg hv] at hre
    have hu : 0 ≤ u := hJ.1 (by omega)
    by_cases hcm : t + (t - D0) + v < D1 + u
    · rw [if_pos hcm] at hre
      have HE := Lib.hid (show RR = (v + (t + (t - D0)), true) by rw [hre]; congr 1; omega)
      clear hre
      have hcm2 : v + (t + (t - D0)) < u + D1 := by omega
      go_wp2_with (fail)
      go_ret2
      exact ⟨by rw [HE.out]; rfl, HB.out⟩
    · rw [if_neg hcm] at hre
      have HE := Lib.hid (show RR = (u + D1, false) by rw [hre]; congr 1; omega)
      clear hre
      have hcm2 : ¬ v + (t + (t - D0)) < u + D1 := by omega
      go_wp2_with (fail)
      go_ret2
      exact ⟨by rw [HE.out]; rfl, HB.out⟩
end Go.Proofs.YtbgkbdhdkpjcdaaGreat
