/- Contract: Middle of package route. -/
import Derived.Test.YtbgkbdhdkpjcdaaGreatNbN
set_option linter.all false
namespace Go.Proofs.YtbgkbdhdkpjcdaaGreat
open Go Go.RowKit Go.Proofs
set_option maxRecDepth 100000
set_option maxHeartbeats 8000000
/-- The first tick that g takes, else the n-th behind t. -/
def midR (g : Int → Bool) : Nat → Int → Int
  | 0, t => t
  | n + 1, t => if g t then t else midR g n (t + 1)
/-- Whether the first place is not nearer than the last one. -/
def FliD.midG (F : FliD) (lt tt : Tab) (t : Int) : Bool := decide ((F.reach lt tt t (F.R (F.m - 1)).toNat).1 ≤ (F.reach lt tt t (F.R 0).toNat).1)
def midE (NE : Int) (S : Tab) (n P : Nat) (F : FliD) : Int × Int :=
  if NE = 0 then (midR (F.midG (lgT S n) (timT S n P)) (F.arr (lgT S n) - F.dep).toNat F.dep, 0) else (0, NE)
/-- When it arrives. -/
theorem FliD.midG_end {F : FliD} {P : Nat} {lt tt : Tab} (hok : F.ok P lt) (hl : LegPos lt) (hj : Joined P lt tt) (hd : ∀ i, i < P → tt i i = 0) : F.midG lt tt (F.arr lt) = true := by
  have hm := (FliD.nums_iff.1 hok.1).1.1
  have hdl := FliD.dep_le hok
  have hr := hok.2.1.1 (F.m - 1) (by omega)
  have hi := FliD.ix_is (F := F) (t := F.arr lt) hl hok.2.1 hdl (k := F.m - 1) (by omega) (Int.le_refl _) (fun h => by omega)
  have ha := FliD.all_joined hok.2.1 hj hd (k0 := 0) (by omega) (F.m - 1) (by omega)
  have hz := hd (F.R (F.m - 1)).toNat (by omega)
  unfold FliD.midG FliD.reach
  rw [hi]
  dsimp only
  have e : F.arr lt = F.at_ lt (F.m - 1) := rfl
  rw [if_pos e, if_pos e]
  dsimp only
  rw [hz]
  exact decide_eq_true (by omega)
theorem rMiddle_c (M : MetD) (vF vS : Value) (A : Option Addr) (n c : Nat) (S : Tab) (F : FliD) (vR : Value) (w : World) (hM : MetAt w vF vS M) (hc1 : n ≤ c) (hc2 : c ≤ 9223372036854775807) (hL : RecsAt w A n 3 (nV S)) (hR : SlI w vR F.m F.R) :
   Calls Tryz.prog 47 #[.agg #[.int .i64 M.places, .int .i64 M.any.a0, .int .i64 M.any.a1, .int .i64 M.any.a2, .int .i64 M.any.a3, .int .i64 M.any.a4, .int .i64 M.any.a5, .bool M.any.i, .bool M.any.s, .int .i64 M.mw, .int .i64 M.ms, .int .i64 M.mc, vF, vS], .slice A n c, .agg #[vR, .int .i64 F.dep, .int .i64 F.fuel, .int .i64 F.burn, .int .i64 F.res]] w fun e w' => e = .returned (.tuple #[.int .i64 (midE (nfE (netE M S n) M S n F) S n M.places.toNat F).1, .int .i64 (midE (nfE (netE M S n) M S n F) S n M.places.toNat F).2]) ∧ RowKit.Below w.heap.size w w' := by
  have HM := Lib.hid hM
  have HL := Lib.hid hL
  have HR := Lib.hid hR
  have HNN := Lib.hid (fun w1 h1 h2 h3 => newFlightN_c M vF vS A n c S F vR w1 h1 hc1 hc2 h2 h3)
  have tok : True := trivial
  have tok2 : True := trivial
  have hok := fun h => nfN_ok (M := M) (S := S) (n := n) (F := F) h
  generalize nfE (netE M S n) M S n F = NE at *
  unfold midE
  by_cases h0 : NE = 0
  case neg =>
    rw [if_neg h0]
    have hz : (NE != 0) = true := by simpa using h0
    clear hM hL hR h0 hok
    go_enter Tryz.func47, Tryz.ntmps47
    go_wp2_with (fail)
    have _x := frm2 w #[.int .i64 M.places, .int .i64 M.any.a0, .int .i64 M.any.a1, .int .i64 M.any.a2, .int .i64 M.any.a3, .int .i64 M.any.a4, .int .i64 M.any.a5, .bool M.any.i, .bool M.any.s, .int .i64 M.mw, .int .i64 M.ms, .int .i64 M.mc, vF, vS] 29 #[vR, .int .i64 F.dep, .int .i64 F.fuel, .int .i64 F.burn, .int .i64 F.res] 37
    have HX := Lib.hid _x.1
    have HF := Lib.hid _x.2.1
    have HB := Lib.hid _x.2.2.1
    have zW := _x.2.2.2
    clear _x
    generalize World.alloc (World.alloc w _) _ = W at *
    go_wp2_with (first | (have _t := tok; refine wpl_row rfl 29 (.tmp 3) rfl _ rfl #[.int .i64 M.places, .int .i64 M.any.a0, .int .i64 M.any.a1, .int .i64 M.any.a2, .int .i64 M.any.a3, .int .i64 M.any.a4, .int .i64 M.any.a5, .bool M.any.i, .bool M.any.s, .int .i64 M.mw, .int .i64 M.ms, .int .i64 M.mc, vF, vS] 14 HX.out Tryz.rowMet rfl ?_; simp only [Act.put]; clear tok) | (have _t := tok2; refine wpl_row rfl 37 (.tmp 5) rfl _ rfl #[vR, .int .i64 F.dep, .int .i64 F.fuel, .int .i64 F.burn, .int .i64 F.res] 5 HF.out Tryz.rowFli rfl ?_; simp only [Act.put]; clear tok2) | (go_at_call 86; (with_reducible refine (HNN.out _ (HM.out.below HB.out) (HL.out.below HB.out) (HR.out.below HB.out)).mono ?_); rintro e w1 ⟨v, rfl, hb1⟩; (obtain ⟨hb1, -⟩ := hb1); have nHX := Lib.hid (HX.out.below hb1); have nHF := Lib.hid (HF.out.below hb1); have nHB := Lib.hid (bthen HB.out hb1); have zz1 := hb1.size; clear HX HF HB hb1; have HX := nHX; have HF := nHF; have HB := nHB; clear nHX nHF nHB))
    go_ret2
    exact ⟨rfl, HB.out⟩
  subst h0
  rw [if_pos rfl]
  obtain ⟨f3, f4, f5, f6, f7⟩ := hok rfl
  have hti := timT_in f6 f4.2
  have hn8 := FliD.nums_iff.1 f7.1
  obtain ⟨m1, hm1⟩ : ∃ m1, m1 = F.m - 1 := ⟨_, rfl⟩
  have hr0 := f7.2.1.1 0 (by omega)
  have hrm := f7.2.1.1 m1 (by omega)
  obtain ⟨p, hp⟩ : ∃ p : Nat, F.R 0 = p := Int.eq_ofNat_of_zero_le hr0.1
  obtain ⟨q, hq⟩ : ∃ q : Nat, F.R m1 = q := Int.eq_ofNat_of_zero_le hrm.1
  have hpP : p < M.places.toNat := by omega
  have hqP : q < M.places.toNat := by omega
  have hdl := FliD.dep_le f7
  have HRE := Lib.hid (fun (x : Nat) (hx : x < M.places.toNat) v vN t w1 h h0 h1 => reach_c M vF vS v vN M.places.toNat (lgT S n) (timT S n M.places.toNat) F vR 0 0 0 false false t x w1 h f7 f5 hti hx h0 h1)
  have HAR := Lib.hid (fun v vN w1 h => arrival_c M vF vS v vN M.places.toNat (lgT S n) (timT S n M.places.toNat) F vR 0 0 0 false false w1 h hn8.1.1)
  have har : F.at_ (lgT S n) (F.m - 1) = F.arr (lgT S n) := rfl
  have hend := f7.2.2
  rw [har] at HRE HAR hend
  obtain ⟨RES, hRES⟩ : ∃ z, z = midR (F.midG (lgT S n) (timT S n M.places.toNat)) (F.arr (lgT S n) - F.dep).toNat F.dep := ⟨_, rfl⟩
  rw [← hRES]
  obtain ⟨nn, hnn⟩ : ∃ nn, nn = (F.arr (lgT S n) - F.dep).toNat := ⟨_, rfl⟩
  rw [← hnn] at hRES
  have hnz : (nn : Int) = F.arr (lgT S n) - F.dep := by omega
  have HRES := Lib.hid (show midR (F.midG (lgT S n) (timT S n M.places.toNat)) (nn - 0) (F.dep + (0 : Nat)) = RES by rw [hRES, Nat.sub_zero]; simp)
  have HG := Lib.hid (fun t => show F.midG (lgT S n) (timT S n M.places.toNat) t = decide ((F.reach (lgT S n) (timT S n M.places.toNat) t q).1 ≤ (F.reach (lgT S n) (timT S n M.places.toNat) t p).1) by unfold FliD.midG; rw [← hm1, hp, hq, Int.toNat_natCast, Int.toNat_natCast])
  obtain ⟨AR, cR, hvR, r1, r2, r3⟩ := hR
  obtain ⟨bR, oR, rfl, hbR, hcR⟩ := r3 (by omega)
  have HVR := Lib.hid hvR
  have HCP := Lib.hid (show w.cell? ⟨bR, oR, none⟩ = some (.int .i64 (p : Int)) by rw [← hp]; exact hcR 0 (by omega) 0 (by omega))
  have HCQ := Lib.hid (show w.cell? ⟨bR, oR + m1, none⟩ = some (.int .i64 (q : Int)) by rw [← hq]; have := hcR m1 (by omega) 0 (by omega); rw [Nat.mul_one, Nat.add_zero] at this; exact this)
  have hm0 : (0 : Int) < (F.m : Int) := by omega
  have hmz : IntKind.i64.wrap ((F.m : Int) - 1) = (m1 : Int) := by rw [IntKind.wrap_i64]; omega
  have hmz2 : (m1 : Int) < (F.m : Int) := by omega
  have hd0 := hn8.2.1
  clear hM hL hvR r3 hcR hRES hnn har f3 f4 f5 f6 f7 hti hr0 hrm hok hm1 hp hq
  go_enter Tryz.func47, Tryz.ntmps47
  go_wp2_with (fail)
  have _x := frm2 w #[.int .i64 M.places, .int .i64 M.any.a0, .int .i64 M.any.a1, .int .i64 M.any.a2, .int .i64 M.any.a3, .int .i64 M.any.a4, .int .i64 M.any.a5, .bool M.any.i, .bool M.any.s, .int .i64 M.mw, .int .i64 M.ms, .int .i64 M.mc, vF, vS] 29 #[vR, .int .i64 F.dep, .int .i64 F.fuel, .int .i64 F.burn, .int .i64 F.res] 37
  have HX := Lib.hid _x.1
  have HF := Lib.hid _x.2.1
  have HB := Lib.hid _x.2.2.1
  have zW := _x.2.2.2
  clear _x
  generalize World.alloc (World.alloc w _) _ = W at *
  go_wp2_with (first | (have _t := tok; refine wpl_row rfl 29 (.tmp 3) rfl _ rfl #[.int .i64 M.places, .int .i64 M.any.a0, .int .i64 M.any.a1, .int .i64 M.any.a2, .int .i64 M.any.a3, .int .i64 M.any.a4, .int .i64 M.any.a5, .bool M.any.i, .bool M.any.s, .int .i64 M.mw, .int .i64 M.ms, .int .i64 M.mc, vF, vS] 14 HX.out Tryz.rowMet rfl ?_; simp only [Act.put]; clear tok) | (have _t := tok2; refine wpl_row rfl 37 (.tmp 5) rfl _ rfl #[vR, .int .i64 F.dep, .int .i64 F.fuel, .int .i64 F.burn, .int .i64 F.res] 5 HF.out Tryz.rowFli rfl ?_; simp only [Act.put]; clear tok2))
  refine (HNN.out _ (HM.out.below HB.out) (HL.out.below HB.out) (HR.out.below HB.out)).mono ?_
  rintro e w2 ⟨v, rfl, hb2, hv⟩
  obtain ⟨vN, hfa⟩ := hv rfl
  have HFA := Lib.hid hfa
  obtain ⟨gx, vA, rfl, -⟩ := hfa
  clear hv HX HL HR HM HNN
  have nHF := Lib.hid (HF.out.below hb2)
  have nHB := Lib.hid (bthen HB.out hb2)
  clear HF HB hb2
  have HF := nHF
  have HB := nHB
  clear nHF nHB
  have x1 := HF.out.cell 1
  simp only [List.getElem?_toArray, List.getElem?_cons_succ, List.getElem?_cons_zero] at x1
  have HW0 := Lib.hid (RowKit.Below.refl w2.heap.size w2)
  go_wp2_with (fail)
  go_loopg [10] nn (fun gy iv wr => ∃ j : Nat, iv = .int .i64 (F.dep + j) ∧ j ≤ nn ∧ nn - j ≤ gy ∧ Hid (midR (F.midG (lgT S n) (timT S n M.places.toNat)) (nn - j) (F.dep + j) = RES) ∧ Hid (RowKit.Below w2.heap.size w2 wr))
  case atStart => exact ⟨0, by simp, Nat.zero_le _, Nat.sub_le _ _, HRES, HW0⟩
  case round =>
    clear HRES HW0 x1
    obtain ⟨j, rfl, hj, hgy, HN, HW⟩ := hrel
    obtain ⟨t, hte⟩ : ∃ t, t = F.dep + (j : Int) := ⟨_, rfl⟩
    have HTE := Lib.hid hte
    have hN := HN.out
    rw [← hte] at hN ⊢
    by_cases hlt : j < nn
    case pos =>
      have h0 : F.dep ≤ t := by omega
      have h1 : t ≤ F.arr (lgT S n) := by omega
      have hltt : t < F.arr (lgT S n) := by omega
      have ht3 : 0 ≤ t ∧ t ≤ 10000 := by omega
      have HRP := Lib.hid (fun w1 h => HRE.out p hpP (.pointer (some ⟨gx, 0, none⟩)) vN t w1 h h0 h1)
      have hrq := fun w1 h => HRE.out q hqP (.pointer (some ⟨gx, 0, none⟩)) vN t w1 h h0 h1
      obtain ⟨i, hi⟩ : ∃ i, nn - j = i + 1 := ⟨nn - j - 1, by omega⟩
      rw [hi] at hN
      have hN2 : (if F.midG (lgT S n) (timT S n M.places.toNat) t = true then t else midR (F.midG (lgT S n) (timT S n M.places.toNat)) i (t + 1)) = RES := hN
      rw [HG.out t] at hN2
      have hrp := HRP.out
      rcases hrv : F.reach (lgT S n) (timT S n M.places.toNat) t p with ⟨ra, rb, rc⟩
      rcases hsv : F.reach (lgT S n) (timT S n M.places.toNat) t q with ⟨sa, sb, sc⟩
      rw [hrv] at hrp hN2
      rw [hsv] at hrq hN2
      dsimp only at hrp hrq hN2
      have HRQ := Lib.hid hrq
      have HRP2 := Lib.hid hrp
      clear hN hte hrv hsv hrq hrp HRP
      go_wp2_with (first | (go_at_call 93; refine (HAR.out _ _ _ (HFA.out.below HW.out)).mono ?_; rintro e w3 ⟨rfl, hb3⟩; have nW := Lib.hid (bthen HW.out hb3); clear HW hb3; have HW := nW; clear nW; have y0 := (HF.out.below HW.out).cell 0; simp only [List.getElem?_toArray, List.getElem?_cons_zero] at y0; rw [HVR.out] at y0; have cr := ((bthen HB.out HW.out).cell (p := ⟨bR, oR, none⟩) hbR).trans HCP.out))
      have hre := HRP2.out _ (HFA.out.below HW.out)
      by_cases hc : sa ≤ ra
      · rw [if_pos (decide_eq_true hc)] at hN2
        obtain rfl : RES = t := hN2.symm
        clear hN2
        refine hre.mono ?_
        clear hre
        rintro e w4 ⟨rfl, hb4⟩
        have HR3 := Lib.hid (bal hb4 (.cells #[.int .i64 (p : Int), .int .i64 ra, .bool rb] 47))
        have HK1 := Lib.hid (Blk.new w4 47 #[.int .i64 (p : Int), .int .i64 ra, .bool rb])
        have z0 := (HF.out.below (bthen HW.out HR3.out)).cell 0
        simp only [List.getElem?_toArray, List.getElem?_cons_zero] at z0
        rw [HVR.out] at z0
        have cq := (bthen HB.out (bthen HW.out HR3.out)).cell (p := ⟨bR, oR + m1, none⟩) hbR
        rw [HCQ.out] at cq
        clear hb4 y0 cr
        go_wp2_with (fail)
        refine (HRQ.out _ (HFA.out.below (bthen HW.out HR3.out))).mono ?_
        rintro e w6 ⟨rfl, hb6⟩
        have HR6 := Lib.hid (bal (bthen HR3.out hb6) (.cells #[.int .i64 (q : Int), .int .i64 sa, .bool sb] 47))
        have k1 := ((HK1.out.below hb6).alloc (.cells #[.int .i64 (q : Int), .int .i64 sa, .bool sb] 47)).cell 1
        have k2 := (Blk.new w6 47 #[.int .i64 (q : Int), .int .i64 sa, .bool sb]).cell 1
        simp only [List.getElem?_toArray, List.getElem?_cons_succ, List.getElem?_cons_zero] at k1 k2
        clear hb6 z0 cq HK1 HR3
        go_wp2_with (fail)
        go_ret2
        exact ⟨rfl, bthen HB.out (bthen HW.out HR6.out)⟩
      · rw [if_neg (by simpa using hc)] at hN2
        have HN2 := Lib.hid hN2
        clear hN2
        refine hre.mono ?_
        clear hre
        rintro e w4 ⟨rfl, hb4⟩
        have HR3 := Lib.hid (bal hb4 (.cells #[.int .i64 (p : Int), .int .i64 ra, .bool rb] 47))
        have HK1 := Lib.hid (Blk.new w4 47 #[.int .i64 (p : Int), .int .i64 ra, .bool rb])
        have z0 := (HF.out.below (bthen HW.out HR3.out)).cell 0
        simp only [List.getElem?_toArray, List.getElem?_cons_zero] at z0
        rw [HVR.out] at z0
        have cq := (bthen HB.out (bthen HW.out HR3.out)).cell (p := ⟨bR, oR + m1, none⟩) hbR
        rw [HCQ.out] at cq
        clear hb4 y0 cr
        go_wp2_with (fail)
        refine (HRQ.out _ (HFA.out.below (bthen HW.out HR3.out))).mono ?_
        rintro e w6 ⟨rfl, hb6⟩
        have HR6 := Lib.hid (bal (bthen HR3.out hb6) (.cells #[.int .i64 (q : Int), .int .i64 sa, .bool sb] 47))
        have k1 := ((HK1.out.below hb6).alloc (.cells #[.int .i64 (q : Int), .int .i64 sa, .bool sb] 47)).cell 1
        have k2 := (Blk.new w6 47 #[.int .i64 (q : Int), .int .i64 sa, .bool sb]).cell 1
        simp only [List.getElem?_toArray, List.getElem?_cons_succ, List.getElem?_cons_zero] at k1 k2
        clear hb6 z0 cq HK1 HR3
        go_wp2_with (fail)
        go_roundg (nn - (j + 1))
        case measure => omega
        case rel => exact ⟨j + 1, by first | rfl | go_num | (congr 1; have := HTE.out; omega), by omega, Nat.le_refl _, Lib.hid (by rw [show nn - (j + 1) = i by omega, show F.dep + ((j + 1 : Nat) : Int) = t + 1 by have := HTE.out; omega]; exact HN2.out), Lib.hid (bthen HW.out HR6.out)⟩
    obtain rfl : nn = j := by omega
    rw [Nat.sub_self] at hN
    obtain rfl : RES = t := hN.symm
    have hge : ¬ RES < F.arr (lgT S n) := by omega
    clear hN hte
    go_wp2_with (first | (go_at_call 93; refine (HAR.out _ _ _ (HFA.out.below HW.out)).mono ?_; rintro e w3 ⟨rfl, hb3⟩; have HW5 := Lib.hid (bthen HW.out hb3); clear hb3))
    go_ret2
    exact ⟨rfl, bthen HB.out HW5.out⟩
end Go.Proofs.YtbgkbdhdkpjcdaaGreat
