/- Contracts: NoReturn of package route and of the reference. -/
import Derived.Test.YtbgkbdhdkpjcdaaGreatNbH
set_option linter.all false
namespace Go.Proofs.YtbgkbdhdkpjcdaaGreat
open Go Go.RowKit Go.Proofs
set_option maxRecDepth 100000
set_option maxHeartbeats 8000000
/-- All places of a route lead to each of them. -/
theorem FliD.all_joined {F : FliD} {P : Nat} {lt tt : Tab} (hf : F.flown P lt F.m) (hj : Joined P lt tt) (hd : ∀ i, i < P → tt i i = 0) {k0 : Nat} (hk0 : k0 < F.m) : ∀ i, i < F.m → 0 ≤ tt (F.R i).toNat (F.R k0).toNat := by
  have hr := fun i (hi : i < F.m) => show (F.R i).toNat < P by have := hf.1 i hi; omega
  have hb : 0 ≤ tt (F.R k0).toNat (F.R k0).toNat := by rw [hd _ (hr k0 hk0)]; exact Int.le_refl _
  have up : ∀ d, k0 + d < F.m → 0 ≤ tt (F.R (k0 + d)).toNat (F.R k0).toNat := by
    intro d
    induction d with
    | zero => intro _; exact hb
    | succ d ih =>
      intro h
      exact (hj _ _ _ (hr (k0 + d) (by omega)) (hr (k0 + d + 1) h) (hr k0 hk0) (hf.2 (k0 + d) h)).1 (ih (by omega))
  have dn : ∀ d, d ≤ k0 → 0 ≤ tt (F.R (k0 - d)).toNat (F.R k0).toNat := by
    intro d
    induction d with
    | zero => intro _; exact hb
    | succ d ih =>
      intro h
      have e : k0 - (d + 1) + 1 = k0 - d := by omega
      have hl := hf.2 (k0 - (d + 1)) (by omega)
      rw [e] at hl
      exact (hj _ _ _ (hr (k0 - (d + 1)) (by omega)) (hr (k0 - d) (by omega)) (hr k0 hk0) hl).2 (ih (by omega))
  intro i hi
  by_cases h : k0 ≤ i
  · have := up (i - k0) (by omega)
    rwa [show k0 + (i - k0) = i by omega] at this
  · have := dn (k0 - i) (by omega)
    rwa [show k0 - (k0 - i) = i by omega] at this
/-- A place of the route can always be reached. -/
theorem FliD.reach_is {F : FliD} {P : Nat} {lt tt : Tab} {t : Int} (hok : F.ok P lt) (hj : Joined P lt tt) (hd : ∀ i, i < P → tt i i = 0) {k0 : Nat} (hk0 : k0 < F.m) (h0 : F.dep ≤ t) (h1 : t ≤ F.at_ lt (F.m - 1)) : (F.reach lt tt t (F.R k0).toNat).2.2 = true := by
  obtain ⟨hnu, hfl, hend⟩ := hok
  obtain ⟨hm, -⟩ := FliD.nums_iff.1 hnu
  have ha := FliD.all_joined hfl hj hd hk0
  have hix := FliD.ix_le (F := F) (lt := lt) (t := t) (F.m - 1)
  have hixa := FliD.ix_at (F := F) (lt := lt) h0 (F.m - 1)
  unfold FliD.reach
  generalize F.ix lt t (F.m - 1) = i at *
  dsimp only
  by_cases c : t = F.at_ lt i
  · rw [if_pos c]; exact decide_eq_true (ha i (by omega))
  · rw [if_neg c]
    have him : i < F.m - 1 := by
      rcases Nat.lt_or_ge i (F.m - 1) with q | q
      · exact q
      · have : i = F.m - 1 := by omega
        subst this
        omega
    split
    · exact decide_eq_true (ha i (by omega))
    · exact decide_eq_true (ha (i + 1) (by omega))
/-- The last tick that g takes, n ticks back from t on. -/
def norR (g : Int → Bool) : Nat → Int → Option Int
  | 0, _ => none
  | n + 1, t => if g t then some t else norR g n (t - 1)
def norV : Option Int → Int × Int
  | none => (0, 3)
  | some t => (t, 0)
/-- What NoReturn returns. -/
def norE (NE : Int) (S : Tab) (n P : Nat) (F : FliD) : Int × Int :=
  if NE = 0 then norV (norR (fun t => F.lasts (F.reach (lgT S n) (timT S n P) t (F.R 0).toNat).1) (F.ticks (lgT S n)) (F.arr (lgT S n))) else (0, NE)
theorem nfN_ok {M : MetD} {S : Tab} {n : Nat} {F : FliD} (h : nfE (netE M S n) M S n F = 0) : M.places = (M.places.toNat : Int) ∧ (1 ≤ M.places.toNat ∧ M.places.toNat ≤ 8) ∧ LegIn M.places.toNat (lgT S n) ∧ NetOk M.places.toNat S n ∧ F.ok M.places.toNat (lgT S n) := by
  unfold nfE at h
  by_cases h1 : netE M S n = 0
  · rw [if_pos h1] at h
    obtain ⟨f1, f2⟩ := netE_ok h1
    obtain ⟨f3, f4, f5, f6⟩ := net_facts f1 f2
    refine ⟨f3, f4, f5, f6, FliD.okB_iff.1 ?_⟩
    cases e : F.okB M.places.toNat (lgT S n)
    · rw [e] at h; cases h
    · rfl
  · rw [if_neg h1] at h; exact absurd h h1
theorem FliD.dep_le {F : FliD} {P : Nat} {lt : Tab} (hok : F.ok P lt) : F.dep ≤ F.arr lt := by
  have hmono : ∀ i, F.flown P lt (i + 1) → F.dep ≤ F.at_ lt i := by
    intro i
    induction i with
    | zero => intro _; exact Int.le_refl _
    | succ i ih =>
      intro hf
      have := ih ⟨fun j hj => hf.1 j (by omega), fun j hj => hf.2 j (by omega)⟩
      have := hf.2 i (by omega)
      show F.dep ≤ F.at_ lt i + lt (F.R i).toNat (F.R (i + 1)).toNat
      omega
  have hm := (FliD.nums_iff.1 hok.1).1.1
  exact hmono (F.m - 1) ⟨fun j hj => hok.2.1.1 j (by omega), fun j hj => hok.2.1.2 j (by omega)⟩
theorem rNoReturn_c (M : MetD) (vF vS : Value) (A : Option Addr) (n c : Nat) (S : Tab) (F : FliD) (vR : Value) (w : World) (hM : MetAt w vF vS M) (hc1 : n ≤ c) (hc2 : c ≤ 9223372036854775807) (hL : RecsAt w A n 3 (nV S)) (hR : SlI w vR F.m F.R) :
   Calls Tryz.prog 45 #[.agg #[.int .i64 M.places, .int .i64 M.any.a0, .int .i64 M.any.a1, .int .i64 M.any.a2, .int .i64 M.any.a3, .int .i64 M.any.a4, .int .i64 M.any.a5, .bool M.any.i, .bool M.any.s, .int .i64 M.mw, .int .i64 M.ms, .int .i64 M.mc, vF, vS], .slice A n c, .agg #[vR, .int .i64 F.dep, .int .i64 F.fuel, .int .i64 F.burn, .int .i64 F.res]] w fun e w' => e = .returned (.tuple #[.int .i64 (norE (nfE (netE M S n) M S n F) S n M.places.toNat F).1, .int .i64 (norE (nfE (netE M S n) M S n F) S n M.places.toNat F).2]) ∧ RowKit.Below w.heap.size w w' := by
  have HM := Lib.hid hM
  have HL := Lib.hid hL
  have HR := Lib.hid hR
  have HNN := Lib.hid (fun w1 h1 h2 h3 => newFlightN_c M vF vS A n c S F vR w1 h1 hc1 hc2 h2 h3)
  have tok : True := trivial
  have tok2 : True := trivial
  have hok := fun h => nfN_ok (M := M) (S := S) (n := n) (F := F) h
  generalize nfE (netE M S n) M S n F = NE at *
  unfold norE
  by_cases h0 : NE = 0
  case neg =>
    rw [if_neg h0]
    have hz : (NE != 0) = true := by simpa using h0
    clear hM hL hR h0 hok
    go_enter Tryz.func45, Tryz.ntmps45
    go_wp2_with (fail)
    have _x := frm2 w #[.int .i64 M.places, .int .i64 M.any.a0, .int .i64 M.any.a1, .int .i64 M.any.a2, .int .i64 M.any.a3, .int .i64 M.any.a4, .int .i64 M.any.a5, .bool M.any.i, .bool M.any.s, .int .i64 M.mw, .int .i64 M.ms, .int .i64 M.mc, vF, vS] 29 #[vR, .int .i64 F.dep, .int .i64 F.fuel, .int .i64 F.burn, .int .i64 F.res] 37
    have HX := Lib.hid _x.1
    have HF := Lib.hid _x.2.1
    have HB := Lib.hid _x.2.2.1
    have zW := _x.2.2.2
    clear _x
    generalize World.alloc (World.alloc w _) _ = W at *
    go_wp2_with (first | (have _t := tok; refine wpl_row rfl 29 (.tmp 3) rfl _ rfl #[.int .i64 M.places, .int .i64 M.any.a0, .int .i64 M.any.a1, .int .i64 M.any.a2, .int .i64 M.any.a3, .int .i64 M.any.a4, .int .i64 M.any.a5, .bool M.any.i, .bool M.any.s, .int .i64 M.mw, .int .i64 M.ms, .int .i64 M.mc, vF, vS] 14 HX.out Tryz.rowMet rfl ?_; simp only [Act.put]; clear tok) | (have _t := tok2; refine wpl_row rfl 37 (.tmp 5) rfl _ rfl #[vR, .int .i64 F.dep, .int .i64 F.fuel, .int .i64 F.burn, .int .i64 F.res] 5 HF.out Tryz.rowFli rfl ?_; simp only [Act.put]; clear tok2) | (go_at_call 86; (with_reducible refine (HNN.out _ (HM.out.below HB.out) (HL.out.below HB.out) (HR.out.below HB.out)).mono ?_); rintro e w1 ⟨v, rfl, hb1⟩; (obtain ⟨hb1, -⟩ := hb1); have nHX := Lib.hid (HX.out.below hb1); have nHF := Lib.hid (HF.out.below hb1); have nHB := Lib.hid (bthen HB.out hb1); have zz1 := hb1.size; clear HX HF HB hb1; have HX := nHX; have HF := nHF; have HB := nHB; clear nHX nHF nHB))
    go_ret2
    exact ⟨rfl, HB.out⟩
  subst h0
  rw [if_pos rfl]
  obtain ⟨f3, f4, f5, f6, f7⟩ := hok rfl
  have hti := timT_in f6 f4.2
  have hjo := timT_joined f6
  have hdg := fun i hi => (timT_tri f6).dg i hi
  have hnu := f7.1
  have hn8 := FliD.nums_iff.1 hnu
  have hr0 := f7.2.1.1 0 (by omega)
  obtain ⟨p, hp⟩ : ∃ p : Nat, F.R 0 = p := Int.eq_ofNat_of_zero_le hr0.1
  have hpP : p < M.places.toNat := by omega
  have hdl := FliD.dep_le f7
  have HRS := Lib.hid (fun t h0 h1 => FliD.reach_is (t := t) f7 hjo hdg (k0 := 0) (by omega) h0 h1)
  have HRE := Lib.hid (fun v vN t w1 h h0 h1 => reach_c M vF vS v vN M.places.toNat (lgT S n) (timT S n M.places.toNat) F vR 0 0 0 false false t p w1 h f7 f5 hti hpP h0 h1)
  have HRI := Lib.hid (fun t h0 h1 => FliD.reach_in (F := F) (t := t) (p := p) f7 f5 hti hpP h0 h1)
  have HLA := Lib.hid (fun v vN t w1 h ht => lasts_c M vF vS v vN M.places.toNat (lgT S n) (timT S n M.places.toNat) F vR 0 0 0 false false t w1 h hnu ht)
  have HAR := Lib.hid (fun v vN w1 h => arrival_c M vF vS v vN M.places.toNat (lgT S n) (timT S n M.places.toNat) F vR 0 0 0 false false w1 h hn8.1.1)
  obtain ⟨RES, hRES⟩ : ∃ q, q = norR (fun t => F.lasts (F.reach (lgT S n) (timT S n M.places.toNat) t (F.R 0).toNat).1) (F.ticks (lgT S n)) (F.arr (lgT S n)) := ⟨_, rfl⟩
  rw [← hRES]
  rw [hp, Int.toNat_natCast] at hRES HRS
  have har : F.at_ (lgT S n) (F.m - 1) = F.arr (lgT S n) := rfl
  have hend := f7.2.2
  rw [har] at HRS HRE HRI HAR hend
  obtain ⟨nn, hnn⟩ : ∃ nn, nn = F.ticks (lgT S n) := ⟨_, rfl⟩
  rw [← hnn] at hRES
  have hnz : (nn : Int) = F.arr (lgT S n) - F.dep + 1 := by rw [hnn]; unfold FliD.ticks; omega
  have HRES := Lib.hid (show norR (fun t => F.lasts (F.reach (lgT S n) (timT S n M.places.toNat) t p).1) (nn - 0) (F.arr (lgT S n) - (0 : Nat)) = RES by rw [hRES, Nat.sub_zero]; simp)
  obtain ⟨AR, cR, hvR, r1, r2, r3⟩ := hR
  obtain ⟨bR, oR, rfl, hbR, hcR⟩ := r3 (by omega)
  have HVR := Lib.hid hvR
  have cr0 : w.cell? ⟨bR, oR, none⟩ = some (.int .i64 (p : Int)) := by rw [← hp]; have := hcR 0 (by omega) 0 (by omega); exact this
  have HCR := Lib.hid cr0
  have hm0 : (0 : Int) < (F.m : Int) := by omega
  have hd0 := hn8.2.1
  clear hM hL hvR r3 hcR cr0 hRES hnn har f3 f4 f5 f6 f7 hti hjo hdg hnu hr0 hok hpP
  generalize F.arr (lgT S n) = ar at *
  go_enter Tryz.func45, Tryz.ntmps45
  go_wp2_with (fail)
  have _x := frm2 w #[.int .i64 M.places, .int .i64 M.any.a0, .int .i64 M.any.a1, .int .i64 M.any.a2, .int .i64 M.any.a3, .int .i64 M.any.a4, .int .i64 M.any.a5, .bool M.any.i, .bool M.any.s, .int .i64 M.mw, .int .i64 M.ms, .int .i64 M.mc, vF, vS] 29 #[vR, .int .i64 F.dep, .int .i64 F.fuel, .int .i64 F.burn, .int .i64 F.res] 37
  have HX := Lib.hid _x.1
  have HF := Lib.hid _x.2.1
  have HB := Lib.hid _x.2.2.1
  have zW := _x.2.2.2
  clear _x
  generalize World.alloc (World.alloc w _) _ = W at *
  go_wp2_with (first | (have _t := tok; refine wpl_row rfl 29 (.tmp 3) rfl _ rfl #[.int .i64 M.places, .int .i64 M.any.a0, .int .i64 M.any.a1, .int .i64 M.any.a2, .int .i64 M.any.a3, .int .i64 M.any.a4, .int .i64 M.any.a5, .bool M.any.i, .bool M.any.s, .int .i64 M.mw, .int .i64 M.ms, .int .i64 M.mc, vF, vS] 14 HX.out Tryz.rowMet rfl ?_; simp only [Act.put]; clear tok) | (have _t := tok2; refine wpl_row rfl 37 (.tmp 5) rfl _ rfl #[vR, .int .i64 F.dep, .int .i64 F.fuel, .int .i64 F.burn, .int .i64 F.res] 5 HF.out Tryz.rowFli rfl ?_; simp only [Act.put]; clear tok2))
  refine (HNN.out _ (HM.out.below HB.out) (HL.out.below HB.out) (HR.out.below HB.out)).mono ?_
  rintro e w2 ⟨v, rfl, hb2, hv⟩
  obtain ⟨vN, hfa⟩ := hv rfl
  have HFA := Lib.hid hfa
  obtain ⟨gx, vA, rfl, -⟩ := hfa
  clear hv HX HL HR HM HNN
  have nHF := Lib.hid (HF.out.below hb2)
  have nHB := Lib.hid (bthen HB.out hb2)
  clear HF HB hb2
  have HF := nHF
  have HB := nHB
  clear nHF nHB
  go_wp2_with (fail)
  refine (HAR.out _ _ _ HFA.out).mono ?_
  rintro e w3 ⟨rfl, hb3⟩
  have HW0 := Lib.hid hb3
  clear hb3
  go_wp2_with (fail)
  go_loopg [10] nn (fun gy iv wr => ∃ j : Nat, iv = .int .i64 (ar - j) ∧ j ≤ nn ∧ nn - j ≤ gy ∧ Hid (norR (fun t => F.lasts (F.reach (lgT S n) (timT S n M.places.toNat) t p).1) (nn - j) (ar - j) = RES) ∧ Hid (RowKit.Below w2.heap.size w2 wr))
  case atStart => exact ⟨0, by simp, Nat.zero_le _, Nat.sub_le _ _, HRES, HW0⟩
  case round =>
    clear HRES HW0
    obtain ⟨j, rfl, hj, hgy, HN, HW⟩ := hrel
    have y0 := (HF.out.below HW.out).cell 0
    have y1 := (HF.out.below HW.out).cell 1
    simp only [List.getElem?_toArray, List.getElem?_cons_succ, List.getElem?_cons_zero] at y0 y1
    rw [HVR.out] at y0
    have cr : wr.cell? ⟨bR, oR, none⟩ = some (.int .i64 (p : Int)) := ((bthen HB.out HW.out).cell (p := ⟨bR, oR, none⟩) hbR).trans HCR.out
    have hte : ∃ t, t = ar - (j : Int) := ⟨_, rfl⟩
    obtain ⟨t, hte⟩ := hte
    have HTE := Lib.hid hte
    have hN := HN.out
    rw [← hte] at hN ⊢
    by_cases hlt : j < nn
    case pos =>
      have h0 : F.dep ≤ t := by omega
      have h1 : t ≤ ar := by omega
      have ht3 : -1000000 ≤ t ∧ t ≤ 1000000 := by omega
      have hre := HRE.out (.pointer (some ⟨gx, 0, none⟩)) vN t wr (HFA.out.below HW.out) h0 h1
      have his := HRS.out t h0 h1
      have hri := HRI.out t h0 h1
      obtain ⟨i, hi⟩ : ∃ i, nn - j = i + 1 := ⟨nn - j - 1, by omega⟩
      rw [hi] at hN
      have hN2 : (if F.lasts (F.reach (lgT S n) (timT S n M.places.toNat) t p).1 = true then some t else norR (fun t => F.lasts (F.reach (lgT S n) (timT S n M.places.toNat) t p).1) i (t - 1)) = RES := hN
      rcases hrv : F.reach (lgT S n) (timT S n M.places.toNat) t p with ⟨ra, rb, rc⟩
      rw [hrv] at hre his hri hN2
      dsimp only at hre his hri hN2
      subst his
      have HLA0 := fun w1 h => HLA.out (.pointer (some ⟨gx, 0, none⟩)) vN ra w1 h (by omega)
      clear hN hte hrv
      cases hl : F.lasts ra
      case false =>
        rw [hl] at HLA0 hN2
        rw [if_neg (by decide)] at hN2
        have HLB := Lib.hid HLA0
        have HN2 := Lib.hid hN2
        clear HLA0 hN2 hl
        go_wp2_with (fail)
        refine hre.mono ?_
        clear hre
        rintro e w4 ⟨rfl, hb4⟩
        have HR3 := Lib.hid (bal hb4 (.cells #[.int .i64 (p : Int), .int .i64 ra, .bool rb] 47))
        clear hb4 y0 y1 cr
        go_wp2_with (first | (go_at_call 98; refine (HLB.out _ (HFA.out.below (bthen HW.out HR3.out))).mono ?_; rintro e w5 ⟨rfl, hb5⟩; have HR5 := Lib.hid (bthen HR3.out hb5); clear hb5 HR3))
        go_roundg (nn - (j + 1))
        case measure => omega
        case rel => exact ⟨j + 1, by first | rfl | go_num | (congr 1; have := HTE.out; omega), by omega, Nat.le_refl _, Lib.hid (by rw [show nn - (j + 1) = i by omega, show ar - ((j + 1 : Nat) : Int) = t - 1 by have := HTE.out; omega]; exact HN2.out), Lib.hid (bthen HW.out HR5.out)⟩
      case true =>
        rw [hl] at HLA0 hN2
        rw [if_pos rfl] at hN2
        have HLB := Lib.hid HLA0
        obtain rfl : RES = some t := hN2.symm
        clear HLA0 hN2 hl
        go_wp2_with (fail)
        refine hre.mono ?_
        clear hre
        rintro e w4 ⟨rfl, hb4⟩
        have HR3 := Lib.hid (bal hb4 (.cells #[.int .i64 (p : Int), .int .i64 ra, .bool rb] 47))
        clear hb4 y0 y1 cr
        go_wp2_with (first | (go_at_call 98; refine (HLB.out _ (HFA.out.below (bthen HW.out HR3.out))).mono ?_; rintro e w5 ⟨rfl, hb5⟩; have HR5 := Lib.hid (bthen HR3.out hb5); clear hb5 HR3))
        go_ret2
        exact ⟨rfl, bthen HB.out (bthen HW.out HR5.out)⟩
    obtain rfl : nn = j := by omega
    rw [Nat.sub_self] at hN
    obtain rfl : RES = none := hN.symm
    have hge : ¬ F.dep ≤ t := by omega
    clear hN hte
    go_wp2_with (fail)
    go_ret2
    exact ⟨rfl, bthen HB.out HW.out⟩
end Go.Proofs.YtbgkbdhdkpjcdaaGreat
