/- Texts joined: KZF. -/
import Derived.Test.YtlabfpjlckdmfaaGreatKZE
set_option linter.all false
namespace Go.Proofs.YtlabfpjlckdmfaaGreat
open Go Go.RowKit Go.Proofs
set_option maxRecDepth 100000
set_option maxHeartbeats 8000000
theorem FliD.havK_mem {F : FliD} {lt tt : Tab} {op : Nat → Int → Bool} {t : Int} {dry : Bool} {x : HavD} : ∀ k, x ∈ F.havK lt tt op t dry k → ∃ p, p < k ∧ x = F.hav1 lt tt t p ∧ F.havB lt tt op t dry p = true
 | 0, h => absurd h (by simp [FliD.havK])
 | k + 1, h => by
  unfold FliD.havK at h
  split at h
  ·rename_i hb
   rw [List.mem_append, List.mem_singleton] at h
   rcases h with h | h
   ·obtain ⟨p, h1, h2⟩ := FliD.havK_mem k h
    exact ⟨p, by omega, h2⟩
   ·exact ⟨k, by omega, h, hb⟩
  ·obtain ⟨p, h1, h2⟩ := FliD.havK_mem k h
   exact ⟨p, by omega, h2⟩
theorem minH_is (f : Nat → HavD) : ∀ i, ∃ j, j ≤ i ∧ minH f i = f j
 | 0 => ⟨0, Nat.le_refl _, rfl⟩
 | i + 1 => by
  unfold minH
  split
  ·exact ⟨i + 1, Nat.le_refl _, rfl⟩
  ·obtain ⟨j, h1, h2⟩ := minH_is f i
   exact ⟨j, by omega, h2⟩
theorem bestL_mem {l : List HavD} {h : HavD} (e : bestL l = some h) : h ∈ l := by
 unfold bestL at e
 split at e
 ·cases e
 ·rename_i h0
  obtain ⟨j, h1, h2⟩ := minH_is (hvx l) (l.length - 1)
  simp only [Option.some.injEq] at e
  rw [← e, h2]
  have hj : j < l.length := by omega
  unfold hvx
  rw [List.getD_eq_getElem?_getD, List.getElem?_eq_getElem hj]
  exact List.getElem_mem hj
theorem best_in {F : FliD} {P : Nat} {lt tt : Tab} {op : Nat → Int → Bool} {t : Int} {dry : Bool} {h : HavD} (hok : F.ok P lt) (hl : LegIn P lt) (htt : TabIn P 51200 tt) (h0 : F.dep ≤ t) (h1 : t ≤ F.at_ lt (F.m - 1)) (e : bestL (F.havK lt tt op t dry P) = some h) : -1 ≤ h.t ∧ h.t ≤ 100000 := by
 obtain ⟨p, hp, rfl, -⟩ := FliD.havK_mem P (bestL_mem e)
 exact FliD.reach_in hok hl htt hp h0 h1
def leaP : Option Int → Int × Bool
 | none => (0, false)
 | some n => (n, decide (n ≤ 100000))
theorem fleast_c (M : MetD) (vF vS v vN : Value) (P : Nat) (lt tt : Tab) (F : FliD) (vR : Value) (lw ls lc : Int) (li lb : Bool) (w : World) (h : FliAt w v vN M vF vS P lt tt F vR lw ls lc li lb) (hM : MetAt w vF vS M) (hP : M.places = P) (hp8 : P ≤ 8) (hok : F.ok P lt) (hl : LegIn P lt) (htt : TabIn P 51200 tt) :
  Calls Tryz.prog 42 #[v] w fun e w' => e = .returned (.tuple #[.int .i64 (leaP (F.leaO lt tt (opM M lw ls lc li lb) P)).1, .bool (leaP (F.leaO lt tt (opM M lw ls lc li lb) P)).2]) ∧ RowKit.Below w.heap.size w w' := by
 obtain ⟨op, hop⟩ : ∃ op : Nat → Int → Bool, op = opM M lw ls lc li lb := ⟨_, rfl⟩
 have hhv := fun t w1 h hm h0 h1 => fhavens_c M vF vS v vN P lt tt F vR lw ls lc li lb t true w1 h hm hP hp8 hok hl htt h0 h1
 rw [← hop] at hhv ⊢
 have HHV := hI9 hhv
 have hnu := FliD.nums_iff.1 hok.1
 have har := fun w1 h => arrival_c M vF vS v vN P lt tt F vR lw ls lc li lb w1 h hnu.1.1
 have HBI := hI9 (fun t h h0 h1 e => best_in (op := op) (dry := true) (t := t) (h := h) hok hl htt h0 h1 e)
 have hen := hok.2.2
 have hdp : F.dep ≤ F.at_ lt (F.m - 1) := by
  have hmono : ∀ i, F.flown P lt (i + 1) → F.dep ≤ F.at_ lt i := by
   intro i
   induction i with
   | zero => intro _; exact Int.le_refl _
   | succ i ih =>
    intro hf
    have := ih ⟨fun j hj => hf.1 j (by omega), fun j hj => hf.2 j (by omega)⟩
    have := hf.2 i (by omega)
    show F.dep ≤ F.at_ lt i + lt (F.R i).toNat (F.R (i + 1)).toNat
    omega
  exact hmono _ ⟨fun j hj => hok.2.1.1 j (by omega), fun j hj => hok.2.1.2 j (by omega)⟩
 obtain ⟨ar, har0⟩ : ∃ ar, ar = F.at_ lt (F.m - 1) := ⟨_, rfl⟩
 rw [← har0] at har hen hdp
 obtain ⟨R, hR⟩ : ∃ R, R = F.leaO lt tt op P := ⟨_, rfl⟩
 rw [← hR]
 have hR2 : F.leaR (fun t => bestL (F.havK lt tt op t true P)) ((ar - F.dep + 1).toNat - 0) (F.dep + (0 : Nat)) 0 = R := by
  rw [hR]; unfold FliD.leaO FliD.ticks FliD.arr; rw [← har0, Nat.sub_zero]; simp
 have HR := hI9 hR2
 have HAR0 := hI9 har0
 have HAR := hI9 har
 have HF := hI9 h
 have HM := hI9 hM
 have HX : Hid (∃ gx gN vA, v = .pointer (some ⟨gx, 0, none⟩) ∧ Blk w gx 79 #[.pointer (some ⟨gN, 0, none⟩), vR, .int .i64 F.dep, .int .i64 F.fuel, .int .i64 F.burn, .int .i64 F.res, .int .i64 lw, .int .i64 ls, .int .i64 lc, .bool li, .bool lb, vA]) := by
  obtain ⟨gx, vA, rfl, hx, hN, -⟩ := h
  obtain ⟨gN, gL, gT, cL, cT, rL, rT, loL, hiL, loT, hiT, rfl, n1, -, -⟩ := hN
  exact hI9 ⟨gx, gN, vA, rfl, hx⟩
 obtain ⟨gx, gN, vA, rfl, hx⟩ := HX.out
 clear HX
 have HX := hI9 hx
 have x2 := hx.cell 2
 simp only [gtA, gtS, gtZ] at x2
 clear h hM hP hok hl htt hop hhv har har0 hR hR2 hx
 obtain ⟨-, hd, hf, hr, hb⟩ := hnu
 generalize hdv : F.dep = dep at *
 generalize hbv : F.burn = bu at *
 generalize hrv : F.res = re at *
 obtain ⟨n, hn⟩ : ∃ n, n = (ar - dep + 1).toNat := ⟨_, rfl⟩
 have hnz : (n : Int) = ar - dep + 1 := by omega
 rw [← hn] at HR
 have HD := hI9 hdv
 have HBU := hI9 hbv
 have HRE := hI9 hrv
 clear hn hdv hbv hrv
 go_enter Tryz.func42, Tryz.ntmps42
 go_wp2_with (fail)
 go_loopg [4, 5] n (fun gy mv iv wr => ∃ (j : Nat) (mm : Int), mv = .int .i64 mm ∧ iv = .int .i64 (dep + j) ∧ j ≤ n ∧ n - j ≤ gy ∧ 0 ≤ mm ∧ mm ≤ 100000000000 ∧ Hid (F.leaR (fun t => bestL (F.havK lt tt op t true P)) (n - j) (dep + j) mm = R) ∧ Hid (RowKit.Below w.heap.size w wr))
 case atStart => exact ⟨0, 0, rfl, by first | rfl | simp, Nat.zero_le _, Nat.sub_le _ _, Int.le_refl _, by decide, HR, hI9 (RowKit.Below.refl _ _)⟩
 case round =>
  clear x2 HR
  obtain ⟨j, mm, rfl, rfl, hj, hgy, hm0, hm1, HR, HB⟩ := hrel
  by_cases hlt : j < n
  case pos =>
   have hle : dep + (j : Int) ≤ ar := by omega
   have hjb : (j : Int) ≤ 2000 := by omega
   go_wp2_with (first | (go_at_call 31; refine (HAR.out _ (HF.out.below HB.out)).mono ?_; rintro e w2 ⟨rfl, hb2⟩; have HB2 := hI9 (bthen HB.out hb2); clear hb2))
   refine (HHV.out _ _ (HF.out.below HB2.out) (HM.out.below HB2.out) (by omega) (by rw [← HAR0.out]; omega)).mono ?_
   rintro e w3 ⟨vO, rfl, hb3, hO⟩
   obtain ⟨A, c, rfl, -, -, hO⟩ := hO
   have hbe := hvbest_c A c _ w3 (by have := FliD.havK_len (F := F) (lt := lt) (tt := tt) (op := op) (t := dep + (j : Int)) (dry := true) P; omega) hO
   obtain ⟨i, hi⟩ : ∃ i, n - j = i + 1 := ⟨n - j - 1, by omega⟩
   have hRR := HR.out
   rw [hi] at hRR
   have hbi := fun x => HBI.out (dep + (j : Int)) x (by omega) (by rw [← HAR0.out]; omega)
   unfold FliD.leaR at hRR
   have HB3 := hI9 (bthen HB2.out hb3)
   clear hO hb3 HB HB2 HR
   cases hbs : bestL (F.havK lt tt op (dep + (j : Int)) true P) with
   | none =>
    rw [hbs] at hbe hRR
    obtain rfl : R = none := hRR.symm
    simp only [Option.getD_none, Option.isSome_none] at hbe
    unfold hvC hvz at hbe
    go_wp2_with (fail)
    refine hbe.mono ?_
    clear hbe hbi
    rintro e w4 ⟨rfl, hb4⟩
    have HB4 := hI9 (bthen HB3.out hb4)
    clear hb4 HB3
    go_wp2_with (fail)
    go_ret2
    exact ⟨rfl, bal HB4.out _⟩
   | some x =>
    rw [hbs] at hbe hRR
    have hxb := hbi x hbs
    obtain ⟨xp, xt, xb⟩ := x
    simp only [Option.getD_some, Option.isSome_some] at hbe
    unfold hvC at hbe
    dsimp only at hbe hRR hxb
    have HRR := hI9 hRR
    clear hRR hbi hbs
    have hz1 : IntKind.i64.wrap (xt - dep) = xt - dep := by rw [IntKind.wrap_i64]; omega
    have hbd := mul_bd (A := 100000) (B := 200000) (a := bu) (b := xt - dep) (by omega) (by omega) (by omega) (by omega)
    have hz2 : IntKind.i64.wrap (bu * (xt - dep)) = bu * (xt - dep) := by rw [IntKind.wrap_i64]; omega
    have hz3 : IntKind.i64.wrap (re + bu * (xt - dep)) = re + bu * (xt - dep) := by rw [IntKind.wrap_i64]; omega
    have hmx0 : 0 ≤ max mm (re + bu * (xt - dep)) := by omega
    have hmx1 : max mm (re + bu * (xt - dep)) ≤ 100000000000 := by omega
    go_wp2_with (fail)
    refine hbe.mono ?_
    clear hbe
    rintro e w4 ⟨rfl, hb4⟩
    have HB4 := hI9 (bthen HB3.out hb4)
    have x2 := (HX.out.below HB4.out).cell 2
    have x4 := (HX.out.below HB4.out).cell 4
    have x5 := (HX.out.below HB4.out).cell 5
    have x2' := (HX.out.below (bal HB4.out (.cells #[.int .i64 (xp : Int), .int .i64 xt, .bool xb] 67))).cell 2
    have x4' := (HX.out.below (bal HB4.out (.cells #[.int .i64 (xp : Int), .int .i64 xt, .bool xb] 67))).cell 4
    have x5' := (HX.out.below (bal HB4.out (.cells #[.int .i64 (xp : Int), .int .i64 xt, .bool xb] 67))).cell 5
    have hb5 := hI9 (bal HB4.out (.cells #[.int .i64 (xp : Int), .int .i64 xt, .bool xb] 67))
    have hy := (Blk.new w4 67 #[.int .i64 (xp : Int), .int .i64 xt, .bool xb]).cell 1
    simp only [gtA, gtS, gtZ] at x2' x4' x5' hy
    clear hb4 HB3 HB4 x2 x4 x5
    go_wp2_with (fail)
    clear hbd
    (refine wp_region_drawnt 22 (by kernel_rfl) (by kernel_rfl) ?_; simp only [List.take_succ_cons, List.take_zero, List.drop_succ_cons, List.drop_zero]; (repeat (go_big_quiet_step ( fail))); refine wpQuiet_nil ?_; rintro _ ⟨nq, rfl⟩)
    have nB := hI9 (bdn hb5.out nq)
    clear x2' x4' x5' hy hb5
    go_wp2_with (fail)
    go_roundg (n - (j + 1))
    case measure => omega
    case rel => exact ⟨j + 1, max mm (re + bu * (xt - dep)), by first | rfl | (congr 1; omega), by first | rfl | go_num | (congr 1; omega), by omega, by omega, hmx0, hmx1, hI9 (by
     have := HRR.out
     rw [show n - (j + 1) = i by omega, show dep + ((j + 1 : Nat) : Int) = dep + (j : Int) + 1 by omega]
     have e1 := HBU.out
     have e2 := HRE.out
     have e3 := HD.out
     rw [e1, e2, e3] at this
     exact this), nB⟩
  obtain rfl : n = j := by omega
  have hgt : ¬ dep + (n : Int) ≤ ar := by omega
  have hRR := HR.out
  rw [Nat.sub_self] at hRR
  obtain rfl : R = some mm := hRR.symm
  go_wp2_with (first | (go_at_call 31; refine (HAR.out _ (HF.out.below HB.out)).mono ?_; rintro e w2 ⟨rfl, hb2⟩; have HB2 := hI9 (bthen HB.out hb2); clear hb2))
  go_ret2
  exact ⟨rfl, HB2.out⟩
theorem lea_rel (R : Option Int) : ((leaP R).2 = true → leaV R = ((leaP R).1, 0)) ∧ ((leaP R).2 = false → leaV R = (0, 3)) := by
 rcases R with _ | k
 ·exact ⟨fun h => absurd h (by decide), fun _ => rfl⟩
 ·unfold leaP leaV
  dsimp only
  by_cases hk : k ≤ 100000
  ·rw [if_pos hk]; exact ⟨fun _ => rfl, fun h => absurd (of_decide_eq_false h) (fun q => q hk)⟩
  ·rw [if_neg hk]; exact ⟨fun h => absurd (of_decide_eq_true h) hk, fun _ => rfl⟩
def leE (M : MetD) (lw ls lc : Int) (li lb : Bool) (S : Tab) (n : Nat) (F : FliD) : Int × Int :=
 if nfE (netME M lw ls lc S n) M S n F = 0 then leaV (F.leaO (lgT S n) (timT S n M.places.toNat) (opM M lw ls lc li lb) M.places.toNat) else (0, nfE (netME M lw ls lc S n) M S n F)
theorem nfM_ok {M : MetD} {lw ls lc : Int} {S : Tab} {n : Nat} {F : FliD} (h : nfE (netME M lw ls lc S n) M S n F = 0) : M.places = (M.places.toNat : Int) ∧ (1 ≤ M.places.toNat ∧ M.places.toNat ≤ 8) ∧ LegIn M.places.toNat (lgT S n) ∧ NetOk M.places.toNat S n ∧ F.ok M.places.toNat (lgT S n) := by
 unfold nfE at h
 by_cases h1 : netME M lw ls lc S n = 0
 ·rw [if_pos h1] at h
  obtain ⟨f1, f2, -⟩ := netME_ok h1
  obtain ⟨f3, f4, f5, f6⟩ := net_facts f1 f2
  refine ⟨f3, f4, f5, f6, FliD.okB_iff.1 ?_⟩
  cases e : F.okB M.places.toNat (lgT S n)
  ·rw [e] at h; cases h
  ·rfl
 ·rw [if_neg h1] at h; exact absurd h h1
theorem rLeast_c (M : MetD) (vF vS : Value) (lw ls lc : Int) (li lb : Bool) (A : Option Addr) (n c : Nat) (S : Tab) (F : FliD) (vR : Value) (w : World) (hM : MetAt w vF vS M) (hc1 : n ≤ c) (hc2 : c ≤ 9223372036854775807) (hL : RecsAt w A n 3 (nV S)) (hR : SlI w vR F.m F.R) :
  Calls Tryz.prog 22 #[.agg #[.int .i64 M.places, .int .i64 M.any.a0, .int .i64 M.any.a1, .int .i64 M.any.a2, .int .i64 M.any.a3, .int .i64 M.any.a4, .int .i64 M.any.a5, .bool M.any.i, .bool M.any.s, .int .i64 M.mw, .int .i64 M.ms, .int .i64 M.mc, vF, vS], .agg #[.int .i64 lw, .int .i64 ls, .int .i64 lc, .bool li, .bool lb], .slice A n c, .agg #[vR, .int .i64 F.dep, .int .i64 F.fuel, .int .i64 F.burn, .int .i64 F.res]] w fun e w' => e = .returned (.tuple #[.int .i64 (leE M lw ls lc li lb S n F).1, .int .i64 (leE M lw ls lc li lb S n F).2]) ∧ RowKit.Below w.heap.size w w' := by
 have HM := hI9 hM
 have HL := hI9 hL
 have HR := hI9 hR
 clear hM hL hR
 have HNN := hI9 (fun w1 gl h1 hm h2 h3 => newFlightM_c M vF vS gl lw ls lc li lb A n c S F vR w1 h1 hm hc1 hc2 h2 h3)
 have tok : True := trivial
 have tok2 : True := trivial
 unfold leE
 by_cases h0 : nfE (netME M lw ls lc S n) M S n F = 0
 case neg =>
  rw [if_neg h0]
  generalize nfE (netME M lw ls lc S n) M S n F = NE at *
  have hz : (NE != 0) = true := by simpa using h0
  clear h0
  go_enter Tryz.func22, Tryz.ntmps22
  go_wp2_with (fail)
  have _x := frm3 w #[.int .i64 M.places, .int .i64 M.any.a0, .int .i64 M.any.a1, .int .i64 M.any.a2, .int .i64 M.any.a3, .int .i64 M.any.a4, .int .i64 M.any.a5, .bool M.any.i, .bool M.any.s, .int .i64 M.mw, .int .i64 M.ms, .int .i64 M.mc, vF, vS] 29 #[.int .i64 lw, .int .i64 ls, .int .i64 lc, .bool li, .bool lb] 31 #[vR, .int .i64 F.dep, .int .i64 F.fuel, .int .i64 F.burn, .int .i64 F.res] 37
  have HX := hI9 _x.1
  have HI := hI9 _x.2.1
  have HF := hI9 _x.2.2.1
  have HB := hI9 _x.2.2.2.1
  have zW := _x.2.2.2.2
  clear _x
  generalize World.alloc (World.alloc (World.alloc w _) _) _ = W at *
  go_wp2_with (first | (have _t := tok; refine wpl_row rfl 29 (.tmp 4) rfl _ rfl _ 14 HX.out Tryz.rowMet rfl ?_; simp only [Act.put]; clear tok) | (have _t := tok2; refine wpl_row rfl 37 (.tmp 7) rfl _ rfl _ 5 HF.out Tryz.rowFli rfl ?_; simp only [Act.put]; clear tok2) | (go_at_call 25; (with_reducible refine (HNN.out _ _ (HM.out.below HB.out) HI.out (HL.out.below HB.out) (HR.out.below HB.out)).mono ?_); rintro e w1 ⟨v, rfl, hb1⟩; (obtain ⟨hb1, -⟩ := hb1); have nHX := hI9 (HX.out.below hb1); have nHI := hI9 (HI.out.below hb1); have nHF := hI9 (HF.out.below hb1); have nHB := hI9 (bthen HB.out hb1); have zz1 := hb1.size; clear HX HI HF HB hb1; have HX := nHX; have HI := nHI; have HF := nHF; have HB := nHB; clear nHX nHI nHF nHB))
  go_ret2
  exact ⟨rfl, HB.out⟩
 rw [if_pos h0]
 obtain ⟨f3, f4, f5, f6, f7⟩ := nfM_ok h0
 rw [h0] at HNN
 have hti := timT_in f6 f4.2
 have HLE := hI9 (fun v vN w1 h hm => fleast_c M vF vS v vN M.places.toNat (lgT S n) (timT S n M.places.toNat) F vR lw ls lc li lb w1 h hm f3 f4.2 f7 f5 hti)
 clear f3 f4 f5 f6 f7 hti h0
 generalize F.leaO (lgT S n) (timT S n M.places.toNat) (opM M lw ls lc li lb) M.places.toNat = R at *
 obtain ⟨lp, hlp⟩ : ∃ q, q = leaP R := ⟨_, rfl⟩
 obtain ⟨lv, hlv⟩ : ∃ q, q = leaV R := ⟨_, rfl⟩
 have hrel := lea_rel R
 rw [← hlp] at HLE
 rw [← hlp, ← hlv] at hrel
 rw [← hlv]
 clear hlp hlv
 obtain ⟨lpa, lpb⟩ := lp
 dsimp only at HLE
 have hlv : lv = if lpb = true then (lpa, 0) else (0, 3) := by
  cases lpb
  ·exact hrel.2 rfl
  ·exact hrel.1 rfl
 clear hrel
 subst hlv
 cases lpb
 ·rw [if_neg (show ¬ (false = true) by decide)]
  dsimp only
  go_enter Tryz.func22, Tryz.ntmps22
  go_wp2_with (fail)
  have _x := frm3 w #[.int .i64 M.places, .int .i64 M.any.a0, .int .i64 M.any.a1, .int .i64 M.any.a2, .int .i64 M.any.a3, .int .i64 M.any.a4, .int .i64 M.any.a5, .bool M.any.i, .bool M.any.s, .int .i64 M.mw, .int .i64 M.ms, .int .i64 M.mc, vF, vS] 29 #[.int .i64 lw, .int .i64 ls, .int .i64 lc, .bool li, .bool lb] 31 #[vR, .int .i64 F.dep, .int .i64 F.fuel, .int .i64 F.burn, .int .i64 F.res] 37
  have HX := hI9 _x.1
  have HI := hI9 _x.2.1
  have HF := hI9 _x.2.2.1
  have HB := hI9 _x.2.2.2.1
  have zW := _x.2.2.2.2
  clear _x
  generalize World.alloc (World.alloc (World.alloc w _) _) _ = W at *
  go_wp2_with (first | (have _t := tok; refine wpl_row rfl 29 (.tmp 4) rfl _ rfl _ 14 HX.out Tryz.rowMet rfl ?_; simp only [Act.put]; clear tok) | (have _t := tok2; refine wpl_row rfl 37 (.tmp 7) rfl _ rfl _ 5 HF.out Tryz.rowFli rfl ?_; simp only [Act.put]; clear tok2))
  refine (HNN.out _ _ (HM.out.below HB.out) HI.out (HL.out.below HB.out) (HR.out.below HB.out)).mono ?_
  rintro e w2 ⟨v, rfl, hb2, hv⟩
  obtain ⟨vN, hfa⟩ := hv rfl
  have HFA := hI9 hfa
  obtain ⟨gx, vA, rfl, -⟩ := hfa
  have HB2 := hI9 (bthen HB.out hb2)
  clear HB HX HF HI hb2 hv
  go_wp2_with (fail)
  refine (HLE.out _ _ _ HFA.out (HM.out.below HB2.out)).mono ?_
  rintro e w3 ⟨rfl, hb3⟩
  have HB3 := hI9 (bthen HB2.out hb3)
  clear HFA HB2 hb3 HLE
  go_wp2_with (fail)
  go_ret2
  exact ⟨rfl, HB3.out⟩
 ·rw [if_pos rfl]
  dsimp only
  go_enter Tryz.func22, Tryz.ntmps22
  go_wp2_with (fail)
  have _x := frm3 w #[.int .i64 M.places, .int .i64 M.any.a0, .int .i64 M.any.a1, .int .i64 M.any.a2, .int .i64 M.any.a3, .int .i64 M.any.a4, .int .i64 M.any.a5, .bool M.any.i, .bool M.any.s, .int .i64 M.mw, .int .i64 M.ms, .int .i64 M.mc, vF, vS] 29 #[.int .i64 lw, .int .i64 ls, .int .i64 lc, .bool li, .bool lb] 31 #[vR, .int .i64 F.dep, .int .i64 F.fuel, .int .i64 F.burn, .int .i64 F.res] 37
  have HX := hI9 _x.1
  have HI := hI9 _x.2.1
  have HF := hI9 _x.2.2.1
  have HB := hI9 _x.2.2.2.1
  have zW := _x.2.2.2.2
  clear _x
  generalize World.alloc (World.alloc (World.alloc w _) _) _ = W at *
  go_wp2_with (first | (have _t := tok; refine wpl_row rfl 29 (.tmp 4) rfl _ rfl _ 14 HX.out Tryz.rowMet rfl ?_; simp only [Act.put]; clear tok) | (have _t := tok2; refine wpl_row rfl 37 (.tmp 7) rfl _ rfl _ 5 HF.out Tryz.rowFli rfl ?_; simp only [Act.put]; clear tok2))
  refine (HNN.out _ _ (HM.out.below HB.out) HI.out (HL.out.below HB.out) (HR.out.below HB.out)).mono ?_
  rintro e w2 ⟨v, rfl, hb2, hv⟩
  obtain ⟨vN, hfa⟩ := hv rfl
  have HFA := hI9 hfa
  obtain ⟨gx, vA, rfl, -⟩ := hfa
  have HB2 := hI9 (bthen HB.out hb2)
  clear HB HX HF HI hb2 hv
  go_wp2_with (fail)
  refine (HLE.out _ _ _ HFA.out (HM.out.below HB2.out)).mono ?_
  rintro e w3 ⟨rfl, hb3⟩
  have HB3 := hI9 (bthen HB2.out hb3)
  clear HFA HB2 hb3 HLE
  go_wp2_with (fail)
  go_ret2
  exact ⟨rfl, HB3.out⟩
def tkE (NE : Int) (F : FliD) (lt : Tab) (t : Int) : Int := if NE = 0 then (if inB t F.dep (F.arr lt) = true then 0 else 1) else NE
theorem newTick_c (M : MetD) (vF vS : Value) (lw ls lc : Int) (li lb : Bool) (A : Option Addr) (n c : Nat) (S : Tab) (F : FliD) (vR : Value) (t : Int) (w : World) (hM : MetAt w vF vS M) (hc1 : n ≤ c) (hc2 : c ≤ 9223372036854775807) (hL : RecsAt w A n 3 (nV S)) (hR : SlI w vR F.m F.R) :
  Calls Tryz.prog 43 #[.agg #[.int .i64 M.places, .int .i64 M.any.a0, .int .i64 M.any.a1, .int .i64 M.any.a2, .int .i64 M.any.a3, .int .i64 M.any.a4, .int .i64 M.any.a5, .bool M.any.i, .bool M.any.s, .int .i64 M.mw, .int .i64 M.ms, .int .i64 M.mc, vF, vS], .agg #[.int .i64 lw, .int .i64 ls, .int .i64 lc, .bool li, .bool lb], .slice A n c, .agg #[vR, .int .i64 F.dep, .int .i64 F.fuel, .int .i64 F.burn, .int .i64 F.res], .int .i64 t] w fun e w' => ∃ v, e = .returned (.tuple #[v, .int .i64 (tkE (nfE (netME M lw ls lc S n) M S n F) F (lgT S n) t)]) ∧ RowKit.Below w.heap.size w w' ∧ NfRes (tkE (nfE (netME M lw ls lc S n) M S n F) F (lgT S n) t) w' v M vF vS S n F vR lw ls lc li lb := by
 have HM := hI9 hM
 have HL := hI9 hL
 have HR := hI9 hR
 clear hM hL hR
 have HNN := hI9 (fun w1 gl h1 hm h2 h3 => newFlightM_c M vF vS gl lw ls lc li lb A n c S F vR w1 h1 hm hc1 hc2 h2 h3)
 have tok : True := trivial
 have tok2 : True := trivial
 unfold tkE
 by_cases h0 : nfE (netME M lw ls lc S n) M S n F = 0
 case neg =>
  rw [if_neg h0]
  generalize nfE (netME M lw ls lc S n) M S n F = NE at *
  have hz : (NE == 0) = false := by simpa using h0
  have H0 := hI9 h0
  clear h0
  go_enter Tryz.func43, Tryz.ntmps43
  go_wp2_with (fail)
  have _x := frm3 w #[.int .i64 M.places, .int .i64 M.any.a0, .int .i64 M.any.a1, .int .i64 M.any.a2, .int .i64 M.any.a3, .int .i64 M.any.a4, .int .i64 M.any.a5, .bool M.any.i, .bool M.any.s, .int .i64 M.mw, .int .i64 M.ms, .int .i64 M.mc, vF, vS] 29 #[.int .i64 lw, .int .i64 ls, .int .i64 lc, .bool li, .bool lb] 31 #[vR, .int .i64 F.dep, .int .i64 F.fuel, .int .i64 F.burn, .int .i64 F.res] 37
  have HX := hI9 _x.1
  have HI := hI9 _x.2.1
  have HF := hI9 _x.2.2.1
  have HB := hI9 _x.2.2.2.1
  have zW := _x.2.2.2.2
  clear _x
  generalize World.alloc (World.alloc (World.alloc w _) _) _ = W at *
  go_wp2_with (first | (have _t := tok; refine wpl_row rfl 29 (.tmp 5) rfl _ rfl _ 14 HX.out Tryz.rowMet rfl ?_; simp only [Act.put]; clear tok) | (have _t := tok2; refine wpl_row rfl 37 (.tmp 8) rfl _ rfl _ 5 HF.out Tryz.rowFli rfl ?_; simp only [Act.put]; clear tok2) | (go_at_call 25; (with_reducible refine (HNN.out _ _ (HM.out.below HB.out) HI.out (HL.out.below HB.out) (HR.out.below HB.out)).mono ?_); rintro e w1 ⟨v, rfl, hb1⟩; (obtain ⟨hb1, -⟩ := hb1); have nHX := hI9 (HX.out.below hb1); have nHI := hI9 (HI.out.below hb1); have nHF := hI9 (HF.out.below hb1); have nHB := hI9 (bthen HB.out hb1); have zz1 := hb1.size; clear HX HI HF HB hb1; have HX := nHX; have HI := nHI; have HF := nHF; have HB := nHB; clear nHX nHI nHF nHB))
  go_quiet (fail)
  go_wp2_with (fail)
  go_ret2
  exact ⟨_, rfl, bdn HB.out _, fun h => absurd h H0.out⟩
 rw [if_pos h0]
 obtain ⟨f3, f4, f5, f6, f7⟩ := nfM_ok h0
 rw [h0] at HNN
 have hm1 := (FliD.nums_iff.1 f7.1).1.1
 have HAR := hI9 (fun v vN w1 h => arrival_c M vF vS v vN M.places.toNat (lgT S n) (timT S n M.places.toNat) F vR lw ls lc li lb w1 h hm1)
 have HARR := hI9 (show F.at_ (lgT S n) (F.m - 1) = F.arr (lgT S n) from rfl)
 clear f3 f4 f5 f6 f7 hm1 h0
 go_enter Tryz.func43, Tryz.ntmps43
 go_wp2_with (fail)
 have _x := frm3 w #[.int .i64 M.places, .int .i64 M.any.a0, .int .i64 M.any.a1, .int .i64 M.any.a2, .int .i64 M.any.a3, .int .i64 M.any.a4, .int .i64 M.any.a5, .bool M.any.i, .bool M.any.s, .int .i64 M.mw, .int .i64 M.ms, .int .i64 M.mc, vF, vS] 29 #[.int .i64 lw, .int .i64 ls, .int .i64 lc, .bool li, .bool lb] 31 #[vR, .int .i64 F.dep, .int .i64 F.fuel, .int .i64 F.burn, .int .i64 F.res] 37
 have HX := hI9 _x.1
 have HI := hI9 _x.2.1
 have HF := hI9 _x.2.2.1
 have HB := hI9 _x.2.2.2.1
 have zW := _x.2.2.2.2
 clear _x
 generalize World.alloc (World.alloc (World.alloc w _) _) _ = W at *
 go_wp2_with (first | (have _t := tok; refine wpl_row rfl 29 (.tmp 5) rfl _ rfl _ 14 HX.out Tryz.rowMet rfl ?_; simp only [Act.put]; clear tok) | (have _t := tok2; refine wpl_row rfl 37 (.tmp 8) rfl _ rfl _ 5 HF.out Tryz.rowFli rfl ?_; simp only [Act.put]; clear tok2))
 refine (HNN.out _ _ (HM.out.below HB.out) HI.out (HL.out.below HB.out) (HR.out.below HB.out)).mono ?_
 rintro e w2 ⟨v, rfl, hb2, hv⟩
 obtain ⟨vN, hfa⟩ := hv rfl
 have HFA := hI9 hfa
 obtain ⟨gx, vA, rfl, -⟩ := hfa
 have HFB := hI9 (HF.out.below hb2)
 have HB2 := hI9 (bthen HB.out hb2)
 clear HB HX HF HI hb2 hv
 have har := fun w1 h => HAR.out (.pointer (some ⟨gx, 0, none⟩)) vN w1 h
 rw [HARR.out] at har
 have HAR2 := hI9 har
 clear HAR HARR har
 have hwi := fun w1 => rwithin_c t F.dep (F.arr (lgT S n)) w1
 cases hin : inB t F.dep (F.arr (lgT S n))
 all_goals (rw [hin] at hwi; have HWI := hI9 hwi; clear hwi)
 ·skip
  skip
  have f1 : ∀ r : After w2, r.w.cell? ⟨w.heap.size + 1 + 1, 1, none⟩ = some (.int .i64 F.dep) := fun r => (HFB.out.below r.below).cell 1
  go_wp2_with (fail)
  refine wp_region_after (by kernel_rfl) (by kernel_rfl) ?_
  iterate 11 (go_big_quiet_step (first | (go_at_call 31; (with_reducible refine qafter (HAR2.out _ (HFA.out.below (After.below _))))) | (go_at_call 28; (with_reducible refine qafter_same (HWI.out _)))))
  refine wpQuiet_nil ?_
  rintro W3 ⟨r2, hr2⟩
  have hb3 : RowKit.Below w2.heap.size w2 W3 := by rw [hr2]; exact r2.below
  clear hr2 r2 f1
  go_wp2_with (fail)
  all_goals go_ret2
  all_goals exact ⟨_, rfl, bthen HB2.out hb3, fun h => absurd h (by decide)⟩
 ·skip
  skip
  have f1 : ∀ r : After w2, r.w.cell? ⟨w.heap.size + 1 + 1, 1, none⟩ = some (.int .i64 F.dep) := fun r => (HFB.out.below r.below).cell 1
  go_wp2_with (fail)
  refine wp_region_after (by kernel_rfl) (by kernel_rfl) ?_
  iterate 11 (go_big_quiet_step (first | (go_at_call 31; (with_reducible refine qafter (HAR2.out _ (HFA.out.below (After.below _))))) | (go_at_call 28; (with_reducible refine qafter_same (HWI.out _)))))
  refine wpQuiet_nil ?_
  rintro W3 ⟨r2, hr2⟩
  have hb3 : RowKit.Below w2.heap.size w2 W3 := by rw [hr2]; exact r2.below
  clear hr2 r2 f1
  go_wp2_with (fail)
  all_goals go_ret2
  all_goals exact ⟨_, rfl, bthen HB2.out hb3, fun _ => ⟨vN, HFA.out.below hb3⟩⟩
def bsE (TE : Int) (M : MetD) (lw ls lc : Int) (li lb : Bool) (S : Tab) (n : Nat) (F : FliD) (t : Int) : HavD × Int :=
 if TE = 0 then besV (bestL (F.havK (lgT S n) (timT S n M.places.toNat) (opM M lw ls lc li lb) t false M.places.toNat)) else (hvz, TE)
theorem rBest_c (M : MetD) (vF vS : Value) (lw ls lc : Int) (li lb : Bool) (A : Option Addr) (n c : Nat) (S : Tab) (F : FliD) (vR : Value) (t : Int) (w : World) (hM : MetAt w vF vS M) (hc1 : n ≤ c) (hc2 : c ≤ 9223372036854775807) (hL : RecsAt w A n 3 (nV S)) (hR : SlI w vR F.m F.R) :
  Calls Tryz.prog 23 #[.agg #[.int .i64 M.places, .int .i64 M.any.a0, .int .i64 M.any.a1, .int .i64 M.any.a2, .int .i64 M.any.a3, .int .i64 M.any.a4, .int .i64 M.any.a5, .bool M.any.i, .bool M.any.s, .int .i64 M.mw, .int .i64 M.ms, .int .i64 M.mc, vF, vS], .agg #[.int .i64 lw, .int .i64 ls, .int .i64 lc, .bool li, .bool lb], .slice A n c, .agg #[vR, .int .i64 F.dep, .int .i64 F.fuel, .int .i64 F.burn, .int .i64 F.res], .int .i64 t] w fun e w' => e = .returned (.tuple #[.agg (hvC (bsE (tkE (nfE (netME M lw ls lc S n) M S n F) F (lgT S n) t) M lw ls lc li lb S n F t).1), .int .i64 (bsE (tkE (nfE (netME M lw ls lc S n) M S n F) F (lgT S n) t) M lw ls lc li lb S n F t).2]) ∧ RowKit.Below w.heap.size w w' := by
 have HM := hI9 hM
 have HL := hI9 hL
 have HR := hI9 hR
 clear hM hL hR
 have HNT := hI9 (fun w1 h1 h2 h3 => newTick_c M vF vS lw ls lc li lb A n c S F vR t w1 h1 hc1 hc2 h2 h3)
 have tok : True := trivial
 have tok2 : True := trivial
 have tok3 : True := trivial
 have HIN : ∀ NE, tkE NE F (lgT S n) t = 0 → NE = 0 ∧ inB t F.dep (F.arr (lgT S n)) = true := fun NE h => by
  unfold tkE at h
  by_cases h1 : NE = 0
  ·rw [if_pos h1] at h
   cases e : inB t F.dep (F.arr (lgT S n))
   ·rw [e] at h; cases h
   ·exact ⟨h1, rfl⟩
  ·rw [if_neg h1] at h; exact absurd h h1
 have HIN2 := HIN (nfE (netME M lw ls lc S n) M S n F)
 clear HIN
 have hok := fun h => nfM_ok (M := M) (lw := lw) (ls := ls) (lc := lc) (S := S) (n := n) (F := F) (HIN2 h).1
 have hir := fun h => inB_iff.1 (HIN2 h).2
 clear HIN2
 generalize tkE (nfE (netME M lw ls lc S n) M S n F) F (lgT S n) t = TE at *
 unfold bsE
 by_cases h0 : TE = 0
 case neg =>
  rw [if_neg h0]
  have hz : (TE != 0) = true := by simpa using h0
  clear h0 hok hir
  go_enter Tryz.func23, Tryz.ntmps23
  go_wp2_with (fail)
  have _x := frm4 w #[.int .i64 M.places, .int .i64 M.any.a0, .int .i64 M.any.a1, .int .i64 M.any.a2, .int .i64 M.any.a3, .int .i64 M.any.a4, .int .i64 M.any.a5, .bool M.any.i, .bool M.any.s, .int .i64 M.mw, .int .i64 M.ms, .int .i64 M.mc, vF, vS] 29 #[.int .i64 lw, .int .i64 ls, .int .i64 lc, .bool li, .bool lb] 31 #[vR, .int .i64 F.dep, .int .i64 F.fuel, .int .i64 F.burn, .int .i64 F.res] 37 #[.int .i64 0, .int .i64 0, .bool false] 67
  have HX := hI9 _x.1
  have HI := hI9 _x.2.1
  have HF := hI9 _x.2.2.1
  have HZ := hI9 _x.2.2.2.1
  have HB := hI9 _x.2.2.2.2.1
  have zW := _x.2.2.2.2.2
  clear _x
  generalize World.alloc (World.alloc (World.alloc (World.alloc w _) _) _) _ = W at *
  go_wp2_with (first | (have _t := tok; refine wpl_row rfl 29 (.tmp 5) rfl _ rfl _ 14 HX.out Tryz.rowMet rfl ?_; simp only [Act.put]; clear tok) | (have _t := tok3; refine wpl_row rfl 31 (.tmp 6) rfl _ rfl _ 5 HI.out Tryz.rowMin rfl ?_; simp only [Act.put]; clear tok3) | (have _t := tok2; refine wpl_row rfl 37 (.tmp 8) rfl _ rfl _ 5 HF.out Tryz.rowFli rfl ?_; simp only [Act.put]; clear tok2) | (go_at_call 43; (with_reducible refine (HNT.out _ (HM.out.below HB.out) (HL.out.below HB.out) (HR.out.below HB.out)).mono ?_); rintro e w1 ⟨v, rfl, hb1⟩; (obtain ⟨hb1, -⟩ := hb1); have nHX := hI9 (HX.out.below hb1); have nHI := hI9 (HI.out.below hb1); have nHF := hI9 (HF.out.below hb1); have nHZ := hI9 (HZ.out.below hb1); have nHB := hI9 (bthen HB.out hb1); have zz1 := hb1.size; clear HX HI HF HZ HB hb1; have HX := nHX; have HI := nHI; have HF := nHF; have HZ := nHZ; have HB := nHB; clear nHX nHI nHF nHZ nHB; (try clear zHZ); have zHZ := HZ.out.lt; (try clear cHZ0); have cHZ0 := HZ.out.cell 0; (try clear cHZ1); have cHZ1 := HZ.out.cell 1; (try clear cHZ2); have cHZ2 := HZ.out.cell 2; (try clear fHZ); have fHZ := fun i => HZ.out.frozen i))
  exact bodyPost_ret (res_ct rfl _ _ #[.int .i64 0, .int .i64 0, .bool false] 3 rfl (((HZ.out.set_ 0 _).set_ 1 _).set_ 2 _) Tryz.rowHav rfl) rfl ⟨rfl, bset (bset (bset HB.out (by omega) _) (by omega) _) (by omega) _⟩
 subst h0
 rw [if_pos rfl]
 obtain ⟨f3, f4, f5, f6, f7⟩ := hok rfl
 have hi := hir rfl
 have hti := timT_in f6 f4.2
 have HHV := hI9 (fun v vN w1 h hm => fhavens_c M vF vS v vN M.places.toNat (lgT S n) (timT S n M.places.toNat) F vR lw ls lc li lb t false w1 h hm f3 f4.2 f7 f5 hti hi.1 hi.2)
 have hlen := FliD.havK_len (F := F) (lt := lgT S n) (tt := timT S n M.places.toNat) (op := opM M lw ls lc li lb) (t := t) (dry := false) M.places.toNat
 have hl3 : (F.havK (lgT S n) (timT S n M.places.toNat) (opM M lw ls lc li lb) t false M.places.toNat).length ≤ 3000 := by omega
 clear f3 f4 f5 f6 f7 hti hi hok hir hlen
 generalize F.havK (lgT S n) (timT S n M.places.toNat) (opM M lw ls lc li lb) t false M.places.toNat = l at *
 go_enter Tryz.func23, Tryz.ntmps23
 go_wp2_with (fail)
 have _x := frm4 w #[.int .i64 M.places, .int .i64 M.any.a0, .int .i64 M.any.a1, .int .i64 M.any.a2, .int .i64 M.any.a3, .int .i64 M.any.a4, .int .i64 M.any.a5, .bool M.any.i, .bool M.any.s, .int .i64 M.mw, .int .i64 M.ms, .int .i64 M.mc, vF, vS] 29 #[.int .i64 lw, .int .i64 ls, .int .i64 lc, .bool li, .bool lb] 31 #[vR, .int .i64 F.dep, .int .i64 F.fuel, .int .i64 F.burn, .int .i64 F.res] 37 #[.int .i64 0, .int .i64 0, .bool false] 67
 have HX := hI9 _x.1
 have HI := hI9 _x.2.1
 have HF := hI9 _x.2.2.1
 have HZ := hI9 _x.2.2.2.1
 have HB := hI9 _x.2.2.2.2.1
 have zW := _x.2.2.2.2.2
 clear _x
 generalize World.alloc (World.alloc (World.alloc (World.alloc w _) _) _) _ = W at *
 go_wp2_with (first | (have _t := tok; refine wpl_row rfl 29 (.tmp 5) rfl _ rfl _ 14 HX.out Tryz.rowMet rfl ?_; simp only [Act.put]; clear tok) | (have _t := tok3; refine wpl_row rfl 31 (.tmp 6) rfl _ rfl _ 5 HI.out Tryz.rowMin rfl ?_; simp only [Act.put]; clear tok3) | (have _t := tok2; refine wpl_row rfl 37 (.tmp 8) rfl _ rfl _ 5 HF.out Tryz.rowFli rfl ?_; simp only [Act.put]; clear tok2))
 refine (HNT.out _ (HM.out.below HB.out) (HL.out.below HB.out) (HR.out.below HB.out)).mono ?_
 rintro e w2 ⟨v, rfl, hb2, hv⟩
 obtain ⟨vN, hfa⟩ := hv rfl
 have HFA := hI9 hfa
 obtain ⟨gx, vA, rfl, -⟩ := hfa
 clear hv HX HI HF
 have nHZ := hI9 (HZ.out.below hb2)
 have nHB := hI9 (bthen HB.out hb2)
 clear HZ HB hb2
 have HZ := nHZ
 have HB := nHB
 clear nHZ nHB
 go_wp2_with (fail)
 refine (HHV.out _ _ _ HFA.out (HM.out.below HB.out)).mono ?_
 rintro e w3 ⟨vO, rfl, hb3, hO⟩
 obtain ⟨AO, cO, rfl, -, -, hO⟩ := hO
 have hbe := hvbest_c AO cO l w3 hl3 hO
 clear hO HFA HHV
 have nHZ := hI9 (HZ.out.below hb3)
 have nHB := hI9 (bthen HB.out hb3)
 clear HZ HB hb3
 have HZ := nHZ
 have HB := nHB
 clear nHZ nHB
 rcases hbs : bestL l with _ | x
 ·rw [hbs] at hbe
  simp only [Option.getD_none, Option.isSome_none] at hbe
  unfold hvC hvz at hbe
  have HBS := hI9 hbs
  clear hbs
  go_wp2_with (fail)
  refine hbe.mono ?_
  clear hbe
  rintro e w4 ⟨rfl, hb4⟩
  have nHZ := hI9 (HZ.out.below hb4)
  have nHB := hI9 (bthen HB.out hb4)
  clear HZ HB hb4
  have HZ := nHZ
  have HB := nHB
  clear nHZ nHB
  have nZ := hI9 (HZ.out.alloc (.cells #[.int .i64 0, .int .i64 0, .bool false] 67))
  have z0 := nZ.out.cell 0
  have z1 := nZ.out.cell 1
  have z2 := nZ.out.cell 2
  have zf := fun i => nZ.out.frozen i
  simp only [gtA, gtS, gtZ] at z0 z1 z2
  go_wp2_with (fail)
  exact bodyPost_ret (res_ct rfl _ _ #[.int .i64 0, .int .i64 0, .bool false] 3 rfl (((nZ.out.set_ 0 _).set_ 1 _).set_ 2 _) Tryz.rowHav rfl) rfl ⟨by rw [HBS.out]; rfl, bset (bset (bset (bal HB.out _) (by omega) _) (by omega) _) (by omega) _⟩
 ·obtain ⟨xp, xt, xb⟩ := x
  rw [hbs] at hbe
  simp only [Option.getD_some, Option.isSome_some] at hbe
  unfold hvC at hbe
  dsimp only at hbe
  have HBS := hI9 hbs
  clear hbs
  go_wp2_with (fail)
  refine hbe.mono ?_
  clear hbe
  rintro e w4 ⟨rfl, hb4⟩
  have nHZ := hI9 (HZ.out.below hb4)
  have nHB := hI9 (bthen HB.out hb4)
  clear HZ HB hb4
  have HZ := nHZ
  have HB := nHB
  clear nHZ nHB
  have nZ := hI9 (HZ.out.alloc (.cells #[.int .i64 (xp : Int), .int .i64 xt, .bool xb] 67))
  have z0 := nZ.out.cell 0
  have z1 := nZ.out.cell 1
  have z2 := nZ.out.cell 2
  have zf := fun i => nZ.out.frozen i
  have y0 := (Blk.new w4 67 #[.int .i64 (xp : Int), .int .i64 xt, .bool xb]).cell 0
  have y1 := (Blk.new w4 67 #[.int .i64 (xp : Int), .int .i64 xt, .bool xb]).cell 1
  have y2 := (Blk.new w4 67 #[.int .i64 (xp : Int), .int .i64 xt, .bool xb]).cell 2
  simp only [gtA, gtS, gtZ] at z0 z1 z2 y0 y1 y2
  go_wp2_with (fail)
  exact bodyPost_ret (res_ct rfl _ _ #[.int .i64 (xp : Int), .int .i64 xt, .bool xb] 3 rfl (((nZ.out.set_ 0 _).set_ 1 _).set_ 2 _) Tryz.rowHav rfl) rfl ⟨by rw [HBS.out]; rfl, bset (bset (bset (bal HB.out _) (by omega) _) (by omega) _) (by omega) _⟩
end Go.Proofs.YtlabfpjlckdmfaaGreat
