/- Law: RouteHaven. -/
import Derived.Test.YtbgkbdhdkpjcdaaGreatJEA
import Derived.Test.YtbgkbdhdkpjcdaaGreatNdJ
import Derived.Test.YtbgkbdhdkpjcdaaGreatJAT
import Derived.Test.YtbgkbdhdkpjcdaaGreatNbH
import Derived.Test.YtbgkbdhdkpjcdaaGreatRwM
import Derived.Test.YtbgkbdhdkpjcdaaGreatJFA
import Derived.Test.YtbgkbdhdkpjcdaaGreatJBA
import Derived.Test.YtbgkbdhdkpjcdaaGreatNdK
set_option linter.all false
namespace Go.Proofs.YtbgkbdhdkpjcdaaGreat
open Go Go.RowKit Go.Proofs
set_option maxRecDepth 100000
set_option maxHeartbeats 8000000
theorem Tryz.sizeSky9 : (Tryz.prog.info? 25).map (·.size) = some 8 := by kernel_rfl
theorem haven_each {F : FliD} {P : Nat} {lt tt : Tab} {op : Nat → Int → Bool} (h : (F.prf lt tt op P).2.2 = true) {i : Nat} (hi : i < F.ticks lt) :
    (hvx (F.prf lt tt op P).1 i).p < P ∧ F.refR lt tt (F.dep + (i : Int)) (hvx (F.prf lt tt op P).1 i).p = ((hvx (F.prf lt tt op P).1 i).t, (hvx (F.prf lt tt op P).1 i).b) ∧ F.lasts (hvx (F.prf lt tt op P).1 i).t = true ∧ op (hvx (F.prf lt tt op P).1 i).p (hvx (F.prf lt tt op P).1 i).t = true := by
  have hx := (prf_each h).2 i hi
  generalize hvx (F.prf lt tt op P).1 i = x at *
  obtain ⟨p, hp, rfl, hb⟩ := FliD.havK_mem P hx
  unfold FliD.havB at hb
  simp only [Bool.and_eq_true, Bool.false_or] at hb
  refine ⟨hp, ?_, hb.2.2, hb.2.1⟩
  unfold FliD.refR
  exact if_pos hb.1
theorem open_facts {M : MetD} {lw ls lc : Int} {li lb : Bool} {p : Nat} {a : Int} (h : opM M lw ls lc li lb p a = true) : atE M (p : Int) a = 0 ∧ mayW M (p : Int) a = M.may (p : Int) a ∧ openB (M.may (p : Int) a) lw ls lc li lb = true := by
  unfold opM openV at h
  rw [Bool.and_eq_true, decide_eq_true_eq] at h
  have e := (opE_split h.1).2
  refine ⟨e, ?_, h.2⟩
  unfold mayW
  rw [if_pos e]
def norL (d : Int) : Option Int → Int
  | some k => k
  | none => d - 1
theorem nor_low {F : FliD} {lt tt : Tab} {r0 : Nat} {q : Option Int} (hd : F.dep ≤ F.arr lt) (hq : q = norR (fun t => F.lasts (F.reach lt tt t r0).1) (F.ticks lt) (F.arr lt)) : ∀ t : Int, F.dep ≤ t → norL F.dep q < t → t ≤ F.arr lt → F.lasts (F.reach lt tt t r0).1 = false := by
  intro t h1 h2 h3
  cases q with
  | some k => exact norR_some _ _ k hq.symm t h2 h3
  | none => exact norR_none _ _ hq.symm t (by unfold FliD.ticks; omega) h3
theorem nor_in {F : FliD} {g : Int → Bool} : ∀ (n : Nat) (t k : Int), norR g n t = some k → t - (n : Nat) < k ∧ k ≤ t
  | 0, t, k, h => by unfold norR at h; cases h
  | n + 1, t, k, h => by
    unfold norR at h
    by_cases e : g t = true
    · rw [if_pos e] at h
      obtain rfl := Option.some.inj h
      omega
    · rw [if_neg e] at h
      have := nor_in (F := F) n (t - 1) k h
      omega
def SafH (M : MetD) (vF vS : Value) (lw ls lc : Int) (li lb : Bool) (A : Option Addr) (n c : Nat) (S : Tab) (F : FliD) (vR : Value) (a : Int) (rs : Bool) (L : List HavD) (pe : Int) : Prop :=
  (∀ w1, MetAt w1 vF vS M → RecsAt w1 A n 3 (nV S) → SlI w1 vR F.m F.R → Calls Tryz.prog 40 #[.agg #[.int .i64 M.places, .int .i64 M.any.a0, .int .i64 M.any.a1, .int .i64 M.any.a2, .int .i64 M.any.a3, .int .i64 M.any.a4, .int .i64 M.any.a5, .bool M.any.i, .bool M.any.s, .int .i64 M.mw, .int .i64 M.ms, .int .i64 M.mc, vF, vS], .agg #[.int .i64 lw, .int .i64 ls, .int .i64 lc, .bool li, .bool lb], .slice A n c, .agg #[vR, .int .i64 F.dep, .int .i64 F.fuel, .int .i64 F.burn, .int .i64 F.res]] w1 fun r w' => r = .returned (.tuple #[.int .i64 a, .bool rs, .int .i64 0]) ∧ RowKit.Below w1.heap.size w1 w') ∧
  (∀ w1, MetAt w1 vF vS M → RecsAt w1 A n 3 (nV S) → SlI w1 vR F.m F.R → Calls Tryz.prog 50 #[.agg #[.int .i64 M.places, .int .i64 M.any.a0, .int .i64 M.any.a1, .int .i64 M.any.a2, .int .i64 M.any.a3, .int .i64 M.any.a4, .int .i64 M.any.a5, .bool M.any.i, .bool M.any.s, .int .i64 M.mw, .int .i64 M.ms, .int .i64 M.mc, vF, vS], .agg #[.int .i64 lw, .int .i64 ls, .int .i64 lc, .bool li, .bool lb], .slice A n c, .agg #[vR, .int .i64 F.dep, .int .i64 F.fuel, .int .i64 F.burn, .int .i64 F.res]] w1 fun e w' => ∃ vO, e = .returned (.tuple #[vO, .int .i64 pe]) ∧ RowKit.Below w1.heap.size w1 w' ∧ SlH w' vO L)
theorem safH_ok (M : MetD) (vF vS : Value) (lw ls lc : Int) (li lb : Bool) (A : Option Addr) (n c : Nat) (S : Tab) (F : FliD) (vR : Value) (hc1 : n ≤ c) (hc2 : c ≤ 9223372036854775807) (hnf : nfE (netME M lw ls lc S n) M S n F = 0) :
    ∃ a, SafH M vF vS lw ls lc li lb A n c S F vR a (F.prf (lgT S n) (timT S n M.places.toNat) (opM M lw ls lc li lb) M.places.toNat).2.2 (if (F.prf (lgT S n) (timT S n M.places.toNat) (opM M lw ls lc li lb) M.places.toNat).2.2 = true then (F.prf (lgT S n) (timT S n M.places.toNat) (opM M lw ls lc li lb) M.places.toNat).1 else []) (if (F.prf (lgT S n) (timT S n M.places.toNat) (opM M lw ls lc li lb) M.places.toNat).2.2 = true then 0 else 3) := by
  have h := fun w1 h1 h2 h3 => rSafe_c M vF vS lw ls lc li lb A n c S F vR w1 h1 hc1 hc2 h2 h3
  have g := fun w1 h1 h2 h3 => rProof_c M vF vS lw ls lc li lb A n c S F vR w1 h1 hc1 hc2 h2 h3
  unfold sfE at h
  unfold pfE at g
  rw [if_pos hnf] at h g
  generalize F.prf (lgT S n) (timT S n M.places.toNat) (opM M lw ls lc li lb) M.places.toNat = R at *
  obtain ⟨L, t, b⟩ := R
  refine ⟨t, h, ?_⟩
  cases b
  · exact g
  · exact g
theorem RouteHaven_c (M : MetD) (vF vS : Value) (lw ls lc : Int) (li lb : Bool) (A : Option Addr) (n c : Nat) (S : Tab) (F : FliD) (vR : Value) (z0 z1 z2 : Int) (z3 z4 : Bool) (w : World) (hM : MetAt w vF vS M) (hc1 : n ≤ c) (hc2 : c ≤ 9223372036854775807) (hL : RecsAt w A n 3 (nV S)) (hR : SlI w vR F.m F.R) :
   Calls Tryz.prog 13 #[.agg #[.int .i64 M.places, .int .i64 M.any.a0, .int .i64 M.any.a1, .int .i64 M.any.a2, .int .i64 M.any.a3, .int .i64 M.any.a4, .int .i64 M.any.a5, .bool M.any.i, .bool M.any.s, .int .i64 M.mw, .int .i64 M.ms, .int .i64 M.mc, vF, vS, .int .i64 lw, .int .i64 ls, .int .i64 lc, .bool li, .bool lb, .slice A n c], .agg #[vR, .int .i64 F.dep, .int .i64 F.fuel, .int .i64 F.burn, .int .i64 F.res], .agg #[.int .i64 z0, .int .i64 z1, .int .i64 z2, .bool z3, .bool z4]] w fun e w' => e = .returned (.bool true) ∧ RowKit.Below w.heap.size w w' := by
  have HM := Lib.hid hM
  have HL := Lib.hid hL
  have HR := Lib.hid hR
  obtain ⟨AR, cR, rfl, -, -, -⟩ := hR
  have HRT := Lib.hid (fun w1 h1 h2 h3 => l5right_c M vF vS lw ls lc li lb A n c S F (.slice AR F.m cR) w1 h1 hc1 hc2 h2 h3)
  have tok : True := trivial
  have tok2 : True := trivial
  have tok0 : True := trivial
  go_enter Tryz.func13, Tryz.ntmps13
  go_wp2_with (first | (have _t := tok0; generalize hWX : World.alloc (World.alloc (World.alloc w _) _) _ = W; clear tok0; have _x := tri_r w #[.int .i64 M.places, .int .i64 M.any.a0, .int .i64 M.any.a1, .int .i64 M.any.a2, .int .i64 M.any.a3, .int .i64 M.any.a4, .int .i64 M.any.a5, .bool M.any.i, .bool M.any.s, .int .i64 M.mw, .int .i64 M.ms, .int .i64 M.mc, vF, vS, .int .i64 lw, .int .i64 ls, .int .i64 lc, .bool li, .bool lb, .slice A n c] #[.slice AR F.m cR, .int .i64 F.dep, .int .i64 F.fuel, .int .i64 F.burn, .int .i64 F.res] #[.int .i64 z0, .int .i64 z1, .int .i64 z2, .bool z3, .bool z4] 34 37 57; rw [hWX] at _x; clear hWX; have HX := Lib.hid _x.1; have HY := Lib.hid _x.2.1; have HW := Lib.hid _x.2.2.1; have HB := Lib.hid _x.2.2.2; clear _x) | (have _t := tok; refine wpl_row rfl 34 (.tmp 3) rfl _ rfl #[.int .i64 M.places, .int .i64 M.any.a0, .int .i64 M.any.a1, .int .i64 M.any.a2, .int .i64 M.any.a3, .int .i64 M.any.a4, .int .i64 M.any.a5, .bool M.any.i, .bool M.any.s, .int .i64 M.mw, .int .i64 M.ms, .int .i64 M.mc, vF, vS, .int .i64 lw, .int .i64 ls, .int .i64 lc, .bool li, .bool lb, .slice A n c] 20 HX.out Tryz.rowPlan rfl ?_; simp only [Act.put]; clear tok) | (have _t := tok2; refine wpl_row rfl 37 (.tmp 4) rfl _ rfl #[.slice AR F.m cR, .int .i64 F.dep, .int .i64 F.fuel, .int .i64 F.burn, .int .i64 F.res] 5 HY.out Tryz.rowFli rfl ?_; simp only [Act.put]; clear tok2))
  refine (HRT.out _ (HM.out.below HB.out) (HL.out.below HB.out) (HR.out.below HB.out)).mono ?_
  rintro e w1 ⟨⟨bb, rfl, hgood⟩, hb1⟩
  have nHX := Lib.hid (HX.out.below hb1)
  have nHY := Lib.hid (HY.out.below hb1)
  have nHW := Lib.hid (HW.out.below hb1)
  have nHB := Lib.hid (bthen HB.out hb1)
  clear HX HY HW HB hb1
  have HX := nHX
  have HY := nHY
  have HW := nHW
  have HB := nHB
  clear nHX nHY nHW nHB
  cases bb
  case false =>
    clear hgood hM hL
    go_wp2_with (first | (go_at_call 26; (with_reducible refine (rworks_c _).mono ?_); rintro e w1 ⟨rfl, hb1⟩; have nHX := Lib.hid (HX.out.below hb1); have nHY := Lib.hid (HY.out.below hb1); have nHB := Lib.hid (bthen HB.out hb1); have zz1 := hb1.size; clear HX HY HB hb1; have HX := nHX; have HY := nHY; have HB := nHB; clear nHX nHY nHB))
    go_ret
    exact ⟨rfl, HB.out⟩
  obtain ⟨hme, hke⟩ := hgood rfl
  have hnf : nfE (netME M lw ls lc S n) M S n F = 0 := by rw [nfM_min, if_pos hme]; exact hke
  obtain ⟨a1, hsa, hpo⟩ := safH_ok M vF vS lw ls lc li lb A n c S F (.slice AR F.m cR) hc1 hc2 hnf
  obtain ⟨R, hRR⟩ : ∃ R, R = F.prf (lgT S n) (timT S n M.places.toNat) (opM M lw ls lc li lb) M.places.toNat := ⟨_, rfl⟩
  have hhe := fun hs i hi => haven_each (F := F) (P := M.places.toNat) (lt := lgT S n) (tt := timT S n M.places.toNat) (op := opM M lw ls lc li lb) hs (i := i) hi
  have hpe := fun hs => prf_each (F := F) (P := M.places.toNat) (lt := lgT S n) (tt := timT S n M.places.toNat) (op := opM M lw ls lc li lb) hs
  have hpw := fun hs => proves_own (F := F) (P := M.places.toNat) (lt := lgT S n) (tt := timT S n M.places.toNat) (op := opM M lw ls lc li lb) hs
  rw [← hRR] at hsa hpo hhe hpe hpw
  have HRR := Lib.hid hRR
  clear hRR
  obtain ⟨L, rt, rs⟩ := R
  dsimp only at hsa hpo hhe hpe hpw
  have hnr := fun w1 h1 h2 h3 => rNoReturn_c M vF vS A n c S F (.slice AR F.m cR) w1 h1 hc1 hc2 h2 h3
  unfold norE at hnr
  rw [if_pos hke] at hnr
  obtain ⟨nr, hnq⟩ : ∃ nr, nr = norR (fun t => F.lasts (F.reach (lgT S n) (timT S n M.places.toNat) t (F.R 0).toNat).1) (F.ticks (lgT S n)) (F.arr (lgT S n)) := ⟨_, rfl⟩
  rw [← hnq] at hnr
  obtain ⟨f3, f4, f5, f6, f7⟩ := nfM_ok hnf
  obtain ⟨hm8, hd8, hf8, hr8, hb8⟩ := FliD.nums_iff.1 f7.1
  have hdl := FliD.dep_le f7
  have hend := f7.2.2
  have har : F.at_ (lgT S n) (F.m - 1) = F.arr (lgT S n) := rfl
  have hr0 := f7.2.1.1 0 (by omega)
  have hrz : F.R 0 = ((F.R 0).toNat : Int) := by omega
  have hlow := nor_low hdl hnq
  obtain ⟨la, hla⟩ : ∃ la, la = norL F.dep nr := ⟨_, rfl⟩
  rw [← hla] at hlow
  have hlab : F.dep - 1 ≤ la ∧ la ≤ 2000 := by
    rw [hla]
    cases nr with
    | none => show F.dep - 1 ≤ F.dep - 1 ∧ F.dep - 1 ≤ 2000; omega
    | some k =>
      have := nor_in (F := F) _ _ k hnq.symm
      unfold FliD.ticks at this
      show F.dep - 1 ≤ k ∧ k ≤ 2000
      omega
  have HVT : Hid (∀ t, F.dep ≤ t → t ≤ F.arr (lgT S n) → la < t → ∀ w1, MetAt w1 vF vS M → RecsAt w1 A n 3 (nV S) → SlI w1 (.slice AR F.m cR) F.m F.R → Calls Tryz.prog 27 #[.agg #[.int .i64 M.places, .int .i64 M.any.a0, .int .i64 M.any.a1, .int .i64 M.any.a2, .int .i64 M.any.a3, .int .i64 M.any.a4, .int .i64 M.any.a5, .bool M.any.i, .bool M.any.s, .int .i64 M.mw, .int .i64 M.ms, .int .i64 M.mc, vF, vS], .agg #[.int .i64 lw, .int .i64 ls, .int .i64 lc, .bool li, .bool lb], .slice A n c, .agg #[.slice AR F.m cR, .int .i64 F.dep, .int .i64 F.fuel, .int .i64 F.burn, .int .i64 F.res], .int .i64 t] w1 fun e w' => ∃ vO, e = .returned (.tuple #[vO, .int .i64 0]) ∧ RowKit.Below w1.heap.size w1 w' ∧ ∃ l : List HavD, l.length ≤ 8 ∧ SlH w' vO l ∧ ∀ i, i < l.length → (((hvx l i).p : Int) == F.R 0) = false) := Lib.hid fun t h0 h1 h2 w1 g1 g2 g3 => by
    have h := rHavensW_c M vF vS lw ls lc li lb A n c S F (.slice AR F.m cR) t w1 g1 hc1 hc2 g2 g3
    have htk : tkE (nfE (netME M lw ls lc S n) M S n F) F (lgT S n) t = 0 := by
      unfold tkE
      rw [if_pos hnf, if_pos (inB_iff.2 ⟨h0, h1⟩)]
    rw [htk] at h
    unfold hvW at h
    rw [if_pos rfl] at h
    refine h.mono ?_
    rintro e w' ⟨vO, rfl, hb, hs⟩
    refine ⟨vO, rfl, hb, _, ?_, hs, fun i hi => ?_⟩
    · have := FliD.havK_len (F := F) (lt := lgT S n) (tt := timT S n M.places.toNat) (op := opM M lw ls lc li lb) (t := t) (dry := false) M.places.toNat
      have := f4.2
      omega
    · have := no_first (hlow t h0 h2 h1) _ (hvx_mem hi)
      rw [hrz]
      exact beq_eq_false_iff_ne.2 (by omega)
  have hal := fun w1 h1 h2 h3 => r5Arrive_c M vF vS A n c S F (.slice AR F.m cR) w1 h1 hc1 hc2 h2 h3
  rw [hke] at hal
  have HMZ := Lib.hid (show F.m - 1 < F.m by omega)
  obtain ⟨ar, har2⟩ : ∃ ar, ar = F.arr (lgT S n) := ⟨_, rfl⟩
  have hat : F.at_ (lgT S n) (F.m - 1) = ar := har2.symm
  rw [← har2] at HVT hdl
  have hend2 : ar ≤ 2000 := by rw [har2]; exact hend
  have HAT := Lib.hid hat
  have HAR3 := Lib.hid har2
  have HAR4 := Lib.hid hat
  obtain ⟨m1, hm1⟩ : ∃ m1, m1 = F.m - 1 := ⟨_, rfl⟩
  have hmz : IntKind.i64.wrap ((F.m : Int) - 1) = (m1 : Int) := by rw [IntKind.wrap_i64]; omega
  have hmlt : (m1 : Int) < (F.m : Int) := by omega
  rw [← hm1] at HAT HMZ
  obtain ⟨t0, ht0⟩ : ∃ t0, t0 = max F.dep (la + 1) := ⟨_, rfl⟩
  have hwla : IntKind.i64.wrap (la + 1) = la + 1 := by rw [IntKind.wrap_i64]; omega
  have hwd1 : IntKind.i64.wrap (F.dep - 1) = F.dep - 1 := by rw [IntKind.wrap_i64]; omega
  obtain ⟨NT, hNT⟩ : ∃ NT, NT = (ar - t0 + 1).toNat := ⟨_, rfl⟩
  have HT0 := Lib.hid ht0
  have HNT := Lib.hid hNT
  have HLAB := Lib.hid hlab
  have HPRF := Lib.hid (And.intro f3 (And.intro f4 (And.intro f5 (And.intro f6 f7))))
  have HSA := Lib.hid hsa
  have HNR := Lib.hid hnr
  have HAL := Lib.hid hal
  have HME := Lib.hid hme
  have HNF := Lib.hid hnf
  have HLA := Lib.hid hla
  have HDL := Lib.hid hdl
  have HEN := Lib.hid hend2
  have HHE := Lib.hid hhe
  have HPE := Lib.hid hpe
  have HPW := Lib.hid hpw
  clear hhe hpe hpw
  have HPO := Lib.hid hpo
  clear hsa hpo hnr hal hme hke hnf hla hnq hlow hlab f3 f4 f5 f6 f7 hend har hr0 hrz hat ht0 hNT hM hL hgood har2 hm1 hdl hend2 hm8 hr8 hb8
  cases rs
  case false =>
    cases nr with
    | none =>
      obtain rfl : la = F.dep - 1 := HLA.out
      have x19 := HX.out.cell 19
      have y1 := HY.out.cell 1
      simp only [List.getElem?_toArray, List.getElem?_cons_succ, List.getElem?_cons_zero] at x19 y1
      have tok2 : True := trivial
      have tok3 : True := trivial
      have tok4 : True := trivial
      go_wp2_with (first | (have _t := tok3; refine wpl_mid rfl 29 _ rfl w.heap.size 0 rfl 34 #[.int .i64 M.places, .int .i64 M.any.a0, .int .i64 M.any.a1, .int .i64 M.any.a2, .int .i64 M.any.a3, .int .i64 M.any.a4, .int .i64 M.any.a5, .bool M.any.i, .bool M.any.s, .int .i64 M.mw, .int .i64 M.ms, .int .i64 M.mc, vF, vS, .int .i64 lw, .int .i64 ls, .int .i64 lc, .bool li, .bool lb, .slice A n c] #[.int .i64 M.places, .int .i64 M.any.a0, .int .i64 M.any.a1, .int .i64 M.any.a2, .int .i64 M.any.a3, .int .i64 M.any.a4, .int .i64 M.any.a5, .bool M.any.i, .bool M.any.s, .int .i64 M.mw, .int .i64 M.ms, .int .i64 M.mc, vF, vS] 14 HX.out Tryz.rowMet [] [.int .i64 lw, .int .i64 ls, .int .i64 lc, .bool li, .bool lb, .slice A n c] rfl rfl rfl ?_; simp only [Act.put]; clear tok3) | (have _t := tok4; refine wpl_mid rfl 31 _ rfl w.heap.size 14 rfl 34 #[.int .i64 M.places, .int .i64 M.any.a0, .int .i64 M.any.a1, .int .i64 M.any.a2, .int .i64 M.any.a3, .int .i64 M.any.a4, .int .i64 M.any.a5, .bool M.any.i, .bool M.any.s, .int .i64 M.mw, .int .i64 M.ms, .int .i64 M.mc, vF, vS, .int .i64 lw, .int .i64 ls, .int .i64 lc, .bool li, .bool lb, .slice A n c] #[.int .i64 lw, .int .i64 ls, .int .i64 lc, .bool li, .bool lb] 5 HX.out Tryz.rowMin [.int .i64 M.places, .int .i64 M.any.a0, .int .i64 M.any.a1, .int .i64 M.any.a2, .int .i64 M.any.a3, .int .i64 M.any.a4, .int .i64 M.any.a5, .bool M.any.i, .bool M.any.s, .int .i64 M.mw, .int .i64 M.ms, .int .i64 M.mc, vF, vS] [.slice A n c] rfl rfl rfl ?_; simp only [Act.put]; clear tok4) | (have _t := tok2; refine wpl_row rfl 37 (.tmp 4) rfl _ rfl #[.slice AR F.m cR, .int .i64 F.dep, .int .i64 F.fuel, .int .i64 F.burn, .int .i64 F.res] 5 HY.out Tryz.rowFli rfl ?_; simp only [Act.put]; clear tok2))
      refine (HSA.out _ (HM.out.below HB.out) (HL.out.below HB.out) (HR.out.below HB.out)).mono ?_
      rintro e w2 ⟨rfl, hbX⟩
      clear x19 y1
      have nHX := Lib.hid (HX.out.below hbX)
      have nHY := Lib.hid (HY.out.below hbX)
      have nHW := Lib.hid (HW.out.below hbX)
      have nHB := Lib.hid (bthen HB.out hbX)
      clear HX HY HW HB hbX
      have HX := nHX
      have HY := nHY
      have HW := nHW
      have HB := nHB
      clear nHX nHY nHW nHB
      have x19 := HX.out.cell 19
      have y1 := HY.out.cell 1
      simp only [List.getElem?_toArray, List.getElem?_cons_succ, List.getElem?_cons_zero] at x19 y1
      have tok2 : True := trivial
      have tok3 : True := trivial
      have tok4 : True := trivial
      go_wp2_with (first | (have _t := tok3; refine wpl_mid rfl 29 _ rfl w.heap.size 0 rfl 34 #[.int .i64 M.places, .int .i64 M.any.a0, .int .i64 M.any.a1, .int .i64 M.any.a2, .int .i64 M.any.a3, .int .i64 M.any.a4, .int .i64 M.any.a5, .bool M.any.i, .bool M.any.s, .int .i64 M.mw, .int .i64 M.ms, .int .i64 M.mc, vF, vS, .int .i64 lw, .int .i64 ls, .int .i64 lc, .bool li, .bool lb, .slice A n c] #[.int .i64 M.places, .int .i64 M.any.a0, .int .i64 M.any.a1, .int .i64 M.any.a2, .int .i64 M.any.a3, .int .i64 M.any.a4, .int .i64 M.any.a5, .bool M.any.i, .bool M.any.s, .int .i64 M.mw, .int .i64 M.ms, .int .i64 M.mc, vF, vS] 14 HX.out Tryz.rowMet [] [.int .i64 lw, .int .i64 ls, .int .i64 lc, .bool li, .bool lb, .slice A n c] rfl rfl rfl ?_; simp only [Act.put]; clear tok3) | (have _t := tok4; refine wpl_mid rfl 31 _ rfl w.heap.size 14 rfl 34 #[.int .i64 M.places, .int .i64 M.any.a0, .int .i64 M.any.a1, .int .i64 M.any.a2, .int .i64 M.any.a3, .int .i64 M.any.a4, .int .i64 M.any.a5, .bool M.any.i, .bool M.any.s, .int .i64 M.mw, .int .i64 M.ms, .int .i64 M.mc, vF, vS, .int .i64 lw, .int .i64 ls, .int .i64 lc, .bool li, .bool lb, .slice A n c] #[.int .i64 lw, .int .i64 ls, .int .i64 lc, .bool li, .bool lb] 5 HX.out Tryz.rowMin [.int .i64 M.places, .int .i64 M.any.a0, .int .i64 M.any.a1, .int .i64 M.any.a2, .int .i64 M.any.a3, .int .i64 M.any.a4, .int .i64 M.any.a5, .bool M.any.i, .bool M.any.s, .int .i64 M.mw, .int .i64 M.ms, .int .i64 M.mc, vF, vS] [.slice A n c] rfl rfl rfl ?_; simp only [Act.put]; clear tok4) | (have _t := tok2; refine wpl_row rfl 37 (.tmp 4) rfl _ rfl #[.slice AR F.m cR, .int .i64 F.dep, .int .i64 F.fuel, .int .i64 F.burn, .int .i64 F.res] 5 HY.out Tryz.rowFli rfl ?_; simp only [Act.put]; clear tok2))
      refine (HPO.out _ (HM.out.below HB.out) (HL.out.below HB.out) (HR.out.below HB.out)).mono ?_
      rintro e w3 ⟨vP, rfl, hbX, hsl⟩
      obtain ⟨AP, cP, rfl, hq1, hq2, hsl⟩ := hsl
      have HSL := Lib.hid hsl
      clear x19 y1 hsl
      have nHX := Lib.hid (HX.out.below hbX)
      have nHY := Lib.hid (HY.out.below hbX)
      have nHW := Lib.hid (HW.out.below hbX)
      have nHB := Lib.hid (bthen HB.out hbX)
      clear HX HY HW HB hbX
      have HX := nHX
      have HY := nHY
      have HW := nHW
      have HB := nHB
      clear nHX nHY nHW nHB
      have x19 := HX.out.cell 19
      have y1 := HY.out.cell 1
      simp only [List.getElem?_toArray, List.getElem?_cons_succ, List.getElem?_cons_zero] at x19 y1
      have tok2 : True := trivial
      have tok3 : True := trivial
      have tok4 : True := trivial
      go_wp2_with (first | (have _t := tok3; refine wpl_mid rfl 29 _ rfl w.heap.size 0 rfl 34 #[.int .i64 M.places, .int .i64 M.any.a0, .int .i64 M.any.a1, .int .i64 M.any.a2, .int .i64 M.any.a3, .int .i64 M.any.a4, .int .i64 M.any.a5, .bool M.any.i, .bool M.any.s, .int .i64 M.mw, .int .i64 M.ms, .int .i64 M.mc, vF, vS, .int .i64 lw, .int .i64 ls, .int .i64 lc, .bool li, .bool lb, .slice A n c] #[.int .i64 M.places, .int .i64 M.any.a0, .int .i64 M.any.a1, .int .i64 M.any.a2, .int .i64 M.any.a3, .int .i64 M.any.a4, .int .i64 M.any.a5, .bool M.any.i, .bool M.any.s, .int .i64 M.mw, .int .i64 M.ms, .int .i64 M.mc, vF, vS] 14 HX.out Tryz.rowMet [] [.int .i64 lw, .int .i64 ls, .int .i64 lc, .bool li, .bool lb, .slice A n c] rfl rfl rfl ?_; simp only [Act.put]; clear tok3) | (have _t := tok2; refine wpl_row rfl 37 (.tmp 4) rfl _ rfl #[.slice AR F.m cR, .int .i64 F.dep, .int .i64 F.fuel, .int .i64 F.burn, .int .i64 F.res] 5 HY.out Tryz.rowFli rfl ?_; simp only [Act.put]; clear tok2))
      refine (HNR.out _ (HM.out.below HB.out) (HL.out.below HB.out) (HR.out.below HB.out)).mono ?_
      rintro e w4 ⟨rfl, hbX⟩
      clear x19 y1
      have nHX := Lib.hid (HX.out.below hbX)
      have nHY := Lib.hid (HY.out.below hbX)
      have nHW := Lib.hid (HW.out.below hbX)
      have nHSL := Lib.hid (HSL.out.below hbX)
      have nHB := Lib.hid (bthen HB.out hbX)
      clear HX HY HW HSL HB hbX
      have HX := nHX
      have HY := nHY
      have HW := nHW
      have HSL := nHSL
      have HB := nHB
      clear nHX nHY nHW nHSL nHB
      have x19 := HX.out.cell 19
      have y1 := HY.out.cell 1
      simp only [List.getElem?_toArray, List.getElem?_cons_succ, List.getElem?_cons_zero] at x19 y1
      have tok2 : True := trivial
      have tok3 : True := trivial
      have tok4 : True := trivial
      unfold norV
      go_wp2_with (first | (have _t := tok3; refine wpl_mid rfl 29 _ rfl w.heap.size 0 rfl 34 #[.int .i64 M.places, .int .i64 M.any.a0, .int .i64 M.any.a1, .int .i64 M.any.a2, .int .i64 M.any.a3, .int .i64 M.any.a4, .int .i64 M.any.a5, .bool M.any.i, .bool M.any.s, .int .i64 M.mw, .int .i64 M.ms, .int .i64 M.mc, vF, vS, .int .i64 lw, .int .i64 ls, .int .i64 lc, .bool li, .bool lb, .slice A n c] #[.int .i64 M.places, .int .i64 M.any.a0, .int .i64 M.any.a1, .int .i64 M.any.a2, .int .i64 M.any.a3, .int .i64 M.any.a4, .int .i64 M.any.a5, .bool M.any.i, .bool M.any.s, .int .i64 M.mw, .int .i64 M.ms, .int .i64 M.mc, vF, vS] 14 HX.out Tryz.rowMet [] [.int .i64 lw, .int .i64 ls, .int .i64 lc, .bool li, .bool lb, .slice A n c] rfl rfl rfl ?_; simp only [Act.put]; clear tok3) | (have _t := tok2; refine wpl_row rfl 37 (.tmp 4) rfl _ rfl #[.slice AR F.m cR, .int .i64 F.dep, .int .i64 F.fuel, .int .i64 F.burn, .int .i64 F.res] 5 HY.out Tryz.rowFli rfl ?_; simp only [Act.put]; clear tok2))
      refine (HAL.out _ (HM.out.below HB.out) (HL.out.below HB.out) (HR.out.below HB.out)).mono ?_
      rintro e w5 ⟨vA, rfl, hbX, hva⟩
      obtain ⟨A7, c7, rfl, e2, e3, e4⟩ := hva.1 rfl
      obtain ⟨b7, o7, rfl, hb7, hc7⟩ := e4 (by have := HMZ.out; omega)
      have cl : w5.cell? ⟨b7, o7 + m1, none⟩ = some (.int .i64 (F.at_ (lgT S n) m1)) := by have := hc7 m1 HMZ.out 0 (by omega); rw [Nat.mul_one, Nat.add_zero] at this; exact this
      rw [HAT.out] at cl
      clear x19 y1 e4 hc7 hva hb7
      have nHX := Lib.hid (HX.out.below hbX)
      have nHY := Lib.hid (HY.out.below hbX)
      have nHW := Lib.hid (HW.out.below hbX)
      have nHSL := Lib.hid (HSL.out.below hbX)
      have nHB := Lib.hid (bthen HB.out hbX)
      clear HX HY HW HSL HB hbX
      have HX := nHX
      have HY := nHY
      have HW := nHW
      have HSL := nHSL
      have HB := nHB
      clear nHX nHY nHW nHSL nHB
      have x19 := HX.out.cell 19
      have y1 := HY.out.cell 1
      simp only [List.getElem?_toArray, List.getElem?_cons_succ, List.getElem?_cons_zero] at x19 y1
      have tok2 : True := trivial
      have tok3 : True := trivial
      have tok4 : True := trivial
      go_wp2_with (fail)
      clear hwla hwd1 hmz
      have HW0 := Lib.hid (RowKit.Below.refl w5.heap.size w5)
      go_loopg [17] NT (fun gy tv wr => ∃ j : Nat, tv = .int .i64 (t0 + j) ∧ j ≤ NT ∧ NT - j ≤ gy ∧ Hid (RowKit.Below w5.heap.size w5 wr))
      case atStart => exact ⟨0, by congr 1; have := HT0.out; omega, Nat.zero_le _, Nat.sub_le _ _, HW0⟩
      case round =>
        clear HW0
        obtain ⟨j, rfl, hj, hgy, HV⟩ := hrel
        have ht0 := HT0.out
        have hnt := HNT.out
        have hen := HEN.out
        have hlb := HLAB.out
        by_cases hlt : j < NT
        case pos =>
          have hle : t0 + (j : Int) ≤ ar := by omega
          have hvt := HVT.out (t0 + (j : Int)) (by omega) (by omega) (by omega)
          have HVTT := Lib.hid hvt
          have ht3 : 0 ≤ t0 + (j : Int) ∧ t0 + (j : Int) ≤ 3000 := by omega
          have nX := Lib.hid (HX.out.below HV.out)
          have nY := Lib.hid (HY.out.below HV.out)
          have HBV := Lib.hid (bthen HB.out HV.out)
          have x19 := nX.out.cell 19
          simp only [List.getElem?_toArray, List.getElem?_cons_succ, List.getElem?_cons_zero] at x19
          have tok2 : True := trivial
          have tok3 : True := trivial
          have tok4 : True := trivial
          obtain ⟨tt0, htt⟩ : ∃ tt0, tt0 = t0 + (j : Int) := ⟨_, rfl⟩
          rw [← htt] at HVTT hle ht3 ⊢
          have hts : t0 + ((j + 1 : Nat) : Int) = tt0 + 1 := by omega
          have HTS := Lib.hid hts
          clear ht0 hnt hen hlb hvt htt hts
          go_wp2_with (first | (have _t := tok3; refine wpl_mid rfl 29 _ rfl w.heap.size 0 rfl 34 #[.int .i64 M.places, .int .i64 M.any.a0, .int .i64 M.any.a1, .int .i64 M.any.a2, .int .i64 M.any.a3, .int .i64 M.any.a4, .int .i64 M.any.a5, .bool M.any.i, .bool M.any.s, .int .i64 M.mw, .int .i64 M.ms, .int .i64 M.mc, vF, vS, .int .i64 lw, .int .i64 ls, .int .i64 lc, .bool li, .bool lb, .slice A n c] #[.int .i64 M.places, .int .i64 M.any.a0, .int .i64 M.any.a1, .int .i64 M.any.a2, .int .i64 M.any.a3, .int .i64 M.any.a4, .int .i64 M.any.a5, .bool M.any.i, .bool M.any.s, .int .i64 M.mw, .int .i64 M.ms, .int .i64 M.mc, vF, vS] 14 nX.out Tryz.rowMet [] [.int .i64 lw, .int .i64 ls, .int .i64 lc, .bool li, .bool lb, .slice A n c] rfl rfl rfl ?_; simp only [Act.put]; clear tok3) | (have _t := tok4; refine wpl_mid rfl 31 _ rfl w.heap.size 14 rfl 34 #[.int .i64 M.places, .int .i64 M.any.a0, .int .i64 M.any.a1, .int .i64 M.any.a2, .int .i64 M.any.a3, .int .i64 M.any.a4, .int .i64 M.any.a5, .bool M.any.i, .bool M.any.s, .int .i64 M.mw, .int .i64 M.ms, .int .i64 M.mc, vF, vS, .int .i64 lw, .int .i64 ls, .int .i64 lc, .bool li, .bool lb, .slice A n c] #[.int .i64 lw, .int .i64 ls, .int .i64 lc, .bool li, .bool lb] 5 nX.out Tryz.rowMin [.int .i64 M.places, .int .i64 M.any.a0, .int .i64 M.any.a1, .int .i64 M.any.a2, .int .i64 M.any.a3, .int .i64 M.any.a4, .int .i64 M.any.a5, .bool M.any.i, .bool M.any.s, .int .i64 M.mw, .int .i64 M.ms, .int .i64 M.mc, vF, vS] [.slice A n c] rfl rfl rfl ?_; simp only [Act.put]; clear tok4) | (have _t := tok2; refine wpl_row rfl 37 (.tmp 4) rfl _ rfl #[.slice AR F.m cR, .int .i64 F.dep, .int .i64 F.fuel, .int .i64 F.burn, .int .i64 F.res] 5 nY.out Tryz.rowFli rfl ?_; simp only [Act.put]; clear tok2))
          refine (HVTT.out _ (HM.out.below HBV.out) (HL.out.below HBV.out) (HR.out.below HBV.out)).mono ?_
          rintro e w7 ⟨vO, rfl, hbX, ll, hll, hsl, hne⟩
          obtain ⟨AO, cO, rfl, -, -, hO⟩ := hsl
          have HO := Lib.hid hO
          have HNE := Lib.hid hne
          have nV := Lib.hid (bthen HV.out hbX)
          obtain ⟨lk, hlk⟩ : ∃ lk, lk = ll.length := ⟨_, rfl⟩
          rw [← hlk] at HO HNE hll ⊢
          clear x19 HV HBV nX nY hbX hO hne hlk
          go_wp2_with (fail)
          have HU0 := Lib.hid (RowKit.Below.refl w7.heap.size w7)
          go_loopg [20] lk (fun gy iv wr => ∃ i : Nat, iv = .int .i64 i ∧ i ≤ lk ∧ lk - i ≤ gy ∧ Hid (RowKit.Below w7.heap.size w7 wr))
          case atStart => exact ⟨0, rfl, Nat.zero_le _, Nat.sub_le _ _, HU0⟩
          case round =>
            clear HU0
            obtain ⟨i, rfl, hi, hgi, HU⟩ := hrel
            by_cases hlti : i < lk
            case pos =>
              have hltz : (i : Int) < (lk : Int) := by omega
              obtain ⟨bO, oO, rfl, hbO, hcO⟩ := HO.out (by omega)
              have a0 : wr.cell? ⟨bO, oO + i * 3, none⟩ = some (.int .i64 (hvx ll i).p) := (HU.out.cell (p := ⟨bO, oO + i * 3, none⟩) hbO).trans (hcO i hlti 0 (by omega))
              have hn := HNE.out i hlti
              have HBU := Lib.hid (bthen (bthen HB.out nV.out) HU.out)
              have y0 := ((HY.out.below nV.out).below HU.out).cell 0
              simp only [List.getElem?_toArray, List.getElem?_cons_succ, List.getElem?_cons_zero] at y0
              obtain ⟨A9, c9, e9, q9, q10, r9⟩ := HR.out.below HBU.out
              cases e9
              obtain ⟨b9, o9, rfl, hb9, hc9⟩ := r9 (by have := HMZ.out; omega)
              have d0 : wr.cell? ⟨b9, o9, none⟩ = some (.int .i64 (F.R 0)) := by have := hc9 0 (by have := HMZ.out; omega) 0 (by omega); rw [Nat.zero_mul, Nat.add_zero] at this; exact this
              have hm0 : (0 : Int) < (F.m : Int) := by have := HMZ.out; omega
              generalize ((hvx ll i).p : Int) = pp at *
              clear hcO r9 hc9
              go_wp2_with (fail)
              go_quiet (fail)
              have nU := Lib.hid (bdn HU.out nq)
              clear HU HBU a0 y0 d0
              generalize World.drewN _ nq = wq at *
              go_wp2_with (fail)
              go_roundg (lk - (i + 1))
              case measure => omega
              case rel => exact ⟨i + 1, by first | rfl | go_num | (congr 1; omega), by omega, Nat.le_refl _, nU⟩
            obtain rfl : lk = i := by omega
            have hnlt : ¬ (lk : Int) < (lk : Int) := by omega
            have nV2 := Lib.hid (bthen nV.out HU.out)
            clear HU nV
            go_wp2_with (fail)
            go_roundg (NT - (j + 1))
            case measure => omega
            case rel => exact ⟨j + 1, by rw [HTS.out], by omega, Nat.le_refl _, nV2⟩
        have hgt : ¬ t0 + (j : Int) ≤ ar := by omega
        have hV2 := HV.out
        clear ht0 hnt hen hlb HV
        have nHX := Lib.hid (HX.out.below hV2)
        have nHY := Lib.hid (HY.out.below hV2)
        have nHW := Lib.hid (HW.out.below hV2)
        have nHSL := Lib.hid (HSL.out.below hV2)
        have nHB := Lib.hid (bthen HB.out hV2)
        clear HX HY HW HSL HB hV2
        have HX := nHX
        have HY := nHY
        have HW := nHW
        have HSL := nHSL
        have HB := nHB
        clear nHX nHY nHW nHSL nHB
        go_wp2_with (first | (go_at_call 26; (with_reducible refine (rworks_c _).mono ?_); rintro e w1 ⟨rfl, hb1⟩; have nHX := Lib.hid (HX.out.below hb1); have nHY := Lib.hid (HY.out.below hb1); have nHB := Lib.hid (bthen HB.out hb1); have zz1 := hb1.size; clear HX HY HB hb1; have HX := nHX; have HY := nHY; have HB := nHB; clear nHX nHY nHB))
        go_ret
        exact ⟨rfl, HB.out⟩
    | some kk =>
      obtain rfl : la = kk := HLA.out
      have x19 := HX.out.cell 19
      have y1 := HY.out.cell 1
      simp only [List.getElem?_toArray, List.getElem?_cons_succ, List.getElem?_cons_zero] at x19 y1
      have tok2 : True := trivial
      have tok3 : True := trivial
      have tok4 : True := trivial
      go_wp2_with (first | (have _t := tok3; refine wpl_mid rfl 29 _ rfl w.heap.size 0 rfl 34 #[.int .i64 M.places, .int .i64 M.any.a0, .int .i64 M.any.a1, .int .i64 M.any.a2, .int .i64 M.any.a3, .int .i64 M.any.a4, .int .i64 M.any.a5, .bool M.any.i, .bool M.any.s, .int .i64 M.mw, .int .i64 M.ms, .int .i64 M.mc, vF, vS, .int .i64 lw, .int .i64 ls, .int .i64 lc, .bool li, .bool lb, .slice A n c] #[.int .i64 M.places, .int .i64 M.any.a0, .int .i64 M.any.a1, .int .i64 M.any.a2, .int .i64 M.any.a3, .int .i64 M.any.a4, .int .i64 M.any.a5, .bool M.any.i, .bool M.any.s, .int .i64 M.mw, .int .i64 M.ms, .int .i64 M.mc, vF, vS] 14 HX.out Tryz.rowMet [] [.int .i64 lw, .int .i64 ls, .int .i64 lc, .bool li, .bool lb, .slice A n c] rfl rfl rfl ?_; simp only [Act.put]; clear tok3) | (have _t := tok4; refine wpl_mid rfl 31 _ rfl w.heap.size 14 rfl 34 #[.int .i64 M.places, .int .i64 M.any.a0, .int .i64 M.any.a1, .int .i64 M.any.a2, .int .i64 M.any.a3, .int .i64 M.any.a4, .int .i64 M.any.a5, .bool M.any.i, .bool M.any.s, .int .i64 M.mw, .int .i64 M.ms, .int .i64 M.mc, vF, vS, .int .i64 lw, .int .i64 ls, .int .i64 lc, .bool li, .bool lb, .slice A n c] #[.int .i64 lw, .int .i64 ls, .int .i64 lc, .bool li, .bool lb] 5 HX.out Tryz.rowMin [.int .i64 M.places, .int .i64 M.any.a0, .int .i64 M.any.a1, .int .i64 M.any.a2, .int .i64 M.any.a3, .int .i64 M.any.a4, .int .i64 M.any.a5, .bool M.any.i, .bool M.any.s, .int .i64 M.mw, .int .i64 M.ms, .int .i64 M.mc, vF, vS] [.slice A n c] rfl rfl rfl ?_; simp only [Act.put]; clear tok4) | (have _t := tok2; refine wpl_row rfl 37 (.tmp 4) rfl _ rfl #[.slice AR F.m cR, .int .i64 F.dep, .int .i64 F.fuel, .int .i64 F.burn, .int .i64 F.res] 5 HY.out Tryz.rowFli rfl ?_; simp only [Act.put]; clear tok2))
      refine (HSA.out _ (HM.out.below HB.out) (HL.out.below HB.out) (HR.out.below HB.out)).mono ?_
      rintro e w2 ⟨rfl, hbX⟩
      clear x19 y1
      have nHX := Lib.hid (HX.out.below hbX)
      have nHY := Lib.hid (HY.out.below hbX)
      have nHW := Lib.hid (HW.out.below hbX)
      have nHB := Lib.hid (bthen HB.out hbX)
      clear HX HY HW HB hbX
      have HX := nHX
      have HY := nHY
      have HW := nHW
      have HB := nHB
      clear nHX nHY nHW nHB
      have x19 := HX.out.cell 19
      have y1 := HY.out.cell 1
      simp only [List.getElem?_toArray, List.getElem?_cons_succ, List.getElem?_cons_zero] at x19 y1
      have tok2 : True := trivial
      have tok3 : True := trivial
      have tok4 : True := trivial
      go_wp2_with (first | (have _t := tok3; refine wpl_mid rfl 29 _ rfl w.heap.size 0 rfl 34 #[.int .i64 M.places, .int .i64 M.any.a0, .int .i64 M.any.a1, .int .i64 M.any.a2, .int .i64 M.any.a3, .int .i64 M.any.a4, .int .i64 M.any.a5, .bool M.any.i, .bool M.any.s, .int .i64 M.mw, .int .i64 M.ms, .int .i64 M.mc, vF, vS, .int .i64 lw, .int .i64 ls, .int .i64 lc, .bool li, .bool lb, .slice A n c] #[.int .i64 M.places, .int .i64 M.any.a0, .int .i64 M.any.a1, .int .i64 M.any.a2, .int .i64 M.any.a3, .int .i64 M.any.a4, .int .i64 M.any.a5, .bool M.any.i, .bool M.any.s, .int .i64 M.mw, .int .i64 M.ms, .int .i64 M.mc, vF, vS] 14 HX.out Tryz.rowMet [] [.int .i64 lw, .int .i64 ls, .int .i64 lc, .bool li, .bool lb, .slice A n c] rfl rfl rfl ?_; simp only [Act.put]; clear tok3) | (have _t := tok4; refine wpl_mid rfl 31 _ rfl w.heap.size 14 rfl 34 #[.int .i64 M.places, .int .i64 M.any.a0, .int .i64 M.any.a1, .int .i64 M.any.a2, .int .i64 M.any.a3, .int .i64 M.any.a4, .int .i64 M.any.a5, .bool M.any.i, .bool M.any.s, .int .i64 M.mw, .int .i64 M.ms, .int .i64 M.mc, vF, vS, .int .i64 lw, .int .i64 ls, .int .i64 lc, .bool li, .bool lb, .slice A n c] #[.int .i64 lw, .int .i64 ls, .int .i64 lc, .bool li, .bool lb] 5 HX.out Tryz.rowMin [.int .i64 M.places, .int .i64 M.any.a0, .int .i64 M.any.a1, .int .i64 M.any.a2, .int .i64 M.any.a3, .int .i64 M.any.a4, .int .i64 M.any.a5, .bool M.any.i, .bool M.any.s, .int .i64 M.mw, .int .i64 M.ms, .int .i64 M.mc, vF, vS] [.slice A n c] rfl rfl rfl ?_; simp only [Act.put]; clear tok4) | (have _t := tok2; refine wpl_row rfl 37 (.tmp 4) rfl _ rfl #[.slice AR F.m cR, .int .i64 F.dep, .int .i64 F.fuel, .int .i64 F.burn, .int .i64 F.res] 5 HY.out Tryz.rowFli rfl ?_; simp only [Act.put]; clear tok2))
      refine (HPO.out _ (HM.out.below HB.out) (HL.out.below HB.out) (HR.out.below HB.out)).mono ?_
      rintro e w3 ⟨vP, rfl, hbX, hsl⟩
      obtain ⟨AP, cP, rfl, hq1, hq2, hsl⟩ := hsl
      have HSL := Lib.hid hsl
      clear x19 y1 hsl
      have nHX := Lib.hid (HX.out.below hbX)
      have nHY := Lib.hid (HY.out.below hbX)
      have nHW := Lib.hid (HW.out.below hbX)
      have nHB := Lib.hid (bthen HB.out hbX)
      clear HX HY HW HB hbX
      have HX := nHX
      have HY := nHY
      have HW := nHW
      have HB := nHB
      clear nHX nHY nHW nHB
      have x19 := HX.out.cell 19
      have y1 := HY.out.cell 1
      simp only [List.getElem?_toArray, List.getElem?_cons_succ, List.getElem?_cons_zero] at x19 y1
      have tok2 : True := trivial
      have tok3 : True := trivial
      have tok4 : True := trivial
      go_wp2_with (first | (have _t := tok3; refine wpl_mid rfl 29 _ rfl w.heap.size 0 rfl 34 #[.int .i64 M.places, .int .i64 M.any.a0, .int .i64 M.any.a1, .int .i64 M.any.a2, .int .i64 M.any.a3, .int .i64 M.any.a4, .int .i64 M.any.a5, .bool M.any.i, .bool M.any.s, .int .i64 M.mw, .int .i64 M.ms, .int .i64 M.mc, vF, vS, .int .i64 lw, .int .i64 ls, .int .i64 lc, .bool li, .bool lb, .slice A n c] #[.int .i64 M.places, .int .i64 M.any.a0, .int .i64 M.any.a1, .int .i64 M.any.a2, .int .i64 M.any.a3, .int .i64 M.any.a4, .int .i64 M.any.a5, .bool M.any.i, .bool M.any.s, .int .i64 M.mw, .int .i64 M.ms, .int .i64 M.mc, vF, vS] 14 HX.out Tryz.rowMet [] [.int .i64 lw, .int .i64 ls, .int .i64 lc, .bool li, .bool lb, .slice A n c] rfl rfl rfl ?_; simp only [Act.put]; clear tok3) | (have _t := tok2; refine wpl_row rfl 37 (.tmp 4) rfl _ rfl #[.slice AR F.m cR, .int .i64 F.dep, .int .i64 F.fuel, .int .i64 F.burn, .int .i64 F.res] 5 HY.out Tryz.rowFli rfl ?_; simp only [Act.put]; clear tok2))
      refine (HNR.out _ (HM.out.below HB.out) (HL.out.below HB.out) (HR.out.below HB.out)).mono ?_
      rintro e w4 ⟨rfl, hbX⟩
      clear x19 y1
      have nHX := Lib.hid (HX.out.below hbX)
      have nHY := Lib.hid (HY.out.below hbX)
      have nHW := Lib.hid (HW.out.below hbX)
      have nHSL := Lib.hid (HSL.out.below hbX)
      have nHB := Lib.hid (bthen HB.out hbX)
      clear HX HY HW HSL HB hbX
      have HX := nHX
      have HY := nHY
      have HW := nHW
      have HSL := nHSL
      have HB := nHB
      clear nHX nHY nHW nHSL nHB
      have x19 := HX.out.cell 19
      have y1 := HY.out.cell 1
      simp only [List.getElem?_toArray, List.getElem?_cons_succ, List.getElem?_cons_zero] at x19 y1
      have tok2 : True := trivial
      have tok3 : True := trivial
      have tok4 : True := trivial
      unfold norV
      go_wp2_with (first | (have _t := tok3; refine wpl_mid rfl 29 _ rfl w.heap.size 0 rfl 34 #[.int .i64 M.places, .int .i64 M.any.a0, .int .i64 M.any.a1, .int .i64 M.any.a2, .int .i64 M.any.a3, .int .i64 M.any.a4, .int .i64 M.any.a5, .bool M.any.i, .bool M.any.s, .int .i64 M.mw, .int .i64 M.ms, .int .i64 M.mc, vF, vS, .int .i64 lw, .int .i64 ls, .int .i64 lc, .bool li, .bool lb, .slice A n c] #[.int .i64 M.places, .int .i64 M.any.a0, .int .i64 M.any.a1, .int .i64 M.any.a2, .int .i64 M.any.a3, .int .i64 M.any.a4, .int .i64 M.any.a5, .bool M.any.i, .bool M.any.s, .int .i64 M.mw, .int .i64 M.ms, .int .i64 M.mc, vF, vS] 14 HX.out Tryz.rowMet [] [.int .i64 lw, .int .i64 ls, .int .i64 lc, .bool li, .bool lb, .slice A n c] rfl rfl rfl ?_; simp only [Act.put]; clear tok3) | (have _t := tok2; refine wpl_row rfl 37 (.tmp 4) rfl _ rfl #[.slice AR F.m cR, .int .i64 F.dep, .int .i64 F.fuel, .int .i64 F.burn, .int .i64 F.res] 5 HY.out Tryz.rowFli rfl ?_; simp only [Act.put]; clear tok2))
      refine (HAL.out _ (HM.out.below HB.out) (HL.out.below HB.out) (HR.out.below HB.out)).mono ?_
      rintro e w5 ⟨vA, rfl, hbX, hva⟩
      obtain ⟨A7, c7, rfl, e2, e3, e4⟩ := hva.1 rfl
      obtain ⟨b7, o7, rfl, hb7, hc7⟩ := e4 (by have := HMZ.out; omega)
      have cl : w5.cell? ⟨b7, o7 + m1, none⟩ = some (.int .i64 (F.at_ (lgT S n) m1)) := by have := hc7 m1 HMZ.out 0 (by omega); rw [Nat.mul_one, Nat.add_zero] at this; exact this
      rw [HAT.out] at cl
      clear x19 y1 e4 hc7 hva hb7
      have nHX := Lib.hid (HX.out.below hbX)
      have nHY := Lib.hid (HY.out.below hbX)
      have nHW := Lib.hid (HW.out.below hbX)
      have nHSL := Lib.hid (HSL.out.below hbX)
      have nHB := Lib.hid (bthen HB.out hbX)
      clear HX HY HW HSL HB hbX
      have HX := nHX
      have HY := nHY
      have HW := nHW
      have HSL := nHSL
      have HB := nHB
      clear nHX nHY nHW nHSL nHB
      have x19 := HX.out.cell 19
      have y1 := HY.out.cell 1
      simp only [List.getElem?_toArray, List.getElem?_cons_succ, List.getElem?_cons_zero] at x19 y1
      have tok2 : True := trivial
      have tok3 : True := trivial
      have tok4 : True := trivial
      go_wp2_with (fail)
      clear hwla hwd1 hmz
      have HW0 := Lib.hid (RowKit.Below.refl w5.heap.size w5)
      go_loopg [17] NT (fun gy tv wr => ∃ j : Nat, tv = .int .i64 (t0 + j) ∧ j ≤ NT ∧ NT - j ≤ gy ∧ Hid (RowKit.Below w5.heap.size w5 wr))
      case atStart => exact ⟨0, by congr 1; have := HT0.out; omega, Nat.zero_le _, Nat.sub_le _ _, HW0⟩
      case round =>
        clear HW0
        obtain ⟨j, rfl, hj, hgy, HV⟩ := hrel
        have ht0 := HT0.out
        have hnt := HNT.out
        have hen := HEN.out
        have hlb := HLAB.out
        by_cases hlt : j < NT
        case pos =>
          have hle : t0 + (j : Int) ≤ ar := by omega
          have hvt := HVT.out (t0 + (j : Int)) (by omega) (by omega) (by omega)
          have HVTT := Lib.hid hvt
          have ht3 : 0 ≤ t0 + (j : Int) ∧ t0 + (j : Int) ≤ 3000 := by omega
          have nX := Lib.hid (HX.out.below HV.out)
          have nY := Lib.hid (HY.out.below HV.out)
          have HBV := Lib.hid (bthen HB.out HV.out)
          have x19 := nX.out.cell 19
          simp only [List.getElem?_toArray, List.getElem?_cons_succ, List.getElem?_cons_zero] at x19
          have tok2 : True := trivial
          have tok3 : True := trivial
          have tok4 : True := trivial
          obtain ⟨tt0, htt⟩ : ∃ tt0, tt0 = t0 + (j : Int) := ⟨_, rfl⟩
          rw [← htt] at HVTT hle ht3 ⊢
          have hts : t0 + ((j + 1 : Nat) : Int) = tt0 + 1 := by omega
          have HTS := Lib.hid hts
          clear ht0 hnt hen hlb hvt htt hts
          go_wp2_with (first | (have _t := tok3; refine wpl_mid rfl 29 _ rfl w.heap.size 0 rfl 34 #[.int .i64 M.places, .int .i64 M.any.a0, .int .i64 M.any.a1, .int .i64 M.any.a2, .int .i64 M.any.a3, .int .i64 M.any.a4, .int .i64 M.any.a5, .bool M.any.i, .bool M.any.s, .int .i64 M.mw, .int .i64 M.ms, .int .i64 M.mc, vF, vS, .int .i64 lw, .int .i64 ls, .int .i64 lc, .bool li, .bool lb, .slice A n c] #[.int .i64 M.places, .int .i64 M.any.a0, .int .i64 M.any.a1, .int .i64 M.any.a2, .int .i64 M.any.a3, .int .i64 M.any.a4, .int .i64 M.any.a5, .bool M.any.i, .bool M.any.s, .int .i64 M.mw, .int .i64 M.ms, .int .i64 M.mc, vF, vS] 14 nX.out Tryz.rowMet [] [.int .i64 lw, .int .i64 ls, .int .i64 lc, .bool li, .bool lb, .slice A n c] rfl rfl rfl ?_; simp only [Act.put]; clear tok3) | (have _t := tok4; refine wpl_mid rfl 31 _ rfl w.heap.size 14 rfl 34 #[.int .i64 M.places, .int .i64 M.any.a0, .int .i64 M.any.a1, .int .i64 M.any.a2, .int .i64 M.any.a3, .int .i64 M.any.a4, .int .i64 M.any.a5, .bool M.any.i, .bool M.any.s, .int .i64 M.mw, .int .i64 M.ms, .int .i64 M.mc, vF, vS, .int .i64 lw, .int .i64 ls, .int .i64 lc, .bool li, .bool lb, .slice A n c] #[.int .i64 lw, .int .i64 ls, .int .i64 lc, .bool li, .bool lb] 5 nX.out Tryz.rowMin [.int .i64 M.places, .int .i64 M.any.a0, .int .i64 M.any.a1, .int .i64 M.any.a2, .int .i64 M.any.a3, .int .i64 M.any.a4, .int .i64 M.any.a5, .bool M.any.i, .bool M.any.s, .int .i64 M.mw, .int .i64 M.ms, .int .i64 M.mc, vF, vS] [.slice A n c] rfl rfl rfl ?_; simp only [Act.put]; clear tok4) | (have _t := tok2; refine wpl_row rfl 37 (.tmp 4) rfl _ rfl #[.slice AR F.m cR, .int .i64 F.dep, .int .i64 F.fuel, .int .i64 F.burn, .int .i64 F.res] 5 nY.out Tryz.rowFli rfl ?_; simp only [Act.put]; clear tok2))
          refine (HVTT.out _ (HM.out.below HBV.out) (HL.out.below HBV.out) (HR.out.below HBV.out)).mono ?_
          rintro e w7 ⟨vO, rfl, hbX, ll, hll, hsl, hne⟩
          obtain ⟨AO, cO, rfl, -, -, hO⟩ := hsl
          have HO := Lib.hid hO
          have HNE := Lib.hid hne
          have nV := Lib.hid (bthen HV.out hbX)
          obtain ⟨lk, hlk⟩ : ∃ lk, lk = ll.length := ⟨_, rfl⟩
          rw [← hlk] at HO HNE hll ⊢
          clear x19 HV HBV nX nY hbX hO hne hlk
          go_wp2_with (fail)
          have HU0 := Lib.hid (RowKit.Below.refl w7.heap.size w7)
          go_loopg [20] lk (fun gy iv wr => ∃ i : Nat, iv = .int .i64 i ∧ i ≤ lk ∧ lk - i ≤ gy ∧ Hid (RowKit.Below w7.heap.size w7 wr))
          case atStart => exact ⟨0, rfl, Nat.zero_le _, Nat.sub_le _ _, HU0⟩
          case round =>
            clear HU0
            obtain ⟨i, rfl, hi, hgi, HU⟩ := hrel
            by_cases hlti : i < lk
            case pos =>
              have hltz : (i : Int) < (lk : Int) := by omega
              obtain ⟨bO, oO, rfl, hbO, hcO⟩ := HO.out (by omega)
              have a0 : wr.cell? ⟨bO, oO + i * 3, none⟩ = some (.int .i64 (hvx ll i).p) := (HU.out.cell (p := ⟨bO, oO + i * 3, none⟩) hbO).trans (hcO i hlti 0 (by omega))
              have hn := HNE.out i hlti
              have HBU := Lib.hid (bthen (bthen HB.out nV.out) HU.out)
              have y0 := ((HY.out.below nV.out).below HU.out).cell 0
              simp only [List.getElem?_toArray, List.getElem?_cons_succ, List.getElem?_cons_zero] at y0
              obtain ⟨A9, c9, e9, q9, q10, r9⟩ := HR.out.below HBU.out
              cases e9
              obtain ⟨b9, o9, rfl, hb9, hc9⟩ := r9 (by have := HMZ.out; omega)
              have d0 : wr.cell? ⟨b9, o9, none⟩ = some (.int .i64 (F.R 0)) := by have := hc9 0 (by have := HMZ.out; omega) 0 (by omega); rw [Nat.zero_mul, Nat.add_zero] at this; exact this
              have hm0 : (0 : Int) < (F.m : Int) := by have := HMZ.out; omega
              generalize ((hvx ll i).p : Int) = pp at *
              clear hcO r9 hc9
              go_wp2_with (fail)
              go_quiet (fail)
              have nU := Lib.hid (bdn HU.out nq)
              clear HU HBU a0 y0 d0
              generalize World.drewN _ nq = wq at *
              go_wp2_with (fail)
              go_roundg (lk - (i + 1))
              case measure => omega
              case rel => exact ⟨i + 1, by first | rfl | go_num | (congr 1; omega), by omega, Nat.le_refl _, nU⟩
            obtain rfl : lk = i := by omega
            have hnlt : ¬ (lk : Int) < (lk : Int) := by omega
            have nV2 := Lib.hid (bthen nV.out HU.out)
            clear HU nV
            go_wp2_with (fail)
            go_roundg (NT - (j + 1))
            case measure => omega
            case rel => exact ⟨j + 1, by rw [HTS.out], by omega, Nat.le_refl _, nV2⟩
        have hgt : ¬ t0 + (j : Int) ≤ ar := by omega
        have hV2 := HV.out
        clear ht0 hnt hen hlb HV
        have nHX := Lib.hid (HX.out.below hV2)
        have nHY := Lib.hid (HY.out.below hV2)
        have nHW := Lib.hid (HW.out.below hV2)
        have nHSL := Lib.hid (HSL.out.below hV2)
        have nHB := Lib.hid (bthen HB.out hV2)
        clear HX HY HW HSL HB hV2
        have HX := nHX
        have HY := nHY
        have HW := nHW
        have HSL := nHSL
        have HB := nHB
        clear nHX nHY nHW nHSL nHB
        go_wp2_with (first | (go_at_call 26; (with_reducible refine (rworks_c _).mono ?_); rintro e w1 ⟨rfl, hb1⟩; have nHX := Lib.hid (HX.out.below hb1); have nHY := Lib.hid (HY.out.below hb1); have nHB := Lib.hid (bthen HB.out hb1); have zz1 := hb1.size; clear HX HY HB hb1; have HX := nHX; have HY := nHY; have HB := nHB; clear nHX nHY nHB))
        go_ret
        exact ⟨rfl, HB.out⟩
  have hp2 := HPO.out
  simp only [if_true] at hp2
  clear HPO
  have HPO := Lib.hid hp2
  clear hp2
  obtain ⟨hlen, -⟩ := HPE.out rfl
  have HPV : Hid (∀ AP cP w1, MetAt w1 vF vS M → RecsAt w1 A n 3 (nV S) → SlI w1 (.slice AR F.m cR) F.m F.R → L.length ≤ cP → cP ≤ 9223372036854775807 → RecsAt w1 AP L.length 3 (nHv (hvx L)) → Calls Tryz.prog 43 #[.agg #[.int .i64 M.places, .int .i64 M.any.a0, .int .i64 M.any.a1, .int .i64 M.any.a2, .int .i64 M.any.a3, .int .i64 M.any.a4, .int .i64 M.any.a5, .bool M.any.i, .bool M.any.s, .int .i64 M.mw, .int .i64 M.ms, .int .i64 M.mc, vF, vS], .agg #[.int .i64 lw, .int .i64 ls, .int .i64 lc, .bool li, .bool lb], .slice A n c, .agg #[.slice AR F.m cR, .int .i64 F.dep, .int .i64 F.fuel, .int .i64 F.burn, .int .i64 F.res], .slice AP L.length cP] w1 fun e w' => e = .returned (.tuple #[.int .i64 0, .int .i64 0]) ∧ RowKit.Below w1.heap.size w1 w') := Lib.hid fun AP cP w1 g1 g2 g3 q1 q2 g4 => by
    have h := rProves_c M vF vS lw ls lc li lb A n c S F (.slice AR F.m cR) AP L.length cP (fun i => hvi (hvx L i)) w1 g1 hc1 hc2 g2 g3 q1 q2 (by rw [← nHv_nHi]; exact g4)
    unfold prvE at h
    rw [if_pos HNF.out, HPW.out rfl] at h
    exact h
  have HTK : Hid ((L.length : Int) = ar - F.dep + 1) := Lib.hid (by
    rw [hlen]
    have h1 := HAR3.out
    have h2 := HDL.out
    unfold FliD.ticks
    omega)
  obtain ⟨g3, g4, g5, g6, g7⟩ := HPRF.out
  have HEA : Hid (∀ i, i < L.length → (hvx L i).p < M.places.toNat ∧ F.refR (lgT S n) (timT S n M.places.toNat) (F.dep + (i : Int)) (hvx L i).p = ((hvx L i).t, (hvx L i).b) ∧ F.lasts (hvx L i).t = true ∧ mayW M ((hvx L i).p : Int) (hvx L i).t = M.may ((hvx L i).p : Int) (hvx L i).t ∧ atE M ((hvx L i).p : Int) (hvx L i).t = 0 ∧ (0 ≤ (hvx L i).t ∧ (hvx L i).t ≤ 2000) ∧ openB (M.may ((hvx L i).p : Int) (hvx L i).t) lw ls lc li lb = true) := Lib.hid fun i hi => by
    obtain ⟨h1, h2, h3, h4⟩ := HHE.out rfl i (by rw [← hlen]; exact hi)
    obtain ⟨o1, o2, o3⟩ := open_facts h4
    exact ⟨h1, h2, h3, o2, o1, (atW_ok o1).2, o3⟩
  have HRE := Lib.hid (fun t p w1 h1 h2 h3 h4 h5 => r5Reach_c M vF vS A n c S M.places.toNat F (.slice AR F.m cR) t p w1 hc1 hc2 h1 h2 g7 g6 g3 g4 h3 h4 h5)
  have hnum := FliD.nums_iff.1 g7.1
  have HNU := Lib.hid hnum
  have HPL := Lib.hid g3
  clear g3 g4 g5 g6 g7 hnum hlen
  cases nr with
  | none =>
    obtain rfl : la = F.dep - 1 := HLA.out
    have x19 := HX.out.cell 19
    have y1 := HY.out.cell 1
    simp only [List.getElem?_toArray, List.getElem?_cons_succ, List.getElem?_cons_zero] at x19 y1
    have tok2 : True := trivial
    have tok3 : True := trivial
    have tok4 : True := trivial
    go_wp2_with (first | (have _t := tok3; refine wpl_mid rfl 29 _ rfl w.heap.size 0 rfl 34 #[.int .i64 M.places, .int .i64 M.any.a0, .int .i64 M.any.a1, .int .i64 M.any.a2, .int .i64 M.any.a3, .int .i64 M.any.a4, .int .i64 M.any.a5, .bool M.any.i, .bool M.any.s, .int .i64 M.mw, .int .i64 M.ms, .int .i64 M.mc, vF, vS, .int .i64 lw, .int .i64 ls, .int .i64 lc, .bool li, .bool lb, .slice A n c] #[.int .i64 M.places, .int .i64 M.any.a0, .int .i64 M.any.a1, .int .i64 M.any.a2, .int .i64 M.any.a3, .int .i64 M.any.a4, .int .i64 M.any.a5, .bool M.any.i, .bool M.any.s, .int .i64 M.mw, .int .i64 M.ms, .int .i64 M.mc, vF, vS] 14 HX.out Tryz.rowMet [] [.int .i64 lw, .int .i64 ls, .int .i64 lc, .bool li, .bool lb, .slice A n c] rfl rfl rfl ?_; simp only [Act.put]; clear tok3) | (have _t := tok4; refine wpl_mid rfl 31 _ rfl w.heap.size 14 rfl 34 #[.int .i64 M.places, .int .i64 M.any.a0, .int .i64 M.any.a1, .int .i64 M.any.a2, .int .i64 M.any.a3, .int .i64 M.any.a4, .int .i64 M.any.a5, .bool M.any.i, .bool M.any.s, .int .i64 M.mw, .int .i64 M.ms, .int .i64 M.mc, vF, vS, .int .i64 lw, .int .i64 ls, .int .i64 lc, .bool li, .bool lb, .slice A n c] #[.int .i64 lw, .int .i64 ls, .int .i64 lc, .bool li, .bool lb] 5 HX.out Tryz.rowMin [.int .i64 M.places, .int .i64 M.any.a0, .int .i64 M.any.a1, .int .i64 M.any.a2, .int .i64 M.any.a3, .int .i64 M.any.a4, .int .i64 M.any.a5, .bool M.any.i, .bool M.any.s, .int .i64 M.mw, .int .i64 M.ms, .int .i64 M.mc, vF, vS] [.slice A n c] rfl rfl rfl ?_; simp only [Act.put]; clear tok4) | (have _t := tok2; refine wpl_row rfl 37 (.tmp 4) rfl _ rfl #[.slice AR F.m cR, .int .i64 F.dep, .int .i64 F.fuel, .int .i64 F.burn, .int .i64 F.res] 5 HY.out Tryz.rowFli rfl ?_; simp only [Act.put]; clear tok2))
    refine (HSA.out _ (HM.out.below HB.out) (HL.out.below HB.out) (HR.out.below HB.out)).mono ?_
    rintro e w2 ⟨rfl, hbX⟩
    clear x19 y1
    have nHX := Lib.hid (HX.out.below hbX)
    have nHY := Lib.hid (HY.out.below hbX)
    have nHW := Lib.hid (HW.out.below hbX)
    have nHB := Lib.hid (bthen HB.out hbX)
    clear HX HY HW HB hbX
    have HX := nHX
    have HY := nHY
    have HW := nHW
    have HB := nHB
    clear nHX nHY nHW nHB
    have x19 := HX.out.cell 19
    have y1 := HY.out.cell 1
    simp only [List.getElem?_toArray, List.getElem?_cons_succ, List.getElem?_cons_zero] at x19 y1
    have tok2 : True := trivial
    have tok3 : True := trivial
    have tok4 : True := trivial
    go_wp2_with (first | (have _t := tok3; refine wpl_mid rfl 29 _ rfl w.heap.size 0 rfl 34 #[.int .i64 M.places, .int .i64 M.any.a0, .int .i64 M.any.a1, .int .i64 M.any.a2, .int .i64 M.any.a3, .int .i64 M.any.a4, .int .i64 M.any.a5, .bool M.any.i, .bool M.any.s, .int .i64 M.mw, .int .i64 M.ms, .int .i64 M.mc, vF, vS, .int .i64 lw, .int .i64 ls, .int .i64 lc, .bool li, .bool lb, .slice A n c] #[.int .i64 M.places, .int .i64 M.any.a0, .int .i64 M.any.a1, .int .i64 M.any.a2, .int .i64 M.any.a3, .int .i64 M.any.a4, .int .i64 M.any.a5, .bool M.any.i, .bool M.any.s, .int .i64 M.mw, .int .i64 M.ms, .int .i64 M.mc, vF, vS] 14 HX.out Tryz.rowMet [] [.int .i64 lw, .int .i64 ls, .int .i64 lc, .bool li, .bool lb, .slice A n c] rfl rfl rfl ?_; simp only [Act.put]; clear tok3) | (have _t := tok4; refine wpl_mid rfl 31 _ rfl w.heap.size 14 rfl 34 #[.int .i64 M.places, .int .i64 M.any.a0, .int .i64 M.any.a1, .int .i64 M.any.a2, .int .i64 M.any.a3, .int .i64 M.any.a4, .int .i64 M.any.a5, .bool M.any.i, .bool M.any.s, .int .i64 M.mw, .int .i64 M.ms, .int .i64 M.mc, vF, vS, .int .i64 lw, .int .i64 ls, .int .i64 lc, .bool li, .bool lb, .slice A n c] #[.int .i64 lw, .int .i64 ls, .int .i64 lc, .bool li, .bool lb] 5 HX.out Tryz.rowMin [.int .i64 M.places, .int .i64 M.any.a0, .int .i64 M.any.a1, .int .i64 M.any.a2, .int .i64 M.any.a3, .int .i64 M.any.a4, .int .i64 M.any.a5, .bool M.any.i, .bool M.any.s, .int .i64 M.mw, .int .i64 M.ms, .int .i64 M.mc, vF, vS] [.slice A n c] rfl rfl rfl ?_; simp only [Act.put]; clear tok4) | (have _t := tok2; refine wpl_row rfl 37 (.tmp 4) rfl _ rfl #[.slice AR F.m cR, .int .i64 F.dep, .int .i64 F.fuel, .int .i64 F.burn, .int .i64 F.res] 5 HY.out Tryz.rowFli rfl ?_; simp only [Act.put]; clear tok2))
    refine (HPO.out _ (HM.out.below HB.out) (HL.out.below HB.out) (HR.out.below HB.out)).mono ?_
    rintro e w3 ⟨vP, rfl, hbX, hsl⟩
    obtain ⟨AP, cP, rfl, hq1, hq2, hsl⟩ := hsl
    have HSL := Lib.hid hsl
    clear x19 y1 hsl
    have nHX := Lib.hid (HX.out.below hbX)
    have nHY := Lib.hid (HY.out.below hbX)
    have nHW := Lib.hid (HW.out.below hbX)
    have nHB := Lib.hid (bthen HB.out hbX)
    clear HX HY HW HB hbX
    have HX := nHX
    have HY := nHY
    have HW := nHW
    have HB := nHB
    clear nHX nHY nHW nHB
    have x19 := HX.out.cell 19
    have y1 := HY.out.cell 1
    simp only [List.getElem?_toArray, List.getElem?_cons_succ, List.getElem?_cons_zero] at x19 y1
    have tok2 : True := trivial
    have tok3 : True := trivial
    have tok4 : True := trivial
    go_wp2_with (first | (have _t := tok3; refine wpl_mid rfl 29 _ rfl w.heap.size 0 rfl 34 #[.int .i64 M.places, .int .i64 M.any.a0, .int .i64 M.any.a1, .int .i64 M.any.a2, .int .i64 M.any.a3, .int .i64 M.any.a4, .int .i64 M.any.a5, .bool M.any.i, .bool M.any.s, .int .i64 M.mw, .int .i64 M.ms, .int .i64 M.mc, vF, vS, .int .i64 lw, .int .i64 ls, .int .i64 lc, .bool li, .bool lb, .slice A n c] #[.int .i64 M.places, .int .i64 M.any.a0, .int .i64 M.any.a1, .int .i64 M.any.a2, .int .i64 M.any.a3, .int .i64 M.any.a4, .int .i64 M.any.a5, .bool M.any.i, .bool M.any.s, .int .i64 M.mw, .int .i64 M.ms, .int .i64 M.mc, vF, vS] 14 HX.out Tryz.rowMet [] [.int .i64 lw, .int .i64 ls, .int .i64 lc, .bool li, .bool lb, .slice A n c] rfl rfl rfl ?_; simp only [Act.put]; clear tok3) | (have _t := tok2; refine wpl_row rfl 37 (.tmp 4) rfl _ rfl #[.slice AR F.m cR, .int .i64 F.dep, .int .i64 F.fuel, .int .i64 F.burn, .int .i64 F.res] 5 HY.out Tryz.rowFli rfl ?_; simp only [Act.put]; clear tok2))
    refine (HNR.out _ (HM.out.below HB.out) (HL.out.below HB.out) (HR.out.below HB.out)).mono ?_
    rintro e w4 ⟨rfl, hbX⟩
    clear x19 y1
    have nHX := Lib.hid (HX.out.below hbX)
    have nHY := Lib.hid (HY.out.below hbX)
    have nHW := Lib.hid (HW.out.below hbX)
    have nHSL := Lib.hid (HSL.out.below hbX)
    have nHB := Lib.hid (bthen HB.out hbX)
    clear HX HY HW HSL HB hbX
    have HX := nHX
    have HY := nHY
    have HW := nHW
    have HSL := nHSL
    have HB := nHB
    clear nHX nHY nHW nHSL nHB
    have x19 := HX.out.cell 19
    have y1 := HY.out.cell 1
    simp only [List.getElem?_toArray, List.getElem?_cons_succ, List.getElem?_cons_zero] at x19 y1
    have tok2 : True := trivial
    have tok3 : True := trivial
    have tok4 : True := trivial
    unfold norV
    go_wp2_with (first | (have _t := tok3; refine wpl_mid rfl 29 _ rfl w.heap.size 0 rfl 34 #[.int .i64 M.places, .int .i64 M.any.a0, .int .i64 M.any.a1, .int .i64 M.any.a2, .int .i64 M.any.a3, .int .i64 M.any.a4, .int .i64 M.any.a5, .bool M.any.i, .bool M.any.s, .int .i64 M.mw, .int .i64 M.ms, .int .i64 M.mc, vF, vS, .int .i64 lw, .int .i64 ls, .int .i64 lc, .bool li, .bool lb, .slice A n c] #[.int .i64 M.places, .int .i64 M.any.a0, .int .i64 M.any.a1, .int .i64 M.any.a2, .int .i64 M.any.a3, .int .i64 M.any.a4, .int .i64 M.any.a5, .bool M.any.i, .bool M.any.s, .int .i64 M.mw, .int .i64 M.ms, .int .i64 M.mc, vF, vS] 14 HX.out Tryz.rowMet [] [.int .i64 lw, .int .i64 ls, .int .i64 lc, .bool li, .bool lb, .slice A n c] rfl rfl rfl ?_; simp only [Act.put]; clear tok3) | (have _t := tok2; refine wpl_row rfl 37 (.tmp 4) rfl _ rfl #[.slice AR F.m cR, .int .i64 F.dep, .int .i64 F.fuel, .int .i64 F.burn, .int .i64 F.res] 5 HY.out Tryz.rowFli rfl ?_; simp only [Act.put]; clear tok2))
    refine (HAL.out _ (HM.out.below HB.out) (HL.out.below HB.out) (HR.out.below HB.out)).mono ?_
    rintro e w5 ⟨vA, rfl, hbX, hva⟩
    obtain ⟨A7, c7, rfl, e2, e3, e4⟩ := hva.1 rfl
    obtain ⟨b7, o7, rfl, hb7, hc7⟩ := e4 (by have := HMZ.out; omega)
    have cl : w5.cell? ⟨b7, o7 + m1, none⟩ = some (.int .i64 (F.at_ (lgT S n) m1)) := by have := hc7 m1 HMZ.out 0 (by omega); rw [Nat.mul_one, Nat.add_zero] at this; exact this
    rw [HAT.out] at cl
    clear x19 y1 e4 hc7 hva hb7
    have nHX := Lib.hid (HX.out.below hbX)
    have nHY := Lib.hid (HY.out.below hbX)
    have nHW := Lib.hid (HW.out.below hbX)
    have nHSL := Lib.hid (HSL.out.below hbX)
    have nHB := Lib.hid (bthen HB.out hbX)
    clear HX HY HW HSL HB hbX
    have HX := nHX
    have HY := nHY
    have HW := nHW
    have HSL := nHSL
    have HB := nHB
    clear nHX nHY nHW nHSL nHB
    have x19 := HX.out.cell 19
    have y1 := HY.out.cell 1
    simp only [List.getElem?_toArray, List.getElem?_cons_succ, List.getElem?_cons_zero] at x19 y1
    have tok2 : True := trivial
    have tok3 : True := trivial
    have tok4 : True := trivial
    go_wp2_with (fail)
    clear hwla hwd1 hmz
    have HW0 := Lib.hid (RowKit.Below.refl w5.heap.size w5)
    go_loopg [17] NT (fun gy tv wr => ∃ j : Nat, tv = .int .i64 (t0 + j) ∧ j ≤ NT ∧ NT - j ≤ gy ∧ Hid (RowKit.Below w5.heap.size w5 wr))
    case atStart => exact ⟨0, by congr 1; have := HT0.out; omega, Nat.zero_le _, Nat.sub_le _ _, HW0⟩
    case round =>
      clear HW0
      obtain ⟨j, rfl, hj, hgy, HV⟩ := hrel
      have ht0 := HT0.out
      have hnt := HNT.out
      have hen := HEN.out
      have hlb := HLAB.out
      by_cases hlt : j < NT
      case pos =>
        have hle : t0 + (j : Int) ≤ ar := by omega
        have hvt := HVT.out (t0 + (j : Int)) (by omega) (by omega) (by omega)
        have HVTT := Lib.hid hvt
        have ht3 : 0 ≤ t0 + (j : Int) ∧ t0 + (j : Int) ≤ 3000 := by omega
        have nX := Lib.hid (HX.out.below HV.out)
        have nY := Lib.hid (HY.out.below HV.out)
        have HBV := Lib.hid (bthen HB.out HV.out)
        have x19 := nX.out.cell 19
        simp only [List.getElem?_toArray, List.getElem?_cons_succ, List.getElem?_cons_zero] at x19
        have tok2 : True := trivial
        have tok3 : True := trivial
        have tok4 : True := trivial
        obtain ⟨tt0, htt⟩ : ∃ tt0, tt0 = t0 + (j : Int) := ⟨_, rfl⟩
        rw [← htt] at HVTT hle ht3 ⊢
        have hts : t0 + ((j + 1 : Nat) : Int) = tt0 + 1 := by omega
        have HTS := Lib.hid hts
        clear ht0 hnt hen hlb hvt htt hts
        go_wp2_with (first | (have _t := tok3; refine wpl_mid rfl 29 _ rfl w.heap.size 0 rfl 34 #[.int .i64 M.places, .int .i64 M.any.a0, .int .i64 M.any.a1, .int .i64 M.any.a2, .int .i64 M.any.a3, .int .i64 M.any.a4, .int .i64 M.any.a5, .bool M.any.i, .bool M.any.s, .int .i64 M.mw, .int .i64 M.ms, .int .i64 M.mc, vF, vS, .int .i64 lw, .int .i64 ls, .int .i64 lc, .bool li, .bool lb, .slice A n c] #[.int .i64 M.places, .int .i64 M.any.a0, .int .i64 M.any.a1, .int .i64 M.any.a2, .int .i64 M.any.a3, .int .i64 M.any.a4, .int .i64 M.any.a5, .bool M.any.i, .bool M.any.s, .int .i64 M.mw, .int .i64 M.ms, .int .i64 M.mc, vF, vS] 14 nX.out Tryz.rowMet [] [.int .i64 lw, .int .i64 ls, .int .i64 lc, .bool li, .bool lb, .slice A n c] rfl rfl rfl ?_; simp only [Act.put]; clear tok3) | (have _t := tok4; refine wpl_mid rfl 31 _ rfl w.heap.size 14 rfl 34 #[.int .i64 M.places, .int .i64 M.any.a0, .int .i64 M.any.a1, .int .i64 M.any.a2, .int .i64 M.any.a3, .int .i64 M.any.a4, .int .i64 M.any.a5, .bool M.any.i, .bool M.any.s, .int .i64 M.mw, .int .i64 M.ms, .int .i64 M.mc, vF, vS, .int .i64 lw, .int .i64 ls, .int .i64 lc, .bool li, .bool lb, .slice A n c] #[.int .i64 lw, .int .i64 ls, .int .i64 lc, .bool li, .bool lb] 5 nX.out Tryz.rowMin [.int .i64 M.places, .int .i64 M.any.a0, .int .i64 M.any.a1, .int .i64 M.any.a2, .int .i64 M.any.a3, .int .i64 M.any.a4, .int .i64 M.any.a5, .bool M.any.i, .bool M.any.s, .int .i64 M.mw, .int .i64 M.ms, .int .i64 M.mc, vF, vS] [.slice A n c] rfl rfl rfl ?_; simp only [Act.put]; clear tok4) | (have _t := tok2; refine wpl_row rfl 37 (.tmp 4) rfl _ rfl #[.slice AR F.m cR, .int .i64 F.dep, .int .i64 F.fuel, .int .i64 F.burn, .int .i64 F.res] 5 nY.out Tryz.rowFli rfl ?_; simp only [Act.put]; clear tok2))
        refine (HVTT.out _ (HM.out.below HBV.out) (HL.out.below HBV.out) (HR.out.below HBV.out)).mono ?_
        rintro e w7 ⟨vO, rfl, hbX, ll, hll, hsl, hne⟩
        obtain ⟨AO, cO, rfl, -, -, hO⟩ := hsl
        have HO := Lib.hid hO
        have HNE := Lib.hid hne
        have nV := Lib.hid (bthen HV.out hbX)
        obtain ⟨lk, hlk⟩ : ∃ lk, lk = ll.length := ⟨_, rfl⟩
        rw [← hlk] at HO HNE hll ⊢
        clear x19 HV HBV nX nY hbX hO hne hlk
        go_wp2_with (fail)
        have HU0 := Lib.hid (RowKit.Below.refl w7.heap.size w7)
        go_loopg [20] lk (fun gy iv wr => ∃ i : Nat, iv = .int .i64 i ∧ i ≤ lk ∧ lk - i ≤ gy ∧ Hid (RowKit.Below w7.heap.size w7 wr))
        case atStart => exact ⟨0, rfl, Nat.zero_le _, Nat.sub_le _ _, HU0⟩
        case round =>
          clear HU0
          obtain ⟨i, rfl, hi, hgi, HU⟩ := hrel
          by_cases hlti : i < lk
          case pos =>
            have hltz : (i : Int) < (lk : Int) := by omega
            obtain ⟨bO, oO, rfl, hbO, hcO⟩ := HO.out (by omega)
            have a0 : wr.cell? ⟨bO, oO + i * 3, none⟩ = some (.int .i64 (hvx ll i).p) := (HU.out.cell (p := ⟨bO, oO + i * 3, none⟩) hbO).trans (hcO i hlti 0 (by omega))
            have hn := HNE.out i hlti
            have HBU := Lib.hid (bthen (bthen HB.out nV.out) HU.out)
            have y0 := ((HY.out.below nV.out).below HU.out).cell 0
            simp only [List.getElem?_toArray, List.getElem?_cons_succ, List.getElem?_cons_zero] at y0
            obtain ⟨A9, c9, e9, q9, q10, r9⟩ := HR.out.below HBU.out
            cases e9
            obtain ⟨b9, o9, rfl, hb9, hc9⟩ := r9 (by have := HMZ.out; omega)
            have d0 : wr.cell? ⟨b9, o9, none⟩ = some (.int .i64 (F.R 0)) := by have := hc9 0 (by have := HMZ.out; omega) 0 (by omega); rw [Nat.zero_mul, Nat.add_zero] at this; exact this
            have hm0 : (0 : Int) < (F.m : Int) := by have := HMZ.out; omega
            generalize ((hvx ll i).p : Int) = pp at *
            clear hcO r9 hc9
            go_wp2_with (fail)
            go_quiet (fail)
            have nU := Lib.hid (bdn HU.out nq)
            clear HU HBU a0 y0 d0
            generalize World.drewN _ nq = wq at *
            go_wp2_with (fail)
            go_roundg (lk - (i + 1))
            case measure => omega
            case rel => exact ⟨i + 1, by first | rfl | go_num | (congr 1; omega), by omega, Nat.le_refl _, nU⟩
          obtain rfl : lk = i := by omega
          have hnlt : ¬ (lk : Int) < (lk : Int) := by omega
          have nV2 := Lib.hid (bthen nV.out HU.out)
          clear HU nV
          go_wp2_with (fail)
          go_roundg (NT - (j + 1))
          case measure => omega
          case rel => exact ⟨j + 1, by rw [HTS.out], by omega, Nat.le_refl _, nV2⟩
      have hgt : ¬ t0 + (j : Int) ≤ ar := by omega
      have hV2 := HV.out
      clear ht0 hnt hen hlb HV
      have nHX := Lib.hid (HX.out.below hV2)
      have nHY := Lib.hid (HY.out.below hV2)
      have nHW := Lib.hid (HW.out.below hV2)
      have nHSL := Lib.hid (HSL.out.below hV2)
      have nHB := Lib.hid (bthen HB.out hV2)
      clear HX HY HW HSL HB hV2
      have HX := nHX
      have HY := nHY
      have HW := nHW
      have HSL := nHSL
      have HB := nHB
      clear nHX nHY nHW nHSL nHB
      have hlen := HTK.out
      have hwe1 : IntKind.i64.wrap (ar - F.dep) = ar - F.dep := by rw [IntKind.wrap_i64]; have := HEN.out; have := HDL.out; omega
      have hwe2 : IntKind.i64.wrap (ar - F.dep + 1) = (L.length : Int) := by rw [IntKind.wrap_i64]; have := HEN.out; have := HDL.out; omega
      clear hlen
      have x19 := HX.out.cell 19
      have y1 := HY.out.cell 1
      simp only [List.getElem?_toArray, List.getElem?_cons_succ, List.getElem?_cons_zero] at x19 y1
      have tok2 : True := trivial
      have tok3 : True := trivial
      have tok4 : True := trivial
      go_wp2_with (first | (have _t := tok3; refine wpl_mid rfl 29 _ rfl w.heap.size 0 rfl 34 #[.int .i64 M.places, .int .i64 M.any.a0, .int .i64 M.any.a1, .int .i64 M.any.a2, .int .i64 M.any.a3, .int .i64 M.any.a4, .int .i64 M.any.a5, .bool M.any.i, .bool M.any.s, .int .i64 M.mw, .int .i64 M.ms, .int .i64 M.mc, vF, vS, .int .i64 lw, .int .i64 ls, .int .i64 lc, .bool li, .bool lb, .slice A n c] #[.int .i64 M.places, .int .i64 M.any.a0, .int .i64 M.any.a1, .int .i64 M.any.a2, .int .i64 M.any.a3, .int .i64 M.any.a4, .int .i64 M.any.a5, .bool M.any.i, .bool M.any.s, .int .i64 M.mw, .int .i64 M.ms, .int .i64 M.mc, vF, vS] 14 HX.out Tryz.rowMet [] [.int .i64 lw, .int .i64 ls, .int .i64 lc, .bool li, .bool lb, .slice A n c] rfl rfl rfl ?_; simp only [Act.put]; clear tok3) | (have _t := tok4; refine wpl_mid rfl 31 _ rfl w.heap.size 14 rfl 34 #[.int .i64 M.places, .int .i64 M.any.a0, .int .i64 M.any.a1, .int .i64 M.any.a2, .int .i64 M.any.a3, .int .i64 M.any.a4, .int .i64 M.any.a5, .bool M.any.i, .bool M.any.s, .int .i64 M.mw, .int .i64 M.ms, .int .i64 M.mc, vF, vS, .int .i64 lw, .int .i64 ls, .int .i64 lc, .bool li, .bool lb, .slice A n c] #[.int .i64 lw, .int .i64 ls, .int .i64 lc, .bool li, .bool lb] 5 HX.out Tryz.rowMin [.int .i64 M.places, .int .i64 M.any.a0, .int .i64 M.any.a1, .int .i64 M.any.a2, .int .i64 M.any.a3, .int .i64 M.any.a4, .int .i64 M.any.a5, .bool M.any.i, .bool M.any.s, .int .i64 M.mw, .int .i64 M.ms, .int .i64 M.mc, vF, vS] [.slice A n c] rfl rfl rfl ?_; simp only [Act.put]; clear tok4) | (have _t := tok2; refine wpl_row rfl 37 (.tmp 4) rfl _ rfl #[.slice AR F.m cR, .int .i64 F.dep, .int .i64 F.fuel, .int .i64 F.burn, .int .i64 F.res] 5 HY.out Tryz.rowFli rfl ?_; simp only [Act.put]; clear tok2))
      refine (HPV.out _ _ _ (HM.out.below HB.out) (HL.out.below HB.out) (HR.out.below HB.out) hq1 hq2 HSL.out).mono ?_
      rintro e w8 ⟨rfl, hbX⟩
      clear x19 y1
      have nHX := Lib.hid (HX.out.below hbX)
      have nHY := Lib.hid (HY.out.below hbX)
      have nHW := Lib.hid (HW.out.below hbX)
      have nHSL := Lib.hid (HSL.out.below hbX)
      have nHB := Lib.hid (bthen HB.out hbX)
      clear HX HY HW HSL HB hbX
      have HX := nHX
      have HY := nHY
      have HW := nHW
      have HSL := nHSL
      have HB := nHB
      clear nHX nHY nHW nHSL nHB
      have y1 := HY.out.cell 1
      simp only [List.getElem?_toArray, List.getElem?_cons_succ, List.getElem?_cons_zero] at y1
      go_wp2_with (fail)
      have HV0 := Lib.hid (RowKit.Below.refl w8.heap.size w8)
      clear y1 hwe1 hwe2
      go_loopg [23] L.length (fun gy iv wr => ∃ i : Nat, iv = .int .i64 i ∧ i ≤ L.length ∧ L.length - i ≤ gy ∧ Hid (RowKit.Below w8.heap.size w8 wr))
      case atStart => exact ⟨0, rfl, Nat.zero_le _, Nat.sub_le _ _, HV0⟩
      case round =>
        clear HV0
        obtain ⟨i, rfl, hi, hgy, HV⟩ := hrel
        by_cases hlt : i < L.length
        case pos =>
          have hltz : (i : Int) < (L.length : Int) := by omega
          obtain ⟨h1, h2, h3, h3b, h4, h5, h6⟩ := HEA.out i hlt
          obtain ⟨bP, oP, rfl, hbP, hcP⟩ := HSL.out (by omega)
          have p0 : wr.cell? ⟨bP, oP + i * 3, none⟩ = some (.int .i64 (hvx L i).p) := (HV.out.cell (p := ⟨bP, oP + i * 3, none⟩) hbP).trans (hcP i hlt 0 (by omega))
          have p1 : wr.cell? ⟨bP, oP + i * 3 + 1, none⟩ = some (.int .i64 (hvx L i).t) := (HV.out.cell (p := ⟨bP, oP + i * 3 + 1, none⟩) hbP).trans (hcP i hlt 1 (by omega))
          have p2 : wr.cell? ⟨bP, oP + i * 3 + 2, none⟩ = some (.bool (hvx L i).b) := (HV.out.cell (p := ⟨bP, oP + i * 3 + 2, none⟩) hbP).trans (hcP i hlt 2 (by omega))
          generalize hvx L i = x at *
          obtain ⟨xp, xt, xb⟩ := x
          dsimp only at h1 h2 h3 h3b h4 h5 h6 p0 p1 p2
          have htk := HTK.out
          have hre := HRE.out (F.dep + (i : Int)) xp
          rw [h2] at hre
          have hti : F.dep + (i : Int) ≤ F.at_ (lgT S n) (F.m - 1) := by have := HAR4.out; omega
          have HRE2 := Lib.hid (fun w1 g1 g2 => hre w1 g1 g2 h1 (by omega) hti)
          have hmy := fun w1 g1 => wMayW_c M vF vS (xp : Int) xt w1 g1
          rw [h3b, h4] at hmy
          have hnu := HNU.out
          have hpl := HPL.out
          rcases hsk : M.may (xp : Int) xt with ⟨s0, s1, s2, s3, s4, s5, si, ss⟩
          rw [hsk] at hmy h6
          have hfw := fun (hh : hasW ⟨s0, s1, s2, s3, s4, s5, si, ss⟩ z0 z1 z2 z3 z4 = true) => fly_within h6 hh
          unfold openB at h6
          unfold Sk.cells at hmy
          dsimp only at h6 hmy
          have hWO := fun w1 => rw5Worst_c ⟨s0, s1, s2, s3, s4, s5, si, ss⟩ w1
          dsimp only at hWO
          have hFY := fun w1 => rw_Flyable_c s1 s2 s4 si ss lw ls lc li lb w1
          rw [h6] at hFY
          have hIN := fun w1 => rw5In_c ⟨s0, s1, s2, s3, s4, s5, si, ss⟩ z0 z1 z2 z3 z4 w1
          unfold Sk.cells at hIN
          dsimp only at hIN
          have hFZ := fun w1 => rw_Flyable_c z0 z1 z2 z3 z4 lw ls lc li lb w1
          obtain ⟨hw, hwe⟩ : ∃ hw, hw = hasW ⟨s0, s1, s2, s3, s4, s5, si, ss⟩ z0 z1 z2 z3 z4 := ⟨_, rfl⟩
          rw [← hwe] at hIN hfw
          have HMY := Lib.hid hmy
          have HWO := Lib.hid hWO
          have HFY := Lib.hid hFY
          have HIN := Lib.hid hIN
          have hbd := mul_bd (A := 100000) (B := 3000) (a := F.burn) (b := xt - F.dep) (by omega) (by omega) (by omega) (by omega)
          have hw1 : IntKind.i64.wrap (xt - F.dep) = xt - F.dep := by rw [IntKind.wrap_i64]; omega
          have hw2 : IntKind.i64.wrap (F.burn * (xt - F.dep)) = F.burn * (xt - F.dep) := by rw [IntKind.wrap_i64]; omega
          have hw3 : IntKind.i64.wrap (F.fuel - F.burn * (xt - F.dep)) = F.fuel - F.burn * (xt - F.dep) := by rw [IntKind.wrap_i64]; omega
          unfold FliD.lasts at h3
          have hnl : ¬ F.fuel - F.burn * (xt - F.dep) < F.res := by have := of_decide_eq_true h3; omega
          have hwi : IntKind.i64.wrap (F.dep + (i : Int)) = F.dep + (i : Int) := by rw [IntKind.wrap_i64]; have := HEN.out; omega
          have hwp : IntKind.i64.wrap (M.places - 1) = M.places - 1 := by rw [IntKind.wrap_i64]; have := HPRF.out.2.1; omega
          have hmx : max 0 (min (xp : Int) (M.places - 1)) = (xp : Int) := by omega
          have nX := Lib.hid (HX.out.below HV.out)
          have nY := Lib.hid (HY.out.below HV.out)
          have nW := Lib.hid (HW.out.below HV.out)
          have nB := Lib.hid (bthen HB.out HV.out)
          clear h1 h2 h3 h3b h4 h5 h6 hcP htk hre hti hmy hnu hpl hsk hwe hbd hWO hFY hIN
          have tokS : True := trivial
          have tok2 : True := trivial
          have tok3 : True := trivial
          go_wp2_with (first | (have _t := tokS; refine wpl_store_newR rfl 47 (.tmp 24) (.tmp 184) rfl #[.int .i64 (xp : Int), .int .i64 xt, .bool xb] _ _ rfl ?_ rfl Tryz.sizeHav rfl (by simp [Value.oneCell']) ?_; (focus (simp; done)); simp only [Act.put]; clear tokS) | (have _t := tok3; refine wpl_mid rfl 29 _ rfl w.heap.size 0 rfl 34 #[.int .i64 M.places, .int .i64 M.any.a0, .int .i64 M.any.a1, .int .i64 M.any.a2, .int .i64 M.any.a3, .int .i64 M.any.a4, .int .i64 M.any.a5, .bool M.any.i, .bool M.any.s, .int .i64 M.mw, .int .i64 M.ms, .int .i64 M.mc, vF, vS, .int .i64 lw, .int .i64 ls, .int .i64 lc, .bool li, .bool lb, .slice A n c] #[.int .i64 M.places, .int .i64 M.any.a0, .int .i64 M.any.a1, .int .i64 M.any.a2, .int .i64 M.any.a3, .int .i64 M.any.a4, .int .i64 M.any.a5, .bool M.any.i, .bool M.any.s, .int .i64 M.mw, .int .i64 M.ms, .int .i64 M.mc, vF, vS] 14 (nX.out.alloc _) Tryz.rowMet [] [.int .i64 lw, .int .i64 ls, .int .i64 lc, .bool li, .bool lb, .slice A n c] rfl rfl rfl ?_; simp only [Act.put]; clear tok3; generalize hWX : World.alloc wr _ = wa; have qX := nX.out.alloc (.cells #[.int .i64 (xp : Int), .int .i64 xt, .bool xb] 47); have qY := nY.out.alloc (.cells #[.int .i64 (xp : Int), .int .i64 xt, .bool xb] 47); have qW := nW.out.alloc (.cells #[.int .i64 (xp : Int), .int .i64 xt, .bool xb] 47); have qB := bal nB.out (.cells #[.int .i64 (xp : Int), .int .i64 xt, .bool xb] 47); have qH := Blk.new wr 47 #[.int .i64 (xp : Int), .int .i64 xt, .bool xb]; have qV := bal HV.out (.cells #[.int .i64 (xp : Int), .int .i64 xt, .bool xb] 47); rw [hWX] at qX qY qW qB qH qV; clear hWX nX nY nW nB p0 p1 p2; have nX := Lib.hid qX; have nY := Lib.hid qY; have nW := Lib.hid qW; have nB := Lib.hid qB; have HK := Lib.hid qH; have nV := Lib.hid qV; clear qX qY qW qB qH qV; have x19 := nX.out.cell 19; have x0 := nX.out.cell 0; have y1 := nY.out.cell 1; have k0 := HK.out.cell 0; simp only [List.getElem?_toArray, List.getElem?_cons_succ, List.getElem?_cons_zero] at x19 x0 y1 k0) | (have _t := tok2; refine wpl_row rfl 37 (.tmp 4) rfl _ rfl #[.slice AR F.m cR, .int .i64 F.dep, .int .i64 F.fuel, .int .i64 F.burn, .int .i64 F.res] 5 nY.out Tryz.rowFli rfl ?_; simp only [Act.put]; clear tok2))
          refine (HRE2.out _ (HL.out.below nB.out) (HR.out.below nB.out)).mono ?_
          rintro e wb ⟨rfl, hbX⟩
          clear x19 x0 y1 k0 hwi hwp hmx HRE2
          have qX := Lib.hid (nX.out.below hbX)
          have qY := Lib.hid (nY.out.below hbX)
          have qW := Lib.hid (nW.out.below hbX)
          have qK := Lib.hid (HK.out.below hbX)
          have qB := Lib.hid (bthen nB.out hbX)
          have qV := Lib.hid (bthen nV.out hbX)
          clear nX nY nW HK nB nV hbX
          have y1 := qY.out.cell 1
          have y2 := qY.out.cell 2
          have y3 := qY.out.cell 3
          have y4 := qY.out.cell 4
          have k0 := qK.out.cell 0
          have k1 := qK.out.cell 1
          have k2 := qK.out.cell 2
          simp only [List.getElem?_toArray, List.getElem?_cons_succ, List.getElem?_cons_zero] at y1 y2 y3 y4 k0 k1 k2
          have xtt : (xt != xt) = false := by simp
          have xbb : (xb != xb) = false := by simp
          have tok3 : True := trivial
          go_wp2_with (first | (have _t := tok3; refine wpl_mid rfl 29 _ rfl w.heap.size 0 rfl 34 #[.int .i64 M.places, .int .i64 M.any.a0, .int .i64 M.any.a1, .int .i64 M.any.a2, .int .i64 M.any.a3, .int .i64 M.any.a4, .int .i64 M.any.a5, .bool M.any.i, .bool M.any.s, .int .i64 M.mw, .int .i64 M.ms, .int .i64 M.mc, vF, vS, .int .i64 lw, .int .i64 ls, .int .i64 lc, .bool li, .bool lb, .slice A n c] #[.int .i64 M.places, .int .i64 M.any.a0, .int .i64 M.any.a1, .int .i64 M.any.a2, .int .i64 M.any.a3, .int .i64 M.any.a4, .int .i64 M.any.a5, .bool M.any.i, .bool M.any.s, .int .i64 M.mw, .int .i64 M.ms, .int .i64 M.mc, vF, vS] 14 qX.out Tryz.rowMet [] [.int .i64 lw, .int .i64 ls, .int .i64 lc, .bool li, .bool lb, .slice A n c] rfl rfl rfl ?_; simp only [Act.put]; clear tok3))
          refine (HMY.out _ (HM.out.below qB.out)).mono ?_
          rintro e wc ⟨rfl, hbX⟩
          clear y1 y2 y3 y4 k0 k1 k2 hw1 hw2 hw3 hnl HMY
          have nX := Lib.hid ((qX.out.below hbX).alloc (.cells #[.int .i64 s0, .int .i64 s1, .int .i64 s2, .int .i64 s3, .int .i64 s4, .int .i64 s5, .bool si, .bool ss] 25))
          have nW := Lib.hid ((qW.out.below hbX).alloc (.cells #[.int .i64 s0, .int .i64 s1, .int .i64 s2, .int .i64 s3, .int .i64 s4, .int .i64 s5, .bool si, .bool ss] 25))
          have nV := Lib.hid (bal (bthen qV.out hbX) (.cells #[.int .i64 s0, .int .i64 s1, .int .i64 s2, .int .i64 s3, .int .i64 s4, .int .i64 s5, .bool si, .bool ss] 25))
          have nS := Lib.hid (Blk.new wc 25 #[.int .i64 s0, .int .i64 s1, .int .i64 s2, .int .i64 s3, .int .i64 s4, .int .i64 s5, .bool si, .bool ss])
          clear qX qY qW qK qB qV hbX
          have tokS : True := trivial
          have tok5 : True := trivial
          cases hw
          case false =>
            clear hfw hFZ
            go_wp2_with (first | (have _t := tokS; refine wpl_store_newR rfl 25 (.tmp 27) (.tmp 240) rfl #[.int .i64 s0, .int .i64 s1, .int .i64 s2, .int .i64 s3, .int .i64 s4, .int .i64 s5, .bool si, .bool ss] _ _ rfl ?_ rfl Tryz.sizeSky9 rfl (by simp [Value.oneCell']) ?_; (focus (simp; done)); simp only [Act.put]; clear tokS))
            generalize World.alloc wc _ = wd at *
            have hX2 := Lib.hid (fun r : After wd => nX.out.below r.below)
            have hW2 := Lib.hid (fun r : After wd => nW.out.below r.below)
            have hS2 := Lib.hid (fun r : After wd => nS.out.below r.below)
            refine wp_region_after (by kernel_rfl) (by kernel_rfl) ?_
            iterate 3 (go_big_quiet_step (fail))
            (refine wpq_row_gg rfl 25 _ rfl _ rfl #[.int .i64 s0, .int .i64 s1, .int .i64 s2, .int .i64 s3, .int .i64 s4, .int .i64 s5, .bool si, .bool ss] 8 (fun _ hw => by obtain ⟨r, rfl⟩ := hw; exact hS2.out r) Tryz.rowSky rfl ?_; simp only [Act.put, List.setIfInBounds_toArray, List.set_cons_succ, List.set_cons_zero])
            go_big_quiet_step (first | (go_at_call 57; (refine qafter (HWO.out _))))
            go_big_quiet_step (fail)
            (refine wpq_mid_gg rfl 31 _ rfl w.heap.size 14 rfl 34 #[.int .i64 M.places, .int .i64 M.any.a0, .int .i64 M.any.a1, .int .i64 M.any.a2, .int .i64 M.any.a3, .int .i64 M.any.a4, .int .i64 M.any.a5, .bool M.any.i, .bool M.any.s, .int .i64 M.mw, .int .i64 M.ms, .int .i64 M.mc, vF, vS, .int .i64 lw, .int .i64 ls, .int .i64 lc, .bool li, .bool lb, .slice A n c] #[.int .i64 lw, .int .i64 ls, .int .i64 lc, .bool li, .bool lb] 5 (fun _ hw => by obtain ⟨r, rfl⟩ := hw; exact hX2.out r) Tryz.rowMin [.int .i64 M.places, .int .i64 M.any.a0, .int .i64 M.any.a1, .int .i64 M.any.a2, .int .i64 M.any.a3, .int .i64 M.any.a4, .int .i64 M.any.a5, .bool M.any.i, .bool M.any.s, .int .i64 M.mw, .int .i64 M.ms, .int .i64 M.mc, vF, vS] [.slice A n c] rfl rfl rfl ?_; simp only [Act.put, List.setIfInBounds_toArray, List.set_cons_succ, List.set_cons_zero])
            go_big_quiet_step (first | (go_at_call 24; (refine qafter (HFY.out _))))
            iterate 3 (go_big_quiet_step (fail))
            (refine wpq_row_gg rfl 57 _ rfl _ rfl #[.int .i64 z0, .int .i64 z1, .int .i64 z2, .bool z3, .bool z4] 5 (fun _ hw => by obtain ⟨r, rfl⟩ := hw; exact hW2.out r) Tryz.rowWe rfl ?_; simp only [Act.put, List.setIfInBounds_toArray, List.set_cons_succ, List.set_cons_zero])
            (refine wpq_row_gg rfl 25 _ rfl _ rfl #[.int .i64 s0, .int .i64 s1, .int .i64 s2, .int .i64 s3, .int .i64 s4, .int .i64 s5, .bool si, .bool ss] 8 (fun _ hw => by obtain ⟨r, rfl⟩ := hw; exact hS2.out r) Tryz.rowSky rfl ?_; simp only [Act.put, List.setIfInBounds_toArray, List.set_cons_succ, List.set_cons_zero])
            go_big_quiet_step (first | (go_at_call 58; (refine qafter (HIN.out _))))
            go_big_quiet_step (fail)
            iterate 7 (go_big_quiet_step (fail))
            refine wpQuiet_nil ?_
            rintro we ⟨r3, hr3⟩
            have hbE : RowKit.Below wd.heap.size wd we := by rw [hr3]; exact r3.below
            clear hr3 r3 hX2 hW2 hS2
            have qV := Lib.hid (bthen nV.out hbE)
            clear nX nW nS nV hbE
            go_wp2_with (fail)
            go_roundg (L.length - (i + 1))
            case measure => omega
            case rel => exact ⟨i + 1, by first | rfl | go_num | (congr 1; omega), by omega, Nat.le_refl _, qV⟩
          have hfz := hfw rfl
          rw [hfz] at hFZ
          have HFZ := Lib.hid hFZ
          clear hfw hfz hFZ
          go_wp2_with (first | (have _t := tokS; refine wpl_store_newR rfl 25 (.tmp 27) (.tmp 240) rfl #[.int .i64 s0, .int .i64 s1, .int .i64 s2, .int .i64 s3, .int .i64 s4, .int .i64 s5, .bool si, .bool ss] _ _ rfl ?_ rfl Tryz.sizeSky9 rfl (by simp [Value.oneCell']) ?_; (focus (simp; done)); simp only [Act.put]; clear tokS))
          generalize World.alloc wc _ = wd at *
          have hX2 := Lib.hid (fun r : After wd => nX.out.below r.below)
          have hW2 := Lib.hid (fun r : After wd => nW.out.below r.below)
          have hS2 := Lib.hid (fun r : After wd => nS.out.below r.below)
          refine wp_region_after (by kernel_rfl) (by kernel_rfl) ?_
          iterate 3 (go_big_quiet_step (fail))
          (refine wpq_row_gg rfl 25 _ rfl _ rfl #[.int .i64 s0, .int .i64 s1, .int .i64 s2, .int .i64 s3, .int .i64 s4, .int .i64 s5, .bool si, .bool ss] 8 (fun _ hw => by obtain ⟨r, rfl⟩ := hw; exact hS2.out r) Tryz.rowSky rfl ?_; simp only [Act.put, List.setIfInBounds_toArray, List.set_cons_succ, List.set_cons_zero])
          go_big_quiet_step (first | (go_at_call 57; (refine qafter (HWO.out _))))
          go_big_quiet_step (fail)
          (refine wpq_mid_gg rfl 31 _ rfl w.heap.size 14 rfl 34 #[.int .i64 M.places, .int .i64 M.any.a0, .int .i64 M.any.a1, .int .i64 M.any.a2, .int .i64 M.any.a3, .int .i64 M.any.a4, .int .i64 M.any.a5, .bool M.any.i, .bool M.any.s, .int .i64 M.mw, .int .i64 M.ms, .int .i64 M.mc, vF, vS, .int .i64 lw, .int .i64 ls, .int .i64 lc, .bool li, .bool lb, .slice A n c] #[.int .i64 lw, .int .i64 ls, .int .i64 lc, .bool li, .bool lb] 5 (fun _ hw => by obtain ⟨r, rfl⟩ := hw; exact hX2.out r) Tryz.rowMin [.int .i64 M.places, .int .i64 M.any.a0, .int .i64 M.any.a1, .int .i64 M.any.a2, .int .i64 M.any.a3, .int .i64 M.any.a4, .int .i64 M.any.a5, .bool M.any.i, .bool M.any.s, .int .i64 M.mw, .int .i64 M.ms, .int .i64 M.mc, vF, vS] [.slice A n c] rfl rfl rfl ?_; simp only [Act.put, List.setIfInBounds_toArray, List.set_cons_succ, List.set_cons_zero])
          go_big_quiet_step (first | (go_at_call 24; (refine qafter (HFY.out _))))
          iterate 3 (go_big_quiet_step (fail))
          (refine wpq_row_gg rfl 57 _ rfl _ rfl #[.int .i64 z0, .int .i64 z1, .int .i64 z2, .bool z3, .bool z4] 5 (fun _ hw => by obtain ⟨r, rfl⟩ := hw; exact hW2.out r) Tryz.rowWe rfl ?_; simp only [Act.put, List.setIfInBounds_toArray, List.set_cons_succ, List.set_cons_zero])
          (refine wpq_row_gg rfl 25 _ rfl _ rfl #[.int .i64 s0, .int .i64 s1, .int .i64 s2, .int .i64 s3, .int .i64 s4, .int .i64 s5, .bool si, .bool ss] 8 (fun _ hw => by obtain ⟨r, rfl⟩ := hw; exact hS2.out r) Tryz.rowSky rfl ?_; simp only [Act.put, List.setIfInBounds_toArray, List.set_cons_succ, List.set_cons_zero])
          go_big_quiet_step (first | (go_at_call 58; (refine qafter (HIN.out _))))
          go_big_quiet_step (fail)
          (refine wpq_row_gg rfl 57 _ rfl _ rfl #[.int .i64 z0, .int .i64 z1, .int .i64 z2, .bool z3, .bool z4] 5 (fun _ hw => by obtain ⟨r, rfl⟩ := hw; exact hW2.out r) Tryz.rowWe rfl ?_; simp only [Act.put, List.setIfInBounds_toArray, List.set_cons_succ, List.set_cons_zero])
          go_big_quiet_step (fail)
          (refine wpq_mid_gg rfl 31 _ rfl w.heap.size 14 rfl 34 #[.int .i64 M.places, .int .i64 M.any.a0, .int .i64 M.any.a1, .int .i64 M.any.a2, .int .i64 M.any.a3, .int .i64 M.any.a4, .int .i64 M.any.a5, .bool M.any.i, .bool M.any.s, .int .i64 M.mw, .int .i64 M.ms, .int .i64 M.mc, vF, vS, .int .i64 lw, .int .i64 ls, .int .i64 lc, .bool li, .bool lb, .slice A n c] #[.int .i64 lw, .int .i64 ls, .int .i64 lc, .bool li, .bool lb] 5 (fun _ hw => by obtain ⟨r, rfl⟩ := hw; exact hX2.out r) Tryz.rowMin [.int .i64 M.places, .int .i64 M.any.a0, .int .i64 M.any.a1, .int .i64 M.any.a2, .int .i64 M.any.a3, .int .i64 M.any.a4, .int .i64 M.any.a5, .bool M.any.i, .bool M.any.s, .int .i64 M.mw, .int .i64 M.ms, .int .i64 M.mc, vF, vS] [.slice A n c] rfl rfl rfl ?_; simp only [Act.put, List.setIfInBounds_toArray, List.set_cons_succ, List.set_cons_zero])
          go_big_quiet_step (first | (go_at_call 24; (refine qafter (HFZ.out _))))
          iterate 3 (go_big_quiet_step (fail))
          refine wpQuiet_nil ?_
          rintro we ⟨r3, hr3⟩
          have hbE : RowKit.Below wd.heap.size wd we := by rw [hr3]; exact r3.below
          clear hr3 r3 hX2 hW2 hS2
          have qV := Lib.hid (bthen nV.out hbE)
          clear nX nW nS nV hbE
          go_wp2_with (fail)
          go_roundg (L.length - (i + 1))
          case measure => omega
          case rel => exact ⟨i + 1, by first | rfl | go_num | (congr 1; omega), by omega, Nat.le_refl _, qV⟩
        obtain rfl : L.length = i := by omega
        have hnlt : ¬ (L.length : Int) < (L.length : Int) := by omega
        have hV := HV.out
        clear HV
        have nHX := Lib.hid (HX.out.below hV)
        have nHY := Lib.hid (HY.out.below hV)
        have nHB := Lib.hid (bthen HB.out hV)
        clear HX HY HB hV
        have HX := nHX
        have HY := nHY
        have HB := nHB
        clear nHX nHY nHB
        go_wp2_with (first | (go_at_call 26; (with_reducible refine (rworks_c _).mono ?_); rintro e w1 ⟨rfl, hb1⟩; have nHX := Lib.hid (HX.out.below hb1); have nHY := Lib.hid (HY.out.below hb1); have nHB := Lib.hid (bthen HB.out hb1); have zz1 := hb1.size; clear HX HY HB hb1; have HX := nHX; have HY := nHY; have HB := nHB; clear nHX nHY nHB))
        go_ret
        exact ⟨rfl, HB.out⟩
  | some kk =>
    obtain rfl : la = kk := HLA.out
    have x19 := HX.out.cell 19
    have y1 := HY.out.cell 1
    simp only [List.getElem?_toArray, List.getElem?_cons_succ, List.getElem?_cons_zero] at x19 y1
    have tok2 : True := trivial
    have tok3 : True := trivial
    have tok4 : True := trivial
    go_wp2_with (first | (have _t := tok3; refine wpl_mid rfl 29 _ rfl w.heap.size 0 rfl 34 #[.int .i64 M.places, .int .i64 M.any.a0, .int .i64 M.any.a1, .int .i64 M.any.a2, .int .i64 M.any.a3, .int .i64 M.any.a4, .int .i64 M.any.a5, .bool M.any.i, .bool M.any.s, .int .i64 M.mw, .int .i64 M.ms, .int .i64 M.mc, vF, vS, .int .i64 lw, .int .i64 ls, .int .i64 lc, .bool li, .bool lb, .slice A n c] #[.int .i64 M.places, .int .i64 M.any.a0, .int .i64 M.any.a1, .int .i64 M.any.a2, .int .i64 M.any.a3, .int .i64 M.any.a4, .int .i64 M.any.a5, .bool M.any.i, .bool M.any.s, .int .i64 M.mw, .int .i64 M.ms, .int .i64 M.mc, vF, vS] 14 HX.out Tryz.rowMet [] [.int .i64 lw, .int .i64 ls, .int .i64 lc, .bool li, .bool lb, .slice A n c] rfl rfl rfl ?_; simp only [Act.put]; clear tok3) | (have _t := tok4; refine wpl_mid rfl 31 _ rfl w.heap.size 14 rfl 34 #[.int .i64 M.places, .int .i64 M.any.a0, .int .i64 M.any.a1, .int .i64 M.any.a2, .int .i64 M.any.a3, .int .i64 M.any.a4, .int .i64 M.any.a5, .bool M.any.i, .bool M.any.s, .int .i64 M.mw, .int .i64 M.ms, .int .i64 M.mc, vF, vS, .int .i64 lw, .int .i64 ls, .int .i64 lc, .bool li, .bool lb, .slice A n c] #[.int .i64 lw, .int .i64 ls, .int .i64 lc, .bool li, .bool lb] 5 HX.out Tryz.rowMin [.int .i64 M.places, .int .i64 M.any.a0, .int .i64 M.any.a1, .int .i64 M.any.a2, .int .i64 M.any.a3, .int .i64 M.any.a4, .int .i64 M.any.a5, .bool M.any.i, .bool M.any.s, .int .i64 M.mw, .int .i64 M.ms, .int .i64 M.mc, vF, vS] [.slice A n c] rfl rfl rfl ?_; simp only [Act.put]; clear tok4) | (have _t := tok2; refine wpl_row rfl 37 (.tmp 4) rfl _ rfl #[.slice AR F.m cR, .int .i64 F.dep, .int .i64 F.fuel, .int .i64 F.burn, .int .i64 F.res] 5 HY.out Tryz.rowFli rfl ?_; simp only [Act.put]; clear tok2))
    refine (HSA.out _ (HM.out.below HB.out) (HL.out.below HB.out) (HR.out.below HB.out)).mono ?_
    rintro e w2 ⟨rfl, hbX⟩
    clear x19 y1
    have nHX := Lib.hid (HX.out.below hbX)
    have nHY := Lib.hid (HY.out.below hbX)
    have nHW := Lib.hid (HW.out.below hbX)
    have nHB := Lib.hid (bthen HB.out hbX)
    clear HX HY HW HB hbX
    have HX := nHX
    have HY := nHY
    have HW := nHW
    have HB := nHB
    clear nHX nHY nHW nHB
    have x19 := HX.out.cell 19
    have y1 := HY.out.cell 1
    simp only [List.getElem?_toArray, List.getElem?_cons_succ, List.getElem?_cons_zero] at x19 y1
    have tok2 : True := trivial
    have tok3 : True := trivial
    have tok4 : True := trivial
    go_wp2_with (first | (have _t := tok3; refine wpl_mid rfl 29 _ rfl w.heap.size 0 rfl 34 #[.int .i64 M.places, .int .i64 M.any.a0, .int .i64 M.any.a1, .int .i64 M.any.a2, .int .i64 M.any.a3, .int .i64 M.any.a4, .int .i64 M.any.a5, .bool M.any.i, .bool M.any.s, .int .i64 M.mw, .int .i64 M.ms, .int .i64 M.mc, vF, vS, .int .i64 lw, .int .i64 ls, .int .i64 lc, .bool li, .bool lb, .slice A n c] #[.int .i64 M.places, .int .i64 M.any.a0, .int .i64 M.any.a1, .int .i64 M.any.a2, .int .i64 M.any.a3, .int .i64 M.any.a4, .int .i64 M.any.a5, .bool M.any.i, .bool M.any.s, .int .i64 M.mw, .int .i64 M.ms, .int .i64 M.mc, vF, vS] 14 HX.out Tryz.rowMet [] [.int .i64 lw, .int .i64 ls, .int .i64 lc, .bool li, .bool lb, .slice A n c] rfl rfl rfl ?_; simp only [Act.put]; clear tok3) | (have _t := tok4; refine wpl_mid rfl 31 _ rfl w.heap.size 14 rfl 34 #[.int .i64 M.places, .int .i64 M.any.a0, .int .i64 M.any.a1, .int .i64 M.any.a2, .int .i64 M.any.a3, .int .i64 M.any.a4, .int .i64 M.any.a5, .bool M.any.i, .bool M.any.s, .int .i64 M.mw, .int .i64 M.ms, .int .i64 M.mc, vF, vS, .int .i64 lw, .int .i64 ls, .int .i64 lc, .bool li, .bool lb, .slice A n c] #[.int .i64 lw, .int .i64 ls, .int .i64 lc, .bool li, .bool lb] 5 HX.out Tryz.rowMin [.int .i64 M.places, .int .i64 M.any.a0, .int .i64 M.any.a1, .int .i64 M.any.a2, .int .i64 M.any.a3, .int .i64 M.any.a4, .int .i64 M.any.a5, .bool M.any.i, .bool M.any.s, .int .i64 M.mw, .int .i64 M.ms, .int .i64 M.mc, vF, vS] [.slice A n c] rfl rfl rfl ?_; simp only [Act.put]; clear tok4) | (have _t := tok2; refine wpl_row rfl 37 (.tmp 4) rfl _ rfl #[.slice AR F.m cR, .int .i64 F.dep, .int .i64 F.fuel, .int .i64 F.burn, .int .i64 F.res] 5 HY.out Tryz.rowFli rfl ?_; simp only [Act.put]; clear tok2))
    refine (HPO.out _ (HM.out.below HB.out) (HL.out.below HB.out) (HR.out.below HB.out)).mono ?_
    rintro e w3 ⟨vP, rfl, hbX, hsl⟩
    obtain ⟨AP, cP, rfl, hq1, hq2, hsl⟩ := hsl
    have HSL := Lib.hid hsl
    clear x19 y1 hsl
    have nHX := Lib.hid (HX.out.below hbX)
    have nHY := Lib.hid (HY.out.below hbX)
    have nHW := Lib.hid (HW.out.below hbX)
    have nHB := Lib.hid (bthen HB.out hbX)
    clear HX HY HW HB hbX
    have HX := nHX
    have HY := nHY
    have HW := nHW
    have HB := nHB
    clear nHX nHY nHW nHB
    have x19 := HX.out.cell 19
    have y1 := HY.out.cell 1
    simp only [List.getElem?_toArray, List.getElem?_cons_succ, List.getElem?_cons_zero] at x19 y1
    have tok2 : True := trivial
    have tok3 : True := trivial
    have tok4 : True := trivial
    go_wp2_with (first | (have _t := tok3; refine wpl_mid rfl 29 _ rfl w.heap.size 0 rfl 34 #[.int .i64 M.places, .int .i64 M.any.a0, .int .i64 M.any.a1, .int .i64 M.any.a2, .int .i64 M.any.a3, .int .i64 M.any.a4, .int .i64 M.any.a5, .bool M.any.i, .bool M.any.s, .int .i64 M.mw, .int .i64 M.ms, .int .i64 M.mc, vF, vS, .int .i64 lw, .int .i64 ls, .int .i64 lc, .bool li, .bool lb, .slice A n c] #[.int .i64 M.places, .int .i64 M.any.a0, .int .i64 M.any.a1, .int .i64 M.any.a2, .int .i64 M.any.a3, .int .i64 M.any.a4, .int .i64 M.any.a5, .bool M.any.i, .bool M.any.s, .int .i64 M.mw, .int .i64 M.ms, .int .i64 M.mc, vF, vS] 14 HX.out Tryz.rowMet [] [.int .i64 lw, .int .i64 ls, .int .i64 lc, .bool li, .bool lb, .slice A n c] rfl rfl rfl ?_; simp only [Act.put]; clear tok3) | (have _t := tok2; refine wpl_row rfl 37 (.tmp 4) rfl _ rfl #[.slice AR F.m cR, .int .i64 F.dep, .int .i64 F.fuel, .int .i64 F.burn, .int .i64 F.res] 5 HY.out Tryz.rowFli rfl ?_; simp only [Act.put]; clear tok2))
    refine (HNR.out _ (HM.out.below HB.out) (HL.out.below HB.out) (HR.out.below HB.out)).mono ?_
    rintro e w4 ⟨rfl, hbX⟩
    clear x19 y1
    have nHX := Lib.hid (HX.out.below hbX)
    have nHY := Lib.hid (HY.out.below hbX)
    have nHW := Lib.hid (HW.out.below hbX)
    have nHSL := Lib.hid (HSL.out.below hbX)
    have nHB := Lib.hid (bthen HB.out hbX)
    clear HX HY HW HSL HB hbX
    have HX := nHX
    have HY := nHY
    have HW := nHW
    have HSL := nHSL
    have HB := nHB
    clear nHX nHY nHW nHSL nHB
    have x19 := HX.out.cell 19
    have y1 := HY.out.cell 1
    simp only [List.getElem?_toArray, List.getElem?_cons_succ, List.getElem?_cons_zero] at x19 y1
    have tok2 : True := trivial
    have tok3 : True := trivial
    have tok4 : True := trivial
    unfold norV
    go_wp2_with (first | (have _t := tok3; refine wpl_mid rfl 29 _ rfl w.heap.size 0 rfl 34 #[.int .i64 M.places, .int .i64 M.any.a0, .int .i64 M.any.a1, .int .i64 M.any.a2, .int .i64 M.any.a3, .int .i64 M.any.a4, .int .i64 M.any.a5, .bool M.any.i, .bool M.any.s, .int .i64 M.mw, .int .i64 M.ms, .int .i64 M.mc, vF, vS, .int .i64 lw, .int .i64 ls, .int .i64 lc, .bool li, .bool lb, .slice A n c] #[.int .i64 M.places, .int .i64 M.any.a0, .int .i64 M.any.a1, .int .i64 M.any.a2, .int .i64 M.any.a3, .int .i64 M.any.a4, .int .i64 M.any.a5, .bool M.any.i, .bool M.any.s, .int .i64 M.mw, .int .i64 M.ms, .int .i64 M.mc, vF, vS] 14 HX.out Tryz.rowMet [] [.int .i64 lw, .int .i64 ls, .int .i64 lc, .bool li, .bool lb, .slice A n c] rfl rfl rfl ?_; simp only [Act.put]; clear tok3) | (have _t := tok2; refine wpl_row rfl 37 (.tmp 4) rfl _ rfl #[.slice AR F.m cR, .int .i64 F.dep, .int .i64 F.fuel, .int .i64 F.burn, .int .i64 F.res] 5 HY.out Tryz.rowFli rfl ?_; simp only [Act.put]; clear tok2))
    refine (HAL.out _ (HM.out.below HB.out) (HL.out.below HB.out) (HR.out.below HB.out)).mono ?_
    rintro e w5 ⟨vA, rfl, hbX, hva⟩
    obtain ⟨A7, c7, rfl, e2, e3, e4⟩ := hva.1 rfl
    obtain ⟨b7, o7, rfl, hb7, hc7⟩ := e4 (by have := HMZ.out; omega)
    have cl : w5.cell? ⟨b7, o7 + m1, none⟩ = some (.int .i64 (F.at_ (lgT S n) m1)) := by have := hc7 m1 HMZ.out 0 (by omega); rw [Nat.mul_one, Nat.add_zero] at this; exact this
    rw [HAT.out] at cl
    clear x19 y1 e4 hc7 hva hb7
    have nHX := Lib.hid (HX.out.below hbX)
    have nHY := Lib.hid (HY.out.below hbX)
    have nHW := Lib.hid (HW.out.below hbX)
    have nHSL := Lib.hid (HSL.out.below hbX)
    have nHB := Lib.hid (bthen HB.out hbX)
    clear HX HY HW HSL HB hbX
    have HX := nHX
    have HY := nHY
    have HW := nHW
    have HSL := nHSL
    have HB := nHB
    clear nHX nHY nHW nHSL nHB
    have x19 := HX.out.cell 19
    have y1 := HY.out.cell 1
    simp only [List.getElem?_toArray, List.getElem?_cons_succ, List.getElem?_cons_zero] at x19 y1
    have tok2 : True := trivial
    have tok3 : True := trivial
    have tok4 : True := trivial
    go_wp2_with (fail)
    clear hwla hwd1 hmz
    have HW0 := Lib.hid (RowKit.Below.refl w5.heap.size w5)
    go_loopg [17] NT (fun gy tv wr => ∃ j : Nat, tv = .int .i64 (t0 + j) ∧ j ≤ NT ∧ NT - j ≤ gy ∧ Hid (RowKit.Below w5.heap.size w5 wr))
    case atStart => exact ⟨0, by congr 1; have := HT0.out; omega, Nat.zero_le _, Nat.sub_le _ _, HW0⟩
    case round =>
      clear HW0
      obtain ⟨j, rfl, hj, hgy, HV⟩ := hrel
      have ht0 := HT0.out
      have hnt := HNT.out
      have hen := HEN.out
      have hlb := HLAB.out
      by_cases hlt : j < NT
      case pos =>
        have hle : t0 + (j : Int) ≤ ar := by omega
        have hvt := HVT.out (t0 + (j : Int)) (by omega) (by omega) (by omega)
        have HVTT := Lib.hid hvt
        have ht3 : 0 ≤ t0 + (j : Int) ∧ t0 + (j : Int) ≤ 3000 := by omega
        have nX := Lib.hid (HX.out.below HV.out)
        have nY := Lib.hid (HY.out.below HV.out)
        have HBV := Lib.hid (bthen HB.out HV.out)
        have x19 := nX.out.cell 19
        simp only [List.getElem?_toArray, List.getElem?_cons_succ, List.getElem?_cons_zero] at x19
        have tok2 : True := trivial
        have tok3 : True := trivial
        have tok4 : True := trivial
        obtain ⟨tt0, htt⟩ : ∃ tt0, tt0 = t0 + (j : Int) := ⟨_, rfl⟩
        rw [← htt] at HVTT hle ht3 ⊢
        have hts : t0 + ((j + 1 : Nat) : Int) = tt0 + 1 := by omega
        have HTS := Lib.hid hts
        clear ht0 hnt hen hlb hvt htt hts
        go_wp2_with (first | (have _t := tok3; refine wpl_mid rfl 29 _ rfl w.heap.size 0 rfl 34 #[.int .i64 M.places, .int .i64 M.any.a0, .int .i64 M.any.a1, .int .i64 M.any.a2, .int .i64 M.any.a3, .int .i64 M.any.a4, .int .i64 M.any.a5, .bool M.any.i, .bool M.any.s, .int .i64 M.mw, .int .i64 M.ms, .int .i64 M.mc, vF, vS, .int .i64 lw, .int .i64 ls, .int .i64 lc, .bool li, .bool lb, .slice A n c] #[.int .i64 M.places, .int .i64 M.any.a0, .int .i64 M.any.a1, .int .i64 M.any.a2, .int .i64 M.any.a3, .int .i64 M.any.a4, .int .i64 M.any.a5, .bool M.any.i, .bool M.any.s, .int .i64 M.mw, .int .i64 M.ms, .int .i64 M.mc, vF, vS] 14 nX.out Tryz.rowMet [] [.int .i64 lw, .int .i64 ls, .int .i64 lc, .bool li, .bool lb, .slice A n c] rfl rfl rfl ?_; simp only [Act.put]; clear tok3) | (have _t := tok4; refine wpl_mid rfl 31 _ rfl w.heap.size 14 rfl 34 #[.int .i64 M.places, .int .i64 M.any.a0, .int .i64 M.any.a1, .int .i64 M.any.a2, .int .i64 M.any.a3, .int .i64 M.any.a4, .int .i64 M.any.a5, .bool M.any.i, .bool M.any.s, .int .i64 M.mw, .int .i64 M.ms, .int .i64 M.mc, vF, vS, .int .i64 lw, .int .i64 ls, .int .i64 lc, .bool li, .bool lb, .slice A n c] #[.int .i64 lw, .int .i64 ls, .int .i64 lc, .bool li, .bool lb] 5 nX.out Tryz.rowMin [.int .i64 M.places, .int .i64 M.any.a0, .int .i64 M.any.a1, .int .i64 M.any.a2, .int .i64 M.any.a3, .int .i64 M.any.a4, .int .i64 M.any.a5, .bool M.any.i, .bool M.any.s, .int .i64 M.mw, .int .i64 M.ms, .int .i64 M.mc, vF, vS] [.slice A n c] rfl rfl rfl ?_; simp only [Act.put]; clear tok4) | (have _t := tok2; refine wpl_row rfl 37 (.tmp 4) rfl _ rfl #[.slice AR F.m cR, .int .i64 F.dep, .int .i64 F.fuel, .int .i64 F.burn, .int .i64 F.res] 5 nY.out Tryz.rowFli rfl ?_; simp only [Act.put]; clear tok2))
        refine (HVTT.out _ (HM.out.below HBV.out) (HL.out.below HBV.out) (HR.out.below HBV.out)).mono ?_
        rintro e w7 ⟨vO, rfl, hbX, ll, hll, hsl, hne⟩
        obtain ⟨AO, cO, rfl, -, -, hO⟩ := hsl
        have HO := Lib.hid hO
        have HNE := Lib.hid hne
        have nV := Lib.hid (bthen HV.out hbX)
        obtain ⟨lk, hlk⟩ : ∃ lk, lk = ll.length := ⟨_, rfl⟩
        rw [← hlk] at HO HNE hll ⊢
        clear x19 HV HBV nX nY hbX hO hne hlk
        go_wp2_with (fail)
        have HU0 := Lib.hid (RowKit.Below.refl w7.heap.size w7)
        go_loopg [20] lk (fun gy iv wr => ∃ i : Nat, iv = .int .i64 i ∧ i ≤ lk ∧ lk - i ≤ gy ∧ Hid (RowKit.Below w7.heap.size w7 wr))
        case atStart => exact ⟨0, rfl, Nat.zero_le _, Nat.sub_le _ _, HU0⟩
        case round =>
          clear HU0
          obtain ⟨i, rfl, hi, hgi, HU⟩ := hrel
          by_cases hlti : i < lk
          case pos =>
            have hltz : (i : Int) < (lk : Int) := by omega
            obtain ⟨bO, oO, rfl, hbO, hcO⟩ := HO.out (by omega)
            have a0 : wr.cell? ⟨bO, oO + i * 3, none⟩ = some (.int .i64 (hvx ll i).p) := (HU.out.cell (p := ⟨bO, oO + i * 3, none⟩) hbO).trans (hcO i hlti 0 (by omega))
            have hn := HNE.out i hlti
            have HBU := Lib.hid (bthen (bthen HB.out nV.out) HU.out)
            have y0 := ((HY.out.below nV.out).below HU.out).cell 0
            simp only [List.getElem?_toArray, List.getElem?_cons_succ, List.getElem?_cons_zero] at y0
            obtain ⟨A9, c9, e9, q9, q10, r9⟩ := HR.out.below HBU.out
            cases e9
            obtain ⟨b9, o9, rfl, hb9, hc9⟩ := r9 (by have := HMZ.out; omega)
            have d0 : wr.cell? ⟨b9, o9, none⟩ = some (.int .i64 (F.R 0)) := by have := hc9 0 (by have := HMZ.out; omega) 0 (by omega); rw [Nat.zero_mul, Nat.add_zero] at this; exact this
            have hm0 : (0 : Int) < (F.m : Int) := by have := HMZ.out; omega
            generalize ((hvx ll i).p : Int) = pp at *
            clear hcO r9 hc9
            go_wp2_with (fail)
            go_quiet (fail)
            have nU := Lib.hid (bdn HU.out nq)
            clear HU HBU a0 y0 d0
            generalize World.drewN _ nq = wq at *
            go_wp2_with (fail)
            go_roundg (lk - (i + 1))
            case measure => omega
            case rel => exact ⟨i + 1, by first | rfl | go_num | (congr 1; omega), by omega, Nat.le_refl _, nU⟩
          obtain rfl : lk = i := by omega
          have hnlt : ¬ (lk : Int) < (lk : Int) := by omega
          have nV2 := Lib.hid (bthen nV.out HU.out)
          clear HU nV
          go_wp2_with (fail)
          go_roundg (NT - (j + 1))
          case measure => omega
          case rel => exact ⟨j + 1, by rw [HTS.out], by omega, Nat.le_refl _, nV2⟩
      have hgt : ¬ t0 + (j : Int) ≤ ar := by omega
      have hV2 := HV.out
      clear ht0 hnt hen hlb HV
      have nHX := Lib.hid (HX.out.below hV2)
      have nHY := Lib.hid (HY.out.below hV2)
      have nHW := Lib.hid (HW.out.below hV2)
      have nHSL := Lib.hid (HSL.out.below hV2)
      have nHB := Lib.hid (bthen HB.out hV2)
      clear HX HY HW HSL HB hV2
      have HX := nHX
      have HY := nHY
      have HW := nHW
      have HSL := nHSL
      have HB := nHB
      clear nHX nHY nHW nHSL nHB
      have hlen := HTK.out
      have hwe1 : IntKind.i64.wrap (ar - F.dep) = ar - F.dep := by rw [IntKind.wrap_i64]; have := HEN.out; have := HDL.out; omega
      have hwe2 : IntKind.i64.wrap (ar - F.dep + 1) = (L.length : Int) := by rw [IntKind.wrap_i64]; have := HEN.out; have := HDL.out; omega
      clear hlen
      have x19 := HX.out.cell 19
      have y1 := HY.out.cell 1
      simp only [List.getElem?_toArray, List.getElem?_cons_succ, List.getElem?_cons_zero] at x19 y1
      have tok2 : True := trivial
      have tok3 : True := trivial
      have tok4 : True := trivial
      go_wp2_with (first | (have _t := tok3; refine wpl_mid rfl 29 _ rfl w.heap.size 0 rfl 34 #[.int .i64 M.places, .int .i64 M.any.a0, .int .i64 M.any.a1, .int .i64 M.any.a2, .int .i64 M.any.a3, .int .i64 M.any.a4, .int .i64 M.any.a5, .bool M.any.i, .bool M.any.s, .int .i64 M.mw, .int .i64 M.ms, .int .i64 M.mc, vF, vS, .int .i64 lw, .int .i64 ls, .int .i64 lc, .bool li, .bool lb, .slice A n c] #[.int .i64 M.places, .int .i64 M.any.a0, .int .i64 M.any.a1, .int .i64 M.any.a2, .int .i64 M.any.a3, .int .i64 M.any.a4, .int .i64 M.any.a5, .bool M.any.i, .bool M.any.s, .int .i64 M.mw, .int .i64 M.ms, .int .i64 M.mc, vF, vS] 14 HX.out Tryz.rowMet [] [.int .i64 lw, .int .i64 ls, .int .i64 lc, .bool li, .bool lb, .slice A n c] rfl rfl rfl ?_; simp only [Act.put]; clear tok3) | (have _t := tok4; refine wpl_mid rfl 31 _ rfl w.heap.size 14 rfl 34 #[.int .i64 M.places, .int .i64 M.any.a0, .int .i64 M.any.a1, .int .i64 M.any.a2, .int .i64 M.any.a3, .int .i64 M.any.a4, .int .i64 M.any.a5, .bool M.any.i, .bool M.any.s, .int .i64 M.mw, .int .i64 M.ms, .int .i64 M.mc, vF, vS, .int .i64 lw, .int .i64 ls, .int .i64 lc, .bool li, .bool lb, .slice A n c] #[.int .i64 lw, .int .i64 ls, .int .i64 lc, .bool li, .bool lb] 5 HX.out Tryz.rowMin [.int .i64 M.places, .int .i64 M.any.a0, .int .i64 M.any.a1, .int .i64 M.any.a2, .int .i64 M.any.a3, .int .i64 M.any.a4, .int .i64 M.any.a5, .bool M.any.i, .bool M.any.s, .int .i64 M.mw, .int .i64 M.ms, .int .i64 M.mc, vF, vS] [.slice A n c] rfl rfl rfl ?_; simp only [Act.put]; clear tok4) | (have _t := tok2; refine wpl_row rfl 37 (.tmp 4) rfl _ rfl #[.slice AR F.m cR, .int .i64 F.dep, .int .i64 F.fuel, .int .i64 F.burn, .int .i64 F.res] 5 HY.out Tryz.rowFli rfl ?_; simp only [Act.put]; clear tok2))
      refine (HPV.out _ _ _ (HM.out.below HB.out) (HL.out.below HB.out) (HR.out.below HB.out) hq1 hq2 HSL.out).mono ?_
      rintro e w8 ⟨rfl, hbX⟩
      clear x19 y1
      have nHX := Lib.hid (HX.out.below hbX)
      have nHY := Lib.hid (HY.out.below hbX)
      have nHW := Lib.hid (HW.out.below hbX)
      have nHSL := Lib.hid (HSL.out.below hbX)
      have nHB := Lib.hid (bthen HB.out hbX)
      clear HX HY HW HSL HB hbX
      have HX := nHX
      have HY := nHY
      have HW := nHW
      have HSL := nHSL
      have HB := nHB
      clear nHX nHY nHW nHSL nHB
      have y1 := HY.out.cell 1
      simp only [List.getElem?_toArray, List.getElem?_cons_succ, List.getElem?_cons_zero] at y1
      go_wp2_with (fail)
      have HV0 := Lib.hid (RowKit.Below.refl w8.heap.size w8)
      clear y1 hwe1 hwe2
      go_loopg [23] L.length (fun gy iv wr => ∃ i : Nat, iv = .int .i64 i ∧ i ≤ L.length ∧ L.length - i ≤ gy ∧ Hid (RowKit.Below w8.heap.size w8 wr))
      case atStart => exact ⟨0, rfl, Nat.zero_le _, Nat.sub_le _ _, HV0⟩
      case round =>
        clear HV0
        obtain ⟨i, rfl, hi, hgy, HV⟩ := hrel
        by_cases hlt : i < L.length
        case pos =>
          have hltz : (i : Int) < (L.length : Int) := by omega
          obtain ⟨h1, h2, h3, h3b, h4, h5, h6⟩ := HEA.out i hlt
          obtain ⟨bP, oP, rfl, hbP, hcP⟩ := HSL.out (by omega)
          have p0 : wr.cell? ⟨bP, oP + i * 3, none⟩ = some (.int .i64 (hvx L i).p) := (HV.out.cell (p := ⟨bP, oP + i * 3, none⟩) hbP).trans (hcP i hlt 0 (by omega))
          have p1 : wr.cell? ⟨bP, oP + i * 3 + 1, none⟩ = some (.int .i64 (hvx L i).t) := (HV.out.cell (p := ⟨bP, oP + i * 3 + 1, none⟩) hbP).trans (hcP i hlt 1 (by omega))
          have p2 : wr.cell? ⟨bP, oP + i * 3 + 2, none⟩ = some (.bool (hvx L i).b) := (HV.out.cell (p := ⟨bP, oP + i * 3 + 2, none⟩) hbP).trans (hcP i hlt 2 (by omega))
          generalize hvx L i = x at *
          obtain ⟨xp, xt, xb⟩ := x
          dsimp only at h1 h2 h3 h3b h4 h5 h6 p0 p1 p2
          have htk := HTK.out
          have hre := HRE.out (F.dep + (i : Int)) xp
          rw [h2] at hre
          have hti : F.dep + (i : Int) ≤ F.at_ (lgT S n) (F.m - 1) := by have := HAR4.out; omega
          have HRE2 := Lib.hid (fun w1 g1 g2 => hre w1 g1 g2 h1 (by omega) hti)
          have hmy := fun w1 g1 => wMayW_c M vF vS (xp : Int) xt w1 g1
          rw [h3b, h4] at hmy
          have hnu := HNU.out
          have hpl := HPL.out
          rcases hsk : M.may (xp : Int) xt with ⟨s0, s1, s2, s3, s4, s5, si, ss⟩
          rw [hsk] at hmy h6
          have hfw := fun (hh : hasW ⟨s0, s1, s2, s3, s4, s5, si, ss⟩ z0 z1 z2 z3 z4 = true) => fly_within h6 hh
          unfold openB at h6
          unfold Sk.cells at hmy
          dsimp only at h6 hmy
          have hWO := fun w1 => rw5Worst_c ⟨s0, s1, s2, s3, s4, s5, si, ss⟩ w1
          dsimp only at hWO
          have hFY := fun w1 => rw_Flyable_c s1 s2 s4 si ss lw ls lc li lb w1
          rw [h6] at hFY
          have hIN := fun w1 => rw5In_c ⟨s0, s1, s2, s3, s4, s5, si, ss⟩ z0 z1 z2 z3 z4 w1
          unfold Sk.cells at hIN
          dsimp only at hIN
          have hFZ := fun w1 => rw_Flyable_c z0 z1 z2 z3 z4 lw ls lc li lb w1
          obtain ⟨hw, hwe⟩ : ∃ hw, hw = hasW ⟨s0, s1, s2, s3, s4, s5, si, ss⟩ z0 z1 z2 z3 z4 := ⟨_, rfl⟩
          rw [← hwe] at hIN hfw
          have HMY := Lib.hid hmy
          have HWO := Lib.hid hWO
          have HFY := Lib.hid hFY
          have HIN := Lib.hid hIN
          have hbd := mul_bd (A := 100000) (B := 3000) (a := F.burn) (b := xt - F.dep) (by omega) (by omega) (by omega) (by omega)
          have hw1 : IntKind.i64.wrap (xt - F.dep) = xt - F.dep := by rw [IntKind.wrap_i64]; omega
          have hw2 : IntKind.i64.wrap (F.burn * (xt - F.dep)) = F.burn * (xt - F.dep) := by rw [IntKind.wrap_i64]; omega
          have hw3 : IntKind.i64.wrap (F.fuel - F.burn * (xt - F.dep)) = F.fuel - F.burn * (xt - F.dep) := by rw [IntKind.wrap_i64]; omega
          unfold FliD.lasts at h3
          have hnl : ¬ F.fuel - F.burn * (xt - F.dep) < F.res := by have := of_decide_eq_true h3; omega
          have hwi : IntKind.i64.wrap (F.dep + (i : Int)) = F.dep + (i : Int) := by rw [IntKind.wrap_i64]; have := HEN.out; omega
          have hwp : IntKind.i64.wrap (M.places - 1) = M.places - 1 := by rw [IntKind.wrap_i64]; have := HPRF.out.2.1; omega
          have hmx : max 0 (min (xp : Int) (M.places - 1)) = (xp : Int) := by omega
          have nX := Lib.hid (HX.out.below HV.out)
          have nY := Lib.hid (HY.out.below HV.out)
          have nW := Lib.hid (HW.out.below HV.out)
          have nB := Lib.hid (bthen HB.out HV.out)
          clear h1 h2 h3 h3b h4 h5 h6 hcP htk hre hti hmy hnu hpl hsk hwe hbd hWO hFY hIN
          have tokS : True := trivial
          have tok2 : True := trivial
          have tok3 : True := trivial
          go_wp2_with (first | (have _t := tokS; refine wpl_store_newR rfl 47 (.tmp 24) (.tmp 184) rfl #[.int .i64 (xp : Int), .int .i64 xt, .bool xb] _ _ rfl ?_ rfl Tryz.sizeHav rfl (by simp [Value.oneCell']) ?_; (focus (simp; done)); simp only [Act.put]; clear tokS) | (have _t := tok3; refine wpl_mid rfl 29 _ rfl w.heap.size 0 rfl 34 #[.int .i64 M.places, .int .i64 M.any.a0, .int .i64 M.any.a1, .int .i64 M.any.a2, .int .i64 M.any.a3, .int .i64 M.any.a4, .int .i64 M.any.a5, .bool M.any.i, .bool M.any.s, .int .i64 M.mw, .int .i64 M.ms, .int .i64 M.mc, vF, vS, .int .i64 lw, .int .i64 ls, .int .i64 lc, .bool li, .bool lb, .slice A n c] #[.int .i64 M.places, .int .i64 M.any.a0, .int .i64 M.any.a1, .int .i64 M.any.a2, .int .i64 M.any.a3, .int .i64 M.any.a4, .int .i64 M.any.a5, .bool M.any.i, .bool M.any.s, .int .i64 M.mw, .int .i64 M.ms, .int .i64 M.mc, vF, vS] 14 (nX.out.alloc _) Tryz.rowMet [] [.int .i64 lw, .int .i64 ls, .int .i64 lc, .bool li, .bool lb, .slice A n c] rfl rfl rfl ?_; simp only [Act.put]; clear tok3; generalize hWX : World.alloc wr _ = wa; have qX := nX.out.alloc (.cells #[.int .i64 (xp : Int), .int .i64 xt, .bool xb] 47); have qY := nY.out.alloc (.cells #[.int .i64 (xp : Int), .int .i64 xt, .bool xb] 47); have qW := nW.out.alloc (.cells #[.int .i64 (xp : Int), .int .i64 xt, .bool xb] 47); have qB := bal nB.out (.cells #[.int .i64 (xp : Int), .int .i64 xt, .bool xb] 47); have qH := Blk.new wr 47 #[.int .i64 (xp : Int), .int .i64 xt, .bool xb]; have qV := bal HV.out (.cells #[.int .i64 (xp : Int), .int .i64 xt, .bool xb] 47); rw [hWX] at qX qY qW qB qH qV; clear hWX nX nY nW nB p0 p1 p2; have nX := Lib.hid qX; have nY := Lib.hid qY; have nW := Lib.hid qW; have nB := Lib.hid qB; have HK := Lib.hid qH; have nV := Lib.hid qV; clear qX qY qW qB qH qV; have x19 := nX.out.cell 19; have x0 := nX.out.cell 0; have y1 := nY.out.cell 1; have k0 := HK.out.cell 0; simp only [List.getElem?_toArray, List.getElem?_cons_succ, List.getElem?_cons_zero] at x19 x0 y1 k0) | (have _t := tok2; refine wpl_row rfl 37 (.tmp 4) rfl _ rfl #[.slice AR F.m cR, .int .i64 F.dep, .int .i64 F.fuel, .int .i64 F.burn, .int .i64 F.res] 5 nY.out Tryz.rowFli rfl ?_; simp only [Act.put]; clear tok2))
          refine (HRE2.out _ (HL.out.below nB.out) (HR.out.below nB.out)).mono ?_
          rintro e wb ⟨rfl, hbX⟩
          clear x19 x0 y1 k0 hwi hwp hmx HRE2
          have qX := Lib.hid (nX.out.below hbX)
          have qY := Lib.hid (nY.out.below hbX)
          have qW := Lib.hid (nW.out.below hbX)
          have qK := Lib.hid (HK.out.below hbX)
          have qB := Lib.hid (bthen nB.out hbX)
          have qV := Lib.hid (bthen nV.out hbX)
          clear nX nY nW HK nB nV hbX
          have y1 := qY.out.cell 1
          have y2 := qY.out.cell 2
          have y3 := qY.out.cell 3
          have y4 := qY.out.cell 4
          have k0 := qK.out.cell 0
          have k1 := qK.out.cell 1
          have k2 := qK.out.cell 2
          simp only [List.getElem?_toArray, List.getElem?_cons_succ, List.getElem?_cons_zero] at y1 y2 y3 y4 k0 k1 k2
          have xtt : (xt != xt) = false := by simp
          have xbb : (xb != xb) = false := by simp
          have tok3 : True := trivial
          go_wp2_with (first | (have _t := tok3; refine wpl_mid rfl 29 _ rfl w.heap.size 0 rfl 34 #[.int .i64 M.places, .int .i64 M.any.a0, .int .i64 M.any.a1, .int .i64 M.any.a2, .int .i64 M.any.a3, .int .i64 M.any.a4, .int .i64 M.any.a5, .bool M.any.i, .bool M.any.s, .int .i64 M.mw, .int .i64 M.ms, .int .i64 M.mc, vF, vS, .int .i64 lw, .int .i64 ls, .int .i64 lc, .bool li, .bool lb, .slice A n c] #[.int .i64 M.places, .int .i64 M.any.a0, .int .i64 M.any.a1, .int .i64 M.any.a2, .int .i64 M.any.a3, .int .i64 M.any.a4, .int .i64 M.any.a5, .bool M.any.i, .bool M.any.s, .int .i64 M.mw, .int .i64 M.ms, .int .i64 M.mc, vF, vS] 14 qX.out Tryz.rowMet [] [.int .i64 lw, .int .i64 ls, .int .i64 lc, .bool li, .bool lb, .slice A n c] rfl rfl rfl ?_; simp only [Act.put]; clear tok3))
          refine (HMY.out _ (HM.out.below qB.out)).mono ?_
          rintro e wc ⟨rfl, hbX⟩
          clear y1 y2 y3 y4 k0 k1 k2 hw1 hw2 hw3 hnl HMY
          have nX := Lib.hid ((qX.out.below hbX).alloc (.cells #[.int .i64 s0, .int .i64 s1, .int .i64 s2, .int .i64 s3, .int .i64 s4, .int .i64 s5, .bool si, .bool ss] 25))
          have nW := Lib.hid ((qW.out.below hbX).alloc (.cells #[.int .i64 s0, .int .i64 s1, .int .i64 s2, .int .i64 s3, .int .i64 s4, .int .i64 s5, .bool si, .bool ss] 25))
          have nV := Lib.hid (bal (bthen qV.out hbX) (.cells #[.int .i64 s0, .int .i64 s1, .int .i64 s2, .int .i64 s3, .int .i64 s4, .int .i64 s5, .bool si, .bool ss] 25))
          have nS := Lib.hid (Blk.new wc 25 #[.int .i64 s0, .int .i64 s1, .int .i64 s2, .int .i64 s3, .int .i64 s4, .int .i64 s5, .bool si, .bool ss])
          clear qX qY qW qK qB qV hbX
          have tokS : True := trivial
          have tok5 : True := trivial
          cases hw
          case false =>
            clear hfw hFZ
            go_wp2_with (first | (have _t := tokS; refine wpl_store_newR rfl 25 (.tmp 27) (.tmp 240) rfl #[.int .i64 s0, .int .i64 s1, .int .i64 s2, .int .i64 s3, .int .i64 s4, .int .i64 s5, .bool si, .bool ss] _ _ rfl ?_ rfl Tryz.sizeSky9 rfl (by simp [Value.oneCell']) ?_; (focus (simp; done)); simp only [Act.put]; clear tokS))
            generalize World.alloc wc _ = wd at *
            have hX2 := Lib.hid (fun r : After wd => nX.out.below r.below)
            have hW2 := Lib.hid (fun r : After wd => nW.out.below r.below)
            have hS2 := Lib.hid (fun r : After wd => nS.out.below r.below)
            refine wp_region_after (by kernel_rfl) (by kernel_rfl) ?_
            iterate 3 (go_big_quiet_step (fail))
            (refine wpq_row_gg rfl 25 _ rfl _ rfl #[.int .i64 s0, .int .i64 s1, .int .i64 s2, .int .i64 s3, .int .i64 s4, .int .i64 s5, .bool si, .bool ss] 8 (fun _ hw => by obtain ⟨r, rfl⟩ := hw; exact hS2.out r) Tryz.rowSky rfl ?_; simp only [Act.put, List.setIfInBounds_toArray, List.set_cons_succ, List.set_cons_zero])
            go_big_quiet_step (first | (go_at_call 57; (refine qafter (HWO.out _))))
            go_big_quiet_step (fail)
            (refine wpq_mid_gg rfl 31 _ rfl w.heap.size 14 rfl 34 #[.int .i64 M.places, .int .i64 M.any.a0, .int .i64 M.any.a1, .int .i64 M.any.a2, .int .i64 M.any.a3, .int .i64 M.any.a4, .int .i64 M.any.a5, .bool M.any.i, .bool M.any.s, .int .i64 M.mw, .int .i64 M.ms, .int .i64 M.mc, vF, vS, .int .i64 lw, .int .i64 ls, .int .i64 lc, .bool li, .bool lb, .slice A n c] #[.int .i64 lw, .int .i64 ls, .int .i64 lc, .bool li, .bool lb] 5 (fun _ hw => by obtain ⟨r, rfl⟩ := hw; exact hX2.out r) Tryz.rowMin [.int .i64 M.places, .int .i64 M.any.a0, .int .i64 M.any.a1, .int .i64 M.any.a2, .int .i64 M.any.a3, .int .i64 M.any.a4, .int .i64 M.any.a5, .bool M.any.i, .bool M.any.s, .int .i64 M.mw, .int .i64 M.ms, .int .i64 M.mc, vF, vS] [.slice A n c] rfl rfl rfl ?_; simp only [Act.put, List.setIfInBounds_toArray, List.set_cons_succ, List.set_cons_zero])
            go_big_quiet_step (first | (go_at_call 24; (refine qafter (HFY.out _))))
            iterate 3 (go_big_quiet_step (fail))
            (refine wpq_row_gg rfl 57 _ rfl _ rfl #[.int .i64 z0, .int .i64 z1, .int .i64 z2, .bool z3, .bool z4] 5 (fun _ hw => by obtain ⟨r, rfl⟩ := hw; exact hW2.out r) Tryz.rowWe rfl ?_; simp only [Act.put, List.setIfInBounds_toArray, List.set_cons_succ, List.set_cons_zero])
            (refine wpq_row_gg rfl 25 _ rfl _ rfl #[.int .i64 s0, .int .i64 s1, .int .i64 s2, .int .i64 s3, .int .i64 s4, .int .i64 s5, .bool si, .bool ss] 8 (fun _ hw => by obtain ⟨r, rfl⟩ := hw; exact hS2.out r) Tryz.rowSky rfl ?_; simp only [Act.put, List.setIfInBounds_toArray, List.set_cons_succ, List.set_cons_zero])
            go_big_quiet_step (first | (go_at_call 58; (refine qafter (HIN.out _))))
            go_big_quiet_step (fail)
            iterate 7 (go_big_quiet_step (fail))
            refine wpQuiet_nil ?_
            rintro we ⟨r3, hr3⟩
            have hbE : RowKit.Below wd.heap.size wd we := by rw [hr3]; exact r3.below
            clear hr3 r3 hX2 hW2 hS2
            have qV := Lib.hid (bthen nV.out hbE)
            clear nX nW nS nV hbE
            go_wp2_with (fail)
            go_roundg (L.length - (i + 1))
            case measure => omega
            case rel => exact ⟨i + 1, by first | rfl | go_num | (congr 1; omega), by omega, Nat.le_refl _, qV⟩
          have hfz := hfw rfl
          rw [hfz] at hFZ
          have HFZ := Lib.hid hFZ
          clear hfw hfz hFZ
          go_wp2_with (first | (have _t := tokS; refine wpl_store_newR rfl 25 (.tmp 27) (.tmp 240) rfl #[.int .i64 s0, .int .i64 s1, .int .i64 s2, .int .i64 s3, .int .i64 s4, .int .i64 s5, .bool si, .bool ss] _ _ rfl ?_ rfl Tryz.sizeSky9 rfl (by simp [Value.oneCell']) ?_; (focus (simp; done)); simp only [Act.put]; clear tokS))
          generalize World.alloc wc _ = wd at *
          have hX2 := Lib.hid (fun r : After wd => nX.out.below r.below)
          have hW2 := Lib.hid (fun r : After wd => nW.out.below r.below)
          have hS2 := Lib.hid (fun r : After wd => nS.out.below r.below)
          refine wp_region_after (by kernel_rfl) (by kernel_rfl) ?_
          iterate 3 (go_big_quiet_step (fail))
          (refine wpq_row_gg rfl 25 _ rfl _ rfl #[.int .i64 s0, .int .i64 s1, .int .i64 s2, .int .i64 s3, .int .i64 s4, .int .i64 s5, .bool si, .bool ss] 8 (fun _ hw => by obtain ⟨r, rfl⟩ := hw; exact hS2.out r) Tryz.rowSky rfl ?_; simp only [Act.put, List.setIfInBounds_toArray, List.set_cons_succ, List.set_cons_zero])
          go_big_quiet_step (first | (go_at_call 57; (refine qafter (HWO.out _))))
          go_big_quiet_step (fail)
          (refine wpq_mid_gg rfl 31 _ rfl w.heap.size 14 rfl 34 #[.int .i64 M.places, .int .i64 M.any.a0, .int .i64 M.any.a1, .int .i64 M.any.a2, .int .i64 M.any.a3, .int .i64 M.any.a4, .int .i64 M.any.a5, .bool M.any.i, .bool M.any.s, .int .i64 M.mw, .int .i64 M.ms, .int .i64 M.mc, vF, vS, .int .i64 lw, .int .i64 ls, .int .i64 lc, .bool li, .bool lb, .slice A n c] #[.int .i64 lw, .int .i64 ls, .int .i64 lc, .bool li, .bool lb] 5 (fun _ hw => by obtain ⟨r, rfl⟩ := hw; exact hX2.out r) Tryz.rowMin [.int .i64 M.places, .int .i64 M.any.a0, .int .i64 M.any.a1, .int .i64 M.any.a2, .int .i64 M.any.a3, .int .i64 M.any.a4, .int .i64 M.any.a5, .bool M.any.i, .bool M.any.s, .int .i64 M.mw, .int .i64 M.ms, .int .i64 M.mc, vF, vS] [.slice A n c] rfl rfl rfl ?_; simp only [Act.put, List.setIfInBounds_toArray, List.set_cons_succ, List.set_cons_zero])
          go_big_quiet_step (first | (go_at_call 24; (refine qafter (HFY.out _))))
          iterate 3 (go_big_quiet_step (fail))
          (refine wpq_row_gg rfl 57 _ rfl _ rfl #[.int .i64 z0, .int .i64 z1, .int .i64 z2, .bool z3, .bool z4] 5 (fun _ hw => by obtain ⟨r, rfl⟩ := hw; exact hW2.out r) Tryz.rowWe rfl ?_; simp only [Act.put, List.setIfInBounds_toArray, List.set_cons_succ, List.set_cons_zero])
          (refine wpq_row_gg rfl 25 _ rfl _ rfl #[.int .i64 s0, .int .i64 s1, .int .i64 s2, .int .i64 s3, .int .i64 s4, .int .i64 s5, .bool si, .bool ss] 8 (fun _ hw => by obtain ⟨r, rfl⟩ := hw; exact hS2.out r) Tryz.rowSky rfl ?_; simp only [Act.put, List.setIfInBounds_toArray, List.set_cons_succ, List.set_cons_zero])
          go_big_quiet_step (first | (go_at_call 58; (refine qafter (HIN.out _))))
          go_big_quiet_step (fail)
          (refine wpq_row_gg rfl 57 _ rfl _ rfl #[.int .i64 z0, .int .i64 z1, .int .i64 z2, .bool z3, .bool z4] 5 (fun _ hw => by obtain ⟨r, rfl⟩ := hw; exact hW2.out r) Tryz.rowWe rfl ?_; simp only [Act.put, List.setIfInBounds_toArray, List.set_cons_succ, List.set_cons_zero])
          go_big_quiet_step (fail)
          (refine wpq_mid_gg rfl 31 _ rfl w.heap.size 14 rfl 34 #[.int .i64 M.places, .int .i64 M.any.a0, .int .i64 M.any.a1, .int .i64 M.any.a2, .int .i64 M.any.a3, .int .i64 M.any.a4, .int .i64 M.any.a5, .bool M.any.i, .bool M.any.s, .int .i64 M.mw, .int .i64 M.ms, .int .i64 M.mc, vF, vS, .int .i64 lw, .int .i64 ls, .int .i64 lc, .bool li, .bool lb, .slice A n c] #[.int .i64 lw, .int .i64 ls, .int .i64 lc, .bool li, .bool lb] 5 (fun _ hw => by obtain ⟨r, rfl⟩ := hw; exact hX2.out r) Tryz.rowMin [.int .i64 M.places, .int .i64 M.any.a0, .int .i64 M.any.a1, .int .i64 M.any.a2, .int .i64 M.any.a3, .int .i64 M.any.a4, .int .i64 M.any.a5, .bool M.any.i, .bool M.any.s, .int .i64 M.mw, .int .i64 M.ms, .int .i64 M.mc, vF, vS] [.slice A n c] rfl rfl rfl ?_; simp only [Act.put, List.setIfInBounds_toArray, List.set_cons_succ, List.set_cons_zero])
          go_big_quiet_step (first | (go_at_call 24; (refine qafter (HFZ.out _))))
          iterate 3 (go_big_quiet_step (fail))
          refine wpQuiet_nil ?_
          rintro we ⟨r3, hr3⟩
          have hbE : RowKit.Below wd.heap.size wd we := by rw [hr3]; exact r3.below
          clear hr3 r3 hX2 hW2 hS2
          have qV := Lib.hid (bthen nV.out hbE)
          clear nX nW nS nV hbE
          go_wp2_with (fail)
          go_roundg (L.length - (i + 1))
          case measure => omega
          case rel => exact ⟨i + 1, by first | rfl | go_num | (congr 1; omega), by omega, Nat.le_refl _, qV⟩
        obtain rfl : L.length = i := by omega
        have hnlt : ¬ (L.length : Int) < (L.length : Int) := by omega
        have hV := HV.out
        clear HV
        have nHX := Lib.hid (HX.out.below hV)
        have nHY := Lib.hid (HY.out.below hV)
        have nHB := Lib.hid (bthen HB.out hV)
        clear HX HY HB hV
        have HX := nHX
        have HY := nHY
        have HB := nHB
        clear nHX nHY nHB
        go_wp2_with (first | (go_at_call 26; (with_reducible refine (rworks_c _).mono ?_); rintro e w1 ⟨rfl, hb1⟩; have nHX := Lib.hid (HX.out.below hb1); have nHY := Lib.hid (HY.out.below hb1); have nHB := Lib.hid (bthen HB.out hb1); have zz1 := hb1.size; clear HX HY HB hb1; have HX := nHX; have HY := nHY; have HB := nHB; clear nHX nHY nHB))
        go_ret
        exact ⟨rfl, HB.out⟩
end Go.Proofs.YtbgkbdhdkpjcdaaGreat
