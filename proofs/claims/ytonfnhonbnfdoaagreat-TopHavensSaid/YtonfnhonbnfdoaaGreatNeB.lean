/- The law TopHavens: at the best haven of a tick the weather that may be is flyable when the flight comes there. -/
import Derived.Test.YtonfnhonbnfdoaaGreatNeA
import Derived.Test.YtonfnhonbnfdoaaGreatNeC
import Derived.Test.YtonfnhonbnfdoaaGreatNbE
import Derived.Test.YtonfnhonbnfdoaaGreatJAU
import Derived.Test.YtonfnhonbnfdoaaGreatJAC
import Derived.Test.YtonfnhonbnfdoaaGreatJAY
set_option linter.all false
namespace Go.Proofs.YtonfnhonbnfdoaaGreat
open Go Go.RowKit Go.Proofs
set_option maxRecDepth 100000
set_option maxHeartbeats 8000000
def OwnT (M : MetD) (v : Value) (w : World) : Prop := ∃ vF vS, v = .agg #[.int .i64 M.places, .int .i64 M.any.a0, .int .i64 M.any.a1, .int .i64 M.any.a2, .int .i64 M.any.a3, .int .i64 M.any.a4, .int .i64 M.any.a5, .bool M.any.i, .bool M.any.s, .int .i64 M.mw, .int .i64 M.ms, .int .i64 M.mc, vF, vS] ∧ MetAt w vF vS M
theorem OwnT.below {M : MetD} {v : Value} {w w' : World} (h : OwnT M v w) (hb : RowKit.Below w.heap.size w w') : OwnT M v w' := by
  obtain ⟨vF, vS, e, h⟩ := h
  exact ⟨vF, vS, e, h.below hb⟩
theorem wCopyT_c (M : MetD) (vF vS : Value) (w : World) (hA : MetAt w vF vS M) (hn : M.far = false) :
   Calls Tryz.prog 13 #[.agg #[.int .i64 M.places, .int .i64 M.any.a0, .int .i64 M.any.a1, .int .i64 M.any.a2, .int .i64 M.any.a3, .int .i64 M.any.a4, .int .i64 M.any.a5, .bool M.any.i, .bool M.any.s, .int .i64 M.mw, .int .i64 M.ms, .int .i64 M.mc, vF, vS]] w fun e w' => ∃ v, e = .returned v ∧ OwnT M v w' ∧ RowKit.Below w.heap.size w w' := by
  refine (wCopy_c M vF vS w hA hn).mono ?_
  rintro e w' ⟨vF', vS', rfl, hb, h, -⟩
  exact ⟨_, rfl, ⟨vF', vS', rfl, h⟩, hb⟩
/-- A slice of one. -/
def OneS (v : Value) : Prop := ∃ (A : Option Addr) (c : Nat), v = .slice A 1 c
theorem wWinT_c (M : MetD) (vF vS : Value) (lw ls lc : Int) (li lb : Bool) (p f : Int) (w : World) (hA : MetAt w vF vS M) (ho : openV M lw ls lc li lb p f = true) (hf : f < 2000) :
   Calls Tryz.prog 14 #[.agg #[.int .i64 M.places, .int .i64 M.any.a0, .int .i64 M.any.a1, .int .i64 M.any.a2, .int .i64 M.any.a3, .int .i64 M.any.a4, .int .i64 M.any.a5, .bool M.any.i, .bool M.any.s, .int .i64 M.mw, .int .i64 M.ms, .int .i64 M.mc, vF, vS], .agg #[.int .i64 lw, .int .i64 ls, .int .i64 lc, .bool li, .bool lb], .int .i64 p, .int .i64 f, .int .i64 (f + 1)] w fun e w' => (∃ v, e = .returned (.tuple #[v, .int .i64 0]) ∧ OneS v) ∧ RowKit.Below w.heap.size w w' := by
  have hw := wWindows_c M vF vS lw ls lc li lb p f (f + 1) w hA
  rw [cwE_one ho hf] at hw
  refine hw.mono ?_
  rintro e w' ⟨v, rfl, hb, -, h⟩
  have h1 := h rfl
  rw [win_one (g := fun t => openB (M.may p t) lw ls lc li lb) (openV_ok ho).2.2.2.2.2] at h1
  refine ⟨⟨v, rfl, ?_⟩, hb⟩
  rcases h1.2 with ⟨-, h2⟩ | ⟨g, cap, cur, rfl, -⟩
  · cases h2
  · exact ⟨_, _, rfl⟩
theorem Tryz.lgUT : Tryz.prog.underlying 32 = some (.slice 64) := by kernel_rfl
theorem Tryz.lgIT : (Tryz.prog.info? 64).map (fun i => (i.zero.map (·.cells.size), i.size, decide (i.bytes ≤ 200))) = some (some 3, 3, true) := by kernel_rfl
theorem Tryz.rowWeT : RowTy Tryz.prog 57 5 := ⟨by kernel_rfl, by kernel_rfl⟩
theorem nV_one (S : Tab) (i j : Nat) : (nV S i j).oneCell' = true := rfl
def th4R (w0 : Nat) (g : Nat) (M : MetD) (mt mi nt fl hv : Value) (tk E : Int) : Nat → Value → World → Prop
  | 0, v, _ => v = .pointer (some ⟨g, 0, none⟩)
  | 1, v, _ => v = mt
  | 2, v, w => OwnT M v w
  | 3, v, _ => v = .pointer (some ⟨g, 14, none⟩)
  | 4, v, _ => v = mi
  | 5, v, _ => v = nt
  | 6, v, _ => v = fl
  | 7, v, _ => v = .pointer (some ⟨g + 1 + 1, 0, none⟩)
  | 8, v, _ => v = .int .i64 tk
  | 9, v, _ => v = .tuple #[hv, .int .i64 E]
  | 10, v, _ => v = .tuple #[hv, .int .i64 E]
  | 11, v, _ => v = hv
  | 12, v, _ => v = .int .i64 E
  | 13, v, w => NewBlk w0 47 #[.int .i64 0, .int .i64 0, .bool false] v w
  | _, _, _ => True
theorem th4R_below {w0 : Nat} {g : Nat} {M : MetD} {mt mi nt fl hv : Value} {tk E : Int} (k : Nat) (v : Value) (w w' : World) (hb : Below w.heap.size w w') (h : th4R w0 g M mt mi nt fl hv tk E k v w) : th4R w0 g M mt mi nt fl hv tk E k v w' := by
  unfold th4R at *
  split at h <;> first | exact h | exact OwnT.below h hb | exact NewBlk.below hb h
def th10R (w0 : Nat) (g gH : Nat) (M : MetD) (mt mi : Value) (p f : Int) : Nat → Value → World → Prop
  | 0, v, _ => v = .pointer (some ⟨g, 0, none⟩)
  | 1, v, _ => v = mt
  | 2, v, w => OwnT M v w
  | 3, v, _ => v = .pointer (some ⟨g, 14, none⟩)
  | 4, v, _ => v = mi
  | 5, v, _ => v = .pointer (some ⟨gH, 0, none⟩)
  | 6, v, _ => v = .int .i64 p
  | 7, v, _ => v = .pointer (some ⟨gH, 1, none⟩)
  | 8, v, _ => v = .int .i64 f
  | 9, v, _ => v = .pointer (some ⟨gH, 1, none⟩)
  | 10, v, _ => v = .int .i64 f
  | 11, v, _ => v = .int .i64 (f + 1)
  | 12, v, w => (∃ v1, v = .tuple #[v1, .int .i64 0] ∧ OneS v1)
  | 13, v, w => (∃ v1, v = .tuple #[v1, .int .i64 0] ∧ OneS v1)
  | 14, v, w => OneS v
  | 15, v, _ => v = .int .i64 0
  | _, _, _ => True
theorem th10R_below {w0 : Nat} {g gH : Nat} {M : MetD} {mt mi : Value} {p f : Int} (k : Nat) (v : Value) (w w' : World) (hb : Below w.heap.size w w') (h : th10R w0 g gH M mt mi p f k v w) : th10R w0 g gH M mt mi p f k v w' := by
  unfold th10R at *
  split at h <;> first | exact h | exact OwnT.below h hb | exact h
def th14R (w0 : Nat) (g gH : Nat) (M : MetD) (mt l : Value) (p f : Int) (n : Nat) (G : Nat → Nat → Int) (H : Nat → Nat → Bool) (R1 : Int) (R2 : Bool) (E : Int) : Nat → Value → World → Prop
  | 0, v, _ => v = .pointer (some ⟨g, 0, none⟩)
  | 1, v, _ => v = mt
  | 2, v, w => OwnT M v w
  | 3, v, _ => v = .pointer (some ⟨gH, 0, none⟩)
  | 4, v, _ => v = .int .i64 p
  | 5, v, _ => v = .int .i64 f
  | 6, v, w => EmptyW v w
  | 7, v, _ => v = .pointer (some ⟨g + 1 + 1, 1, none⟩)
  | 8, v, _ => v = l
  | 9, v, w => WesV n G H v w
  | 10, v, _ => v = .tuple #[.int .i64 R1, .bool R2, .int .i64 E]
  | 11, v, _ => v = .tuple #[.int .i64 R1, .bool R2, .int .i64 E]
  | 12, v, _ => v = .int .i64 R1
  | 13, v, _ => v = .bool R2
  | 14, v, _ => v = .int .i64 E
  | _, _, _ => True
theorem th14R_below {w0 : Nat} {g gH : Nat} {M : MetD} {mt l : Value} {p f : Int} {n : Nat} {G : Nat → Nat → Int} {H : Nat → Nat → Bool} {R1 : Int} {R2 : Bool} {E : Int} (k : Nat) (v : Value) (w w' : World) (hb : Below w.heap.size w w') (h : th14R w0 g gH M mt l p f n G H R1 R2 E k v w) : th14R w0 g gH M mt l p f n G H R1 R2 E k v w' := by
  unfold th14R at *
  split at h <;> first | exact h | exact OwnT.below h hb | exact EmptyW.below h hb | exact WesV.below h hb
def th17R (w0 : Nat) (g gH : Nat) (l we mi : Value) (p : Value) (t f d : Int) (b : Bool) : Nat → Value → World → Prop
  | 0, v, _ => v = .pointer (some ⟨g + 1 + 1, 1, none⟩)
  | 1, v, _ => v = l
  | 2, v, _ => v = .pointer (some ⟨gH, 1, none⟩)
  | 3, v, _ => v = .int .i64 t
  | 4, v, _ => v = .int .i64 f
  | 5, v, _ => v = .int .i64 d
  | 6, v, _ => v = p
  | 7, v, _ => v = we
  | 8, v, _ => v = .pointer (some ⟨g, 14, none⟩)
  | 9, v, _ => v = mi
  | 10, v, _ => v = .bool b
  | _, _, _ => True
theorem th17R_below {w0 : Nat} {g gH : Nat} {l we mi : Value} {p : Value} {t f d : Int} {b : Bool} (k : Nat) (v : Value) (w w' : World) (hb : Below w.heap.size w w') (h : th17R w0 g gH l we mi p t f d b k v w) : th17R w0 g gH l we mi p t f d b k v w' := by
  unfold th17R at *
  split at h <;> first | exact h
/- KEEP Real_c rw_Flyable_c wpl_cpw weU weI weV_one EmptyW WesV real_fly realE realV realR wCopy_c Blk.new Blk.newA duo_r wpl_row_g wpl_mid_g -/
theorem TopHavens_c (M : MetD) (vF vS : Value) (lw ls lc : Int) (li lb : Bool) (A : Option Addr) (n c : Nat) (S : Tab) (F : FliD) (vR : Value) (tk : Int) (AW : Option Addr) (nW cW : Nat) (G : Nat → Nat → Int) (H : Nat → Nat → Bool) (w : World) (hM : MetAt w vF vS M) (hc1 : n ≤ c) (hc2 : c ≤ 9223372036854775807) (hL : RecsAt w A n 3 (nV S)) (hR : SlI w vR F.m F.R) (hw1 : nW ≤ cW) (hw2 : cW ≤ 9223372036854775807) (hW : RecsAt w AW nW 5 (weV G H)) :
   Calls Tryz.prog 3 #[.agg #[.int .i64 M.places, .int .i64 M.any.a0, .int .i64 M.any.a1, .int .i64 M.any.a2, .int .i64 M.any.a3, .int .i64 M.any.a4, .int .i64 M.any.a5, .bool M.any.i, .bool M.any.s, .int .i64 M.mw, .int .i64 M.ms, .int .i64 M.mc, vF, vS, .int .i64 lw, .int .i64 ls, .int .i64 lc, .bool li, .bool lb, .slice A n c], .agg #[vR, .int .i64 F.dep, .int .i64 F.fuel, .int .i64 F.burn, .int .i64 F.res], .agg #[.int .i64 tk, .slice AW nW cW]] w fun e w' => e = .returned (.bool true) ∧ RowKit.Below w.heap.size w w' := by
  have HM := Lib.hid hM
  have HL := Lib.hid hL
  have HR := Lib.hid hR
  have HWS := Lib.hid hW
  obtain ⟨AR, cR, rfl, -, -, -⟩ := hR
  have HCM := Lib.hid (fun w1 h => rw_CheckMinima_c M vF vS lw ls lc li lb w1 h)
  have HCK := Lib.hid (fun w1 h1 h2 h3 => r5Check_c M vF vS A n c S F (.slice AR F.m cR) w1 h1 hc1 hc2 h2 h3)
  have HPF := Lib.hid (fun w1 h => planFar_c M vF vS lw ls lc li lb A n c F AR cR w1 h)
  have hmin := @nfM_min M lw ls lc S n F
  clear hM hL hW
  obtain ⟨ME, hME⟩ : ∃ ME, ME = minE M lw ls lc := ⟨_, rfl⟩
  obtain ⟨KE, hKE⟩ : ∃ KE, KE = nfE (netE M S n) M S n F := ⟨_, rfl⟩
  rw [← hME, ← hKE] at hmin
  rw [← hME] at HCM
  rw [← hKE] at HCK
  have HMIN := Lib.hid hmin
  clear hmin hME hKE
  have z2z : nW ≤ 9223372036854775807 := by omega
  cases hp : pfar M n F.m
  case true =>
    rw [hp] at HPF
    clear hp
    have tok0 : True := trivial
    have tok1 : True := trivial
    have tok2 : True := trivial
    have tok3 : True := trivial
    have tok4 : True := trivial
    have tok5 : True := trivial
    have tok6 : True := trivial
    go_enter Tryz.func3, Tryz.ntmps3
    go_wp2_with (first | (have _t := tok0; generalize hWX : World.alloc (World.alloc (World.alloc w _) _) _ = W; clear tok0; have _x := tri_r w #[.int .i64 M.places, .int .i64 M.any.a0, .int .i64 M.any.a1, .int .i64 M.any.a2, .int .i64 M.any.a3, .int .i64 M.any.a4, .int .i64 M.any.a5, .bool M.any.i, .bool M.any.s, .int .i64 M.mw, .int .i64 M.ms, .int .i64 M.mc, vF, vS, .int .i64 lw, .int .i64 ls, .int .i64 lc, .bool li, .bool lb, .slice A n c] #[.slice AR F.m cR, .int .i64 F.dep, .int .i64 F.fuel, .int .i64 F.burn, .int .i64 F.res] #[.int .i64 tk, .slice AW nW cW] 34 37 40; rw [hWX] at _x; clear hWX; have HX := Lib.hid _x.1; have HY := Lib.hid _x.2.1; have HZ := Lib.hid _x.2.2.1; have HB := Lib.hid _x.2.2.2; clear _x; have x19 := HX.out.cell 19; have z1 := HZ.out.cell 1; simp only [List.getElem?_toArray, List.getElem?_cons_succ, List.getElem?_cons_zero] at x19 z1) | (have _t := tok1; refine wpl_row rfl 34 (.tmp 3) rfl _ rfl #[.int .i64 M.places, .int .i64 M.any.a0, .int .i64 M.any.a1, .int .i64 M.any.a2, .int .i64 M.any.a3, .int .i64 M.any.a4, .int .i64 M.any.a5, .bool M.any.i, .bool M.any.s, .int .i64 M.mw, .int .i64 M.ms, .int .i64 M.mc, vF, vS, .int .i64 lw, .int .i64 ls, .int .i64 lc, .bool li, .bool lb, .slice A n c] 20 HX.out Tryz.rowPlan rfl ?_; simp only [Act.put]; clear tok1) | (have _t := tok2; refine wpl_row rfl 37 (.tmp 4) rfl _ rfl #[.slice AR F.m cR, .int .i64 F.dep, .int .i64 F.fuel, .int .i64 F.burn, .int .i64 F.res] 5 HY.out Tryz.rowFli rfl ?_; simp only [Act.put]; clear tok2) | (go_at_call 8; (with_reducible refine (HPF.out _ (HM.out.below HB.out)).mono ?_); rintro e w1 ⟨rfl, hb1⟩; have nHX := Lib.hid (HX.out.below hb1); have nHY := Lib.hid (HY.out.below hb1); have nHZ := Lib.hid (HZ.out.below hb1); have nHB := Lib.hid (bthen HB.out hb1); have zz1 := hb1.size; clear HX HY HZ HB hb1; have HX := nHX; have HY := nHY; have HZ := nHZ; have HB := nHB; clear nHX nHY nHZ nHB; (try clear zHX); have zHX := HX.out.lt; (try clear cHX19); have cHX19 := HX.out.cell 19; (try clear zHZ); have zHZ := HZ.out.lt; (try clear cHZ1); have cHZ1 := HZ.out.cell 1) | (go_at_call 11; refine (measures_c _).mono ?_; rintro _ w9 ⟨rfl, hb9⟩; have HB9 := Lib.hid (bthen HB.out hb9); clear hb9))
    go_ret
    exact ⟨rfl, HB9.out⟩
  rw [hp] at HPF
  have HPP := Lib.hid hp
  clear hp
  by_cases hn40 : (40 : Int) < (nW : Int)
  case pos =>
    have tok0 : True := trivial
    have tok1 : True := trivial
    have tok2 : True := trivial
    have tok3 : True := trivial
    have tok4 : True := trivial
    have tok5 : True := trivial
    have tok6 : True := trivial
    go_enter Tryz.func3, Tryz.ntmps3
    go_wp2_with (first | (have _t := tok0; generalize hWX : World.alloc (World.alloc (World.alloc w _) _) _ = W; clear tok0; have _x := tri_r w #[.int .i64 M.places, .int .i64 M.any.a0, .int .i64 M.any.a1, .int .i64 M.any.a2, .int .i64 M.any.a3, .int .i64 M.any.a4, .int .i64 M.any.a5, .bool M.any.i, .bool M.any.s, .int .i64 M.mw, .int .i64 M.ms, .int .i64 M.mc, vF, vS, .int .i64 lw, .int .i64 ls, .int .i64 lc, .bool li, .bool lb, .slice A n c] #[.slice AR F.m cR, .int .i64 F.dep, .int .i64 F.fuel, .int .i64 F.burn, .int .i64 F.res] #[.int .i64 tk, .slice AW nW cW] 34 37 40; rw [hWX] at _x; clear hWX; have HX := Lib.hid _x.1; have HY := Lib.hid _x.2.1; have HZ := Lib.hid _x.2.2.1; have HB := Lib.hid _x.2.2.2; clear _x; have x19 := HX.out.cell 19; have z1 := HZ.out.cell 1; simp only [List.getElem?_toArray, List.getElem?_cons_succ, List.getElem?_cons_zero] at x19 z1) | (have _t := tok1; refine wpl_row rfl 34 (.tmp 3) rfl _ rfl #[.int .i64 M.places, .int .i64 M.any.a0, .int .i64 M.any.a1, .int .i64 M.any.a2, .int .i64 M.any.a3, .int .i64 M.any.a4, .int .i64 M.any.a5, .bool M.any.i, .bool M.any.s, .int .i64 M.mw, .int .i64 M.ms, .int .i64 M.mc, vF, vS, .int .i64 lw, .int .i64 ls, .int .i64 lc, .bool li, .bool lb, .slice A n c] 20 HX.out Tryz.rowPlan rfl ?_; simp only [Act.put]; clear tok1) | (have _t := tok2; refine wpl_row rfl 37 (.tmp 4) rfl _ rfl #[.slice AR F.m cR, .int .i64 F.dep, .int .i64 F.fuel, .int .i64 F.burn, .int .i64 F.res] 5 HY.out Tryz.rowFli rfl ?_; simp only [Act.put]; clear tok2) | (go_at_call 8; (with_reducible refine (HPF.out _ (HM.out.below HB.out)).mono ?_); rintro e w1 ⟨rfl, hb1⟩; have nHX := Lib.hid (HX.out.below hb1); have nHY := Lib.hid (HY.out.below hb1); have nHZ := Lib.hid (HZ.out.below hb1); have nHB := Lib.hid (bthen HB.out hb1); have zz1 := hb1.size; clear HX HY HZ HB hb1; have HX := nHX; have HY := nHY; have HZ := nHZ; have HB := nHB; clear nHX nHY nHZ nHB; (try clear zHX); have zHX := HX.out.lt; (try clear cHX19); have cHX19 := HX.out.cell 19; (try clear zHZ); have zHZ := HZ.out.lt; (try clear cHZ1); have cHZ1 := HZ.out.cell 1) | (go_at_call 11; refine (measures_c _).mono ?_; rintro _ w9 ⟨rfl, hb9⟩; have HB9 := Lib.hid (bthen HB.out hb9); clear hb9))
    go_ret
    exact ⟨rfl, HB9.out⟩
  have hd40 : decide ((40 : Int) < (nW : Int)) = false := decide_eq_false hn40
  by_cases h0 : ME = 0
  case neg =>
    have hz : (ME != 0) = true := by simpa using h0
    clear h0
    have tok0 : True := trivial
    have tok1 : True := trivial
    have tok2 : True := trivial
    have tok3 : True := trivial
    have tok4 : True := trivial
    have tok5 : True := trivial
    have tok6 : True := trivial
    go_enter Tryz.func3, Tryz.ntmps3
    go_wp2_with (first | (have _t := tok0; generalize hWX : World.alloc (World.alloc (World.alloc w _) _) _ = W; clear tok0; have _x := tri_r w #[.int .i64 M.places, .int .i64 M.any.a0, .int .i64 M.any.a1, .int .i64 M.any.a2, .int .i64 M.any.a3, .int .i64 M.any.a4, .int .i64 M.any.a5, .bool M.any.i, .bool M.any.s, .int .i64 M.mw, .int .i64 M.ms, .int .i64 M.mc, vF, vS, .int .i64 lw, .int .i64 ls, .int .i64 lc, .bool li, .bool lb, .slice A n c] #[.slice AR F.m cR, .int .i64 F.dep, .int .i64 F.fuel, .int .i64 F.burn, .int .i64 F.res] #[.int .i64 tk, .slice AW nW cW] 34 37 40; rw [hWX] at _x; clear hWX; have HX := Lib.hid _x.1; have HY := Lib.hid _x.2.1; have HZ := Lib.hid _x.2.2.1; have HB := Lib.hid _x.2.2.2; clear _x; have x19 := HX.out.cell 19; have z1 := HZ.out.cell 1; simp only [List.getElem?_toArray, List.getElem?_cons_succ, List.getElem?_cons_zero] at x19 z1) | (have _t := tok1; refine wpl_row rfl 34 (.tmp 3) rfl _ rfl #[.int .i64 M.places, .int .i64 M.any.a0, .int .i64 M.any.a1, .int .i64 M.any.a2, .int .i64 M.any.a3, .int .i64 M.any.a4, .int .i64 M.any.a5, .bool M.any.i, .bool M.any.s, .int .i64 M.mw, .int .i64 M.ms, .int .i64 M.mc, vF, vS, .int .i64 lw, .int .i64 ls, .int .i64 lc, .bool li, .bool lb, .slice A n c] 20 HX.out Tryz.rowPlan rfl ?_; simp only [Act.put]; clear tok1) | (have _t := tok2; refine wpl_row rfl 37 (.tmp 4) rfl _ rfl #[.slice AR F.m cR, .int .i64 F.dep, .int .i64 F.fuel, .int .i64 F.burn, .int .i64 F.res] 5 HY.out Tryz.rowFli rfl ?_; simp only [Act.put]; clear tok2) | (go_at_call 8; (with_reducible refine (HPF.out _ (HM.out.below HB.out)).mono ?_); rintro e w1 ⟨rfl, hb1⟩; have nHX := Lib.hid (HX.out.below hb1); have nHY := Lib.hid (HY.out.below hb1); have nHZ := Lib.hid (HZ.out.below hb1); have nHB := Lib.hid (bthen HB.out hb1); have zz1 := hb1.size; clear HX HY HZ HB hb1; have HX := nHX; have HY := nHY; have HZ := nHZ; have HB := nHB; clear nHX nHY nHZ nHB; (try clear zHX); have zHX := HX.out.lt; (try clear cHX19); have cHX19 := HX.out.cell 19; (try clear zHZ); have zHZ := HZ.out.lt; (try clear cHZ1); have cHZ1 := HZ.out.cell 1) | (have _t := tok3; refine wpl_mid_g ?_ 29 _ rfl w.heap.size 0 rfl 34 #[.int .i64 M.places, .int .i64 M.any.a0, .int .i64 M.any.a1, .int .i64 M.any.a2, .int .i64 M.any.a3, .int .i64 M.any.a4, .int .i64 M.any.a5, .bool M.any.i, .bool M.any.s, .int .i64 M.mw, .int .i64 M.ms, .int .i64 M.mc, vF, vS, .int .i64 lw, .int .i64 ls, .int .i64 lc, .bool li, .bool lb, .slice A n c] #[.int .i64 M.places, .int .i64 M.any.a0, .int .i64 M.any.a1, .int .i64 M.any.a2, .int .i64 M.any.a3, .int .i64 M.any.a4, .int .i64 M.any.a5, .bool M.any.i, .bool M.any.s, .int .i64 M.mw, .int .i64 M.ms, .int .i64 M.mc, vF, vS] 14 HX.out Tryz.rowMet [] [.int .i64 lw, .int .i64 ls, .int .i64 lc, .bool li, .bool lb, .slice A n c] rfl rfl rfl ?_; (focus rfl); simp only [Act.put]; clear tok3) | (have _t := tok4; refine wpl_mid_g ?_ 31 _ rfl w.heap.size 14 rfl 34 #[.int .i64 M.places, .int .i64 M.any.a0, .int .i64 M.any.a1, .int .i64 M.any.a2, .int .i64 M.any.a3, .int .i64 M.any.a4, .int .i64 M.any.a5, .bool M.any.i, .bool M.any.s, .int .i64 M.mw, .int .i64 M.ms, .int .i64 M.mc, vF, vS, .int .i64 lw, .int .i64 ls, .int .i64 lc, .bool li, .bool lb, .slice A n c] #[.int .i64 lw, .int .i64 ls, .int .i64 lc, .bool li, .bool lb] 5 HX.out Tryz.rowMin [.int .i64 M.places, .int .i64 M.any.a0, .int .i64 M.any.a1, .int .i64 M.any.a2, .int .i64 M.any.a3, .int .i64 M.any.a4, .int .i64 M.any.a5, .bool M.any.i, .bool M.any.s, .int .i64 M.mw, .int .i64 M.ms, .int .i64 M.mc, vF, vS] [.slice A n c] rfl rfl rfl ?_; (focus rfl); simp only [Act.put]; clear tok4) | ((with_reducible refine (HCM.out _ (HM.out.below HB.out)).mono ?_); rintro e w1 ⟨rfl, hb1⟩; have nHX := Lib.hid (HX.out.below hb1); have nHY := Lib.hid (HY.out.below hb1); have nHZ := Lib.hid (HZ.out.below hb1); have nHB := Lib.hid (bthen HB.out hb1); have zz1 := hb1.size; clear HX HY HZ HB hb1; have HX := nHX; have HY := nHY; have HZ := nHZ; have HB := nHB; clear nHX nHY nHZ nHB; (try clear zHX); have zHX := HX.out.lt; (try clear cHX19); have cHX19 := HX.out.cell 19; (try clear zHZ); have zHZ := HZ.out.lt; (try clear cHZ1); have cHZ1 := HZ.out.cell 1) | (go_at_call 11; refine (measures_c _).mono ?_; rintro _ w9 ⟨rfl, hb9⟩; have HB9 := Lib.hid (bthen HB.out hb9); clear hb9))
    go_ret
    exact ⟨rfl, HB9.out⟩
  subst h0
  by_cases h1 : KE = 0
  case neg =>
    have hz : (KE != 0) = true := by simpa using h1
    clear h1
    have tok0 : True := trivial
    have tok1 : True := trivial
    have tok2 : True := trivial
    have tok3 : True := trivial
    have tok4 : True := trivial
    have tok5 : True := trivial
    have tok6 : True := trivial
    go_enter Tryz.func3, Tryz.ntmps3
    go_wp2_with (first | (have _t := tok0; generalize hWX : World.alloc (World.alloc (World.alloc w _) _) _ = W; clear tok0; have _x := tri_r w #[.int .i64 M.places, .int .i64 M.any.a0, .int .i64 M.any.a1, .int .i64 M.any.a2, .int .i64 M.any.a3, .int .i64 M.any.a4, .int .i64 M.any.a5, .bool M.any.i, .bool M.any.s, .int .i64 M.mw, .int .i64 M.ms, .int .i64 M.mc, vF, vS, .int .i64 lw, .int .i64 ls, .int .i64 lc, .bool li, .bool lb, .slice A n c] #[.slice AR F.m cR, .int .i64 F.dep, .int .i64 F.fuel, .int .i64 F.burn, .int .i64 F.res] #[.int .i64 tk, .slice AW nW cW] 34 37 40; rw [hWX] at _x; clear hWX; have HX := Lib.hid _x.1; have HY := Lib.hid _x.2.1; have HZ := Lib.hid _x.2.2.1; have HB := Lib.hid _x.2.2.2; clear _x; have x19 := HX.out.cell 19; have z1 := HZ.out.cell 1; simp only [List.getElem?_toArray, List.getElem?_cons_succ, List.getElem?_cons_zero] at x19 z1) | (have _t := tok1; refine wpl_row rfl 34 (.tmp 3) rfl _ rfl #[.int .i64 M.places, .int .i64 M.any.a0, .int .i64 M.any.a1, .int .i64 M.any.a2, .int .i64 M.any.a3, .int .i64 M.any.a4, .int .i64 M.any.a5, .bool M.any.i, .bool M.any.s, .int .i64 M.mw, .int .i64 M.ms, .int .i64 M.mc, vF, vS, .int .i64 lw, .int .i64 ls, .int .i64 lc, .bool li, .bool lb, .slice A n c] 20 HX.out Tryz.rowPlan rfl ?_; simp only [Act.put]; clear tok1) | (have _t := tok2; refine wpl_row rfl 37 (.tmp 4) rfl _ rfl #[.slice AR F.m cR, .int .i64 F.dep, .int .i64 F.fuel, .int .i64 F.burn, .int .i64 F.res] 5 HY.out Tryz.rowFli rfl ?_; simp only [Act.put]; clear tok2) | (go_at_call 8; (with_reducible refine (HPF.out _ (HM.out.below HB.out)).mono ?_); rintro e w1 ⟨rfl, hb1⟩; have nHX := Lib.hid (HX.out.below hb1); have nHY := Lib.hid (HY.out.below hb1); have nHZ := Lib.hid (HZ.out.below hb1); have nHB := Lib.hid (bthen HB.out hb1); have zz1 := hb1.size; clear HX HY HZ HB hb1; have HX := nHX; have HY := nHY; have HZ := nHZ; have HB := nHB; clear nHX nHY nHZ nHB; (try clear zHX); have zHX := HX.out.lt; (try clear cHX19); have cHX19 := HX.out.cell 19; (try clear zHZ); have zHZ := HZ.out.lt; (try clear cHZ1); have cHZ1 := HZ.out.cell 1) | (have _t := tok3; refine wpl_mid_g ?_ 29 _ rfl w.heap.size 0 rfl 34 #[.int .i64 M.places, .int .i64 M.any.a0, .int .i64 M.any.a1, .int .i64 M.any.a2, .int .i64 M.any.a3, .int .i64 M.any.a4, .int .i64 M.any.a5, .bool M.any.i, .bool M.any.s, .int .i64 M.mw, .int .i64 M.ms, .int .i64 M.mc, vF, vS, .int .i64 lw, .int .i64 ls, .int .i64 lc, .bool li, .bool lb, .slice A n c] #[.int .i64 M.places, .int .i64 M.any.a0, .int .i64 M.any.a1, .int .i64 M.any.a2, .int .i64 M.any.a3, .int .i64 M.any.a4, .int .i64 M.any.a5, .bool M.any.i, .bool M.any.s, .int .i64 M.mw, .int .i64 M.ms, .int .i64 M.mc, vF, vS] 14 HX.out Tryz.rowMet [] [.int .i64 lw, .int .i64 ls, .int .i64 lc, .bool li, .bool lb, .slice A n c] rfl rfl rfl ?_; (focus rfl); simp only [Act.put]; clear tok3) | (have _t := tok4; refine wpl_mid_g ?_ 31 _ rfl w.heap.size 14 rfl 34 #[.int .i64 M.places, .int .i64 M.any.a0, .int .i64 M.any.a1, .int .i64 M.any.a2, .int .i64 M.any.a3, .int .i64 M.any.a4, .int .i64 M.any.a5, .bool M.any.i, .bool M.any.s, .int .i64 M.mw, .int .i64 M.ms, .int .i64 M.mc, vF, vS, .int .i64 lw, .int .i64 ls, .int .i64 lc, .bool li, .bool lb, .slice A n c] #[.int .i64 lw, .int .i64 ls, .int .i64 lc, .bool li, .bool lb] 5 HX.out Tryz.rowMin [.int .i64 M.places, .int .i64 M.any.a0, .int .i64 M.any.a1, .int .i64 M.any.a2, .int .i64 M.any.a3, .int .i64 M.any.a4, .int .i64 M.any.a5, .bool M.any.i, .bool M.any.s, .int .i64 M.mw, .int .i64 M.ms, .int .i64 M.mc, vF, vS] [.slice A n c] rfl rfl rfl ?_; (focus rfl); simp only [Act.put]; clear tok4) | ((with_reducible refine (HCM.out _ (HM.out.below HB.out)).mono ?_); rintro e w1 ⟨rfl, hb1⟩; have nHX := Lib.hid (HX.out.below hb1); have nHY := Lib.hid (HY.out.below hb1); have nHZ := Lib.hid (HZ.out.below hb1); have nHB := Lib.hid (bthen HB.out hb1); have zz1 := hb1.size; clear HX HY HZ HB hb1; have HX := nHX; have HY := nHY; have HZ := nHZ; have HB := nHB; clear nHX nHY nHZ nHB; (try clear zHX); have zHX := HX.out.lt; (try clear cHX19); have cHX19 := HX.out.cell 19; (try clear zHZ); have zHZ := HZ.out.lt; (try clear cHZ1); have cHZ1 := HZ.out.cell 1) | (have _t := tok5; refine wpl_mid_g ?_ 29 _ rfl w.heap.size 0 rfl 34 #[.int .i64 M.places, .int .i64 M.any.a0, .int .i64 M.any.a1, .int .i64 M.any.a2, .int .i64 M.any.a3, .int .i64 M.any.a4, .int .i64 M.any.a5, .bool M.any.i, .bool M.any.s, .int .i64 M.mw, .int .i64 M.ms, .int .i64 M.mc, vF, vS, .int .i64 lw, .int .i64 ls, .int .i64 lc, .bool li, .bool lb, .slice A n c] #[.int .i64 M.places, .int .i64 M.any.a0, .int .i64 M.any.a1, .int .i64 M.any.a2, .int .i64 M.any.a3, .int .i64 M.any.a4, .int .i64 M.any.a5, .bool M.any.i, .bool M.any.s, .int .i64 M.mw, .int .i64 M.ms, .int .i64 M.mc, vF, vS] 14 HX.out Tryz.rowMet [] [.int .i64 lw, .int .i64 ls, .int .i64 lc, .bool li, .bool lb, .slice A n c] rfl rfl rfl ?_; (focus rfl); simp only [Act.put]; clear tok5) | (have _t := tok6; refine wpl_row_g ?_ 37 (.tmp 4) rfl _ rfl #[.slice AR F.m cR, .int .i64 F.dep, .int .i64 F.fuel, .int .i64 F.burn, .int .i64 F.res] 5 HY.out Tryz.rowFli rfl ?_; (focus rfl); simp only [Act.put]; clear tok6) | ((with_reducible refine (HCK.out _ (HM.out.below HB.out) (HL.out.below HB.out) (HR.out.below HB.out)).mono ?_); rintro e w1 ⟨rfl, hb1⟩; have nHX := Lib.hid (HX.out.below hb1); have nHY := Lib.hid (HY.out.below hb1); have nHZ := Lib.hid (HZ.out.below hb1); have nHB := Lib.hid (bthen HB.out hb1); have zz1 := hb1.size; clear HX HY HZ HB hb1; have HX := nHX; have HY := nHY; have HZ := nHZ; have HB := nHB; clear nHX nHY nHZ nHB; (try clear zHX); have zHX := HX.out.lt; (try clear cHX19); have cHX19 := HX.out.cell 19; (try clear zHZ); have zHZ := HZ.out.lt; (try clear cHZ1); have cHZ1 := HZ.out.cell 1) | (go_at_call 11; refine (measures_c _).mono ?_; rintro _ w9 ⟨rfl, hb9⟩; have HB9 := Lib.hid (bthen HB.out hb9); clear hb9))
    go_ret
    exact ⟨rfl, HB9.out⟩
  subst h1
  have hnf : nfE (netME M lw ls lc S n) M S n F = 0 := by rw [HMIN.out, if_pos rfl]
  obtain ⟨hpl, hpl8, -, -, hok⟩ := nfM_ok hnf
  have hn30 : n ≤ 50 := by
    have := HPP.out
    unfold pfar at this
    simp only [Bool.or_eq_false_iff, decide_eq_false_iff_not] at this
    omega
  have hfar : M.far = false := by
    have := HPP.out
    unfold pfar at this
    simp only [Bool.or_eq_false_iff] at this
    exact this.1
  have HFR := Lib.hid hfar
  have HOK := Lib.hid hok
  have HPL := Lib.hid (And.intro hpl hpl8)
  have HNF := Lib.hid hnf
  clear hfar hok hpl hpl8 hnf
  have tok0 : True := trivial
  have tok1 : True := trivial
  have tok2 : True := trivial
  have tok3 : True := trivial
  have tok4 : True := trivial
  have tok5 : True := trivial
  have tok6 : True := trivial
  go_enter Tryz.func3, Tryz.ntmps3
  go_wp2_with (first | (have _t := tok0; generalize hWX : World.alloc (World.alloc (World.alloc w _) _) _ = W; clear tok0; have _x := tri_r w #[.int .i64 M.places, .int .i64 M.any.a0, .int .i64 M.any.a1, .int .i64 M.any.a2, .int .i64 M.any.a3, .int .i64 M.any.a4, .int .i64 M.any.a5, .bool M.any.i, .bool M.any.s, .int .i64 M.mw, .int .i64 M.ms, .int .i64 M.mc, vF, vS, .int .i64 lw, .int .i64 ls, .int .i64 lc, .bool li, .bool lb, .slice A n c] #[.slice AR F.m cR, .int .i64 F.dep, .int .i64 F.fuel, .int .i64 F.burn, .int .i64 F.res] #[.int .i64 tk, .slice AW nW cW] 34 37 40; rw [hWX] at _x; clear hWX; have HX := Lib.hid _x.1; have HY := Lib.hid _x.2.1; have HZ := Lib.hid _x.2.2.1; have HB := Lib.hid _x.2.2.2; clear _x; have x19 := HX.out.cell 19; have z1 := HZ.out.cell 1; simp only [List.getElem?_toArray, List.getElem?_cons_succ, List.getElem?_cons_zero] at x19 z1) | (have _t := tok1; refine wpl_row rfl 34 (.tmp 3) rfl _ rfl #[.int .i64 M.places, .int .i64 M.any.a0, .int .i64 M.any.a1, .int .i64 M.any.a2, .int .i64 M.any.a3, .int .i64 M.any.a4, .int .i64 M.any.a5, .bool M.any.i, .bool M.any.s, .int .i64 M.mw, .int .i64 M.ms, .int .i64 M.mc, vF, vS, .int .i64 lw, .int .i64 ls, .int .i64 lc, .bool li, .bool lb, .slice A n c] 20 HX.out Tryz.rowPlan rfl ?_; simp only [Act.put]; clear tok1) | (have _t := tok2; refine wpl_row rfl 37 (.tmp 4) rfl _ rfl #[.slice AR F.m cR, .int .i64 F.dep, .int .i64 F.fuel, .int .i64 F.burn, .int .i64 F.res] 5 HY.out Tryz.rowFli rfl ?_; simp only [Act.put]; clear tok2) | (go_at_call 8; (with_reducible refine (HPF.out _ (HM.out.below HB.out)).mono ?_); rintro e w1 ⟨rfl, hb1⟩; have nHX := Lib.hid (HX.out.below hb1); have nHY := Lib.hid (HY.out.below hb1); have nHZ := Lib.hid (HZ.out.below hb1); have nHB := Lib.hid (bthen HB.out hb1); have zz1 := hb1.size; clear HX HY HZ HB hb1; have HX := nHX; have HY := nHY; have HZ := nHZ; have HB := nHB; clear nHX nHY nHZ nHB; (try clear zHX); have zHX := HX.out.lt; (try clear cHX19); have cHX19 := HX.out.cell 19; (try clear zHZ); have zHZ := HZ.out.lt; (try clear cHZ1); have cHZ1 := HZ.out.cell 1) | (have _t := tok3; refine wpl_mid_g ?_ 29 _ rfl w.heap.size 0 rfl 34 #[.int .i64 M.places, .int .i64 M.any.a0, .int .i64 M.any.a1, .int .i64 M.any.a2, .int .i64 M.any.a3, .int .i64 M.any.a4, .int .i64 M.any.a5, .bool M.any.i, .bool M.any.s, .int .i64 M.mw, .int .i64 M.ms, .int .i64 M.mc, vF, vS, .int .i64 lw, .int .i64 ls, .int .i64 lc, .bool li, .bool lb, .slice A n c] #[.int .i64 M.places, .int .i64 M.any.a0, .int .i64 M.any.a1, .int .i64 M.any.a2, .int .i64 M.any.a3, .int .i64 M.any.a4, .int .i64 M.any.a5, .bool M.any.i, .bool M.any.s, .int .i64 M.mw, .int .i64 M.ms, .int .i64 M.mc, vF, vS] 14 HX.out Tryz.rowMet [] [.int .i64 lw, .int .i64 ls, .int .i64 lc, .bool li, .bool lb, .slice A n c] rfl rfl rfl ?_; (focus rfl); simp only [Act.put]; clear tok3) | (have _t := tok4; refine wpl_mid_g ?_ 31 _ rfl w.heap.size 14 rfl 34 #[.int .i64 M.places, .int .i64 M.any.a0, .int .i64 M.any.a1, .int .i64 M.any.a2, .int .i64 M.any.a3, .int .i64 M.any.a4, .int .i64 M.any.a5, .bool M.any.i, .bool M.any.s, .int .i64 M.mw, .int .i64 M.ms, .int .i64 M.mc, vF, vS, .int .i64 lw, .int .i64 ls, .int .i64 lc, .bool li, .bool lb, .slice A n c] #[.int .i64 lw, .int .i64 ls, .int .i64 lc, .bool li, .bool lb] 5 HX.out Tryz.rowMin [.int .i64 M.places, .int .i64 M.any.a0, .int .i64 M.any.a1, .int .i64 M.any.a2, .int .i64 M.any.a3, .int .i64 M.any.a4, .int .i64 M.any.a5, .bool M.any.i, .bool M.any.s, .int .i64 M.mw, .int .i64 M.ms, .int .i64 M.mc, vF, vS] [.slice A n c] rfl rfl rfl ?_; (focus rfl); simp only [Act.put]; clear tok4) | ((with_reducible refine (HCM.out _ (HM.out.below HB.out)).mono ?_); rintro e w1 ⟨rfl, hb1⟩; have nHX := Lib.hid (HX.out.below hb1); have nHY := Lib.hid (HY.out.below hb1); have nHZ := Lib.hid (HZ.out.below hb1); have nHB := Lib.hid (bthen HB.out hb1); have zz1 := hb1.size; clear HX HY HZ HB hb1; have HX := nHX; have HY := nHY; have HZ := nHZ; have HB := nHB; clear nHX nHY nHZ nHB; (try clear zHX); have zHX := HX.out.lt; (try clear cHX19); have cHX19 := HX.out.cell 19; (try clear zHZ); have zHZ := HZ.out.lt; (try clear cHZ1); have cHZ1 := HZ.out.cell 1) | (have _t := tok5; refine wpl_mid_g ?_ 29 _ rfl w.heap.size 0 rfl 34 #[.int .i64 M.places, .int .i64 M.any.a0, .int .i64 M.any.a1, .int .i64 M.any.a2, .int .i64 M.any.a3, .int .i64 M.any.a4, .int .i64 M.any.a5, .bool M.any.i, .bool M.any.s, .int .i64 M.mw, .int .i64 M.ms, .int .i64 M.mc, vF, vS, .int .i64 lw, .int .i64 ls, .int .i64 lc, .bool li, .bool lb, .slice A n c] #[.int .i64 M.places, .int .i64 M.any.a0, .int .i64 M.any.a1, .int .i64 M.any.a2, .int .i64 M.any.a3, .int .i64 M.any.a4, .int .i64 M.any.a5, .bool M.any.i, .bool M.any.s, .int .i64 M.mw, .int .i64 M.ms, .int .i64 M.mc, vF, vS] 14 HX.out Tryz.rowMet [] [.int .i64 lw, .int .i64 ls, .int .i64 lc, .bool li, .bool lb, .slice A n c] rfl rfl rfl ?_; (focus rfl); simp only [Act.put]; clear tok5) | (have _t := tok6; refine wpl_row_g ?_ 37 (.tmp 4) rfl _ rfl #[.slice AR F.m cR, .int .i64 F.dep, .int .i64 F.fuel, .int .i64 F.burn, .int .i64 F.res] 5 HY.out Tryz.rowFli rfl ?_; (focus rfl); simp only [Act.put]; clear tok6) | ((with_reducible refine (HCK.out _ (HM.out.below HB.out) (HL.out.below HB.out) (HR.out.below HB.out)).mono ?_); rintro e w1 ⟨rfl, hb1⟩; have nHX := Lib.hid (HX.out.below hb1); have nHY := Lib.hid (HY.out.below hb1); have nHZ := Lib.hid (HZ.out.below hb1); have nHB := Lib.hid (bthen HB.out hb1); have zz1 := hb1.size; clear HX HY HZ HB hb1; have HX := nHX; have HY := nHY; have HZ := nHZ; have HB := nHB; clear nHX nHY nHZ nHB; (try clear zHX); have zHX := HX.out.lt; (try clear cHX19); have cHX19 := HX.out.cell 19; (try clear zHZ); have zHZ := HZ.out.lt; (try clear cHZ1); have cHZ1 := HZ.out.cell 1) | (at_builtin; refine wpl_cp rfl _ _ Tryz.lgUT Tryz.lgIT (by omega) (nV_one S) rfl _ rfl (Blk.newA _ _ _ (by simp)) A n c rfl ((HL.out.below HB.out).below (bal (RowKit.Below.refl _ _) _)) hn30 ?_))
  intro v1 w2 hq hbh
  obtain ⟨A3, c3, rfl, q1, q2, q3, -⟩ := hq.out
  have HL3 := Lib.hid q3
  have hbS := (bal (RowKit.Below.refl _ _) (.cells #[] 64)).trans (hbh.out.mono (by simp))
  clear hq hbh q3 x19 z1
  have nHX := Lib.hid (HX.out.below hbS)
  have nHY := Lib.hid (HY.out.below hbS)
  have nHZ := Lib.hid (HZ.out.below hbS)
  have nHB := Lib.hid (bthen HB.out hbS)
  clear HX HY HZ HB hbS
  have HX := nHX
  have HY := nHY
  have HZ := nHZ
  have HB := nHB
  clear nHX nHY nHZ nHB
  go_wp2_with (fail)
  -- MARK2
  have hbs := fun w1 vF vS h hl hr => rBest_c M vF vS lw ls lc li lb A3 n c3 S F (.slice AR F.m cR) tk w1 h q1 q2 hl hr
  rw [HNF.out] at hbs
  obtain ⟨⟨x, E⟩, hBE⟩ : ∃ q, q = bsE (tkE 0 F (lgT S n) tk) M lw ls lc li lb S n F tk := ⟨_, rfl⟩
  rw [← hBE] at hbs
  have hcase := bsE_cases hBE
  obtain ⟨xp, xt, xb⟩ := x
  dsimp only [hvC] at hbs
  have HBS := Lib.hid hbs
  have HCA := Lib.hid hcase
  clear hbs hcase hBE
  refine wp_region_specL 14 [12] (th4R w2.heap.size w.heap.size M (.agg #[.int .i64 M.places, .int .i64 M.any.a0, .int .i64 M.any.a1, .int .i64 M.any.a2, .int .i64 M.any.a3, .int .i64 M.any.a4, .int .i64 M.any.a5, .bool M.any.i, .bool M.any.s, .int .i64 M.mw, .int .i64 M.ms, .int .i64 M.mc, vF, vS]) (.agg #[.int .i64 lw, .int .i64 ls, .int .i64 lc, .bool li, .bool lb]) (.slice A3 n c3) (.agg #[.slice AR F.m cR, .int .i64 F.dep, .int .i64 F.fuel, .int .i64 F.burn, .int .i64 F.res]) (.agg #[.int .i64 (xp : Int), .int .i64 xt, .bool xb]) tk E) (fun i => decide (i = 13)) (by kernel_rfl) (by kernel_rfl) (by decide) th4R_below ?hop1 ?htail1
  case hop1 =>
    simp only [List.take_succ_cons, List.take_zero, allOps]
    refine ⟨?_, ?_, ?_, ?_, ?_, ?_, ?_, ?_, ?_, ?_, ?_, ?_, ?_, ?_, trivial⟩
    all_goals intro u A w1 hA hb hd
    all_goals simp only [putAll, dstOf, List.getElem?_toArray, List.getElem?_cons_succ, List.getElem?_cons_zero, Option.bind_some, Option.bind, Act.put, List.setIfInBounds_toArray, List.set_cons_succ, List.set_cons_zero] at hA; subst hA
    all_goals have HB1 := Lib.hid hb
    · refine OpOk.now rfl ?_
      clear hb hd
      go_wp2
      exact ⟨_, rfl, Below.refl _ _, rfl, fun h => absurd h (by decide)⟩
    · refine OpOk.now rfl ?_
      have d0 : u 0 = _ := hd 0 (by omega) (by kernel_rfl)
      clear hb hd
      rw [d0]
      clear d0
      go_wp2_with (refine wpl_mid rfl 29 _ rfl w.heap.size 0 rfl 34 #[.int .i64 M.places, .int .i64 M.any.a0, .int .i64 M.any.a1, .int .i64 M.any.a2, .int .i64 M.any.a3, .int .i64 M.any.a4, .int .i64 M.any.a5, .bool M.any.i, .bool M.any.s, .int .i64 M.mw, .int .i64 M.ms, .int .i64 M.mc, vF, vS, .int .i64 lw, .int .i64 ls, .int .i64 lc, .bool li, .bool lb, .slice A n c] #[.int .i64 M.places, .int .i64 M.any.a0, .int .i64 M.any.a1, .int .i64 M.any.a2, .int .i64 M.any.a3, .int .i64 M.any.a4, .int .i64 M.any.a5, .bool M.any.i, .bool M.any.s, .int .i64 M.mw, .int .i64 M.ms, .int .i64 M.mc, vF, vS] 14 (HX.out.below HB1.out) Tryz.rowMet [] [.int .i64 lw, .int .i64 ls, .int .i64 lc, .bool li, .bool lb, .slice A n c] rfl rfl rfl ?_; simp only [Act.put])
      exact ⟨_, rfl, Below.refl _ _, rfl, fun h => absurd h (by decide)⟩
    · refine OpOk.now rfl ?_
      have d1 : u 1 = _ := hd 1 (by omega) (by kernel_rfl)
      clear hb hd
      rw [d1]
      clear d1
      go_wp2_with (go_at_call 13; (with_reducible refine (wCopyT_c M _ _ _ ((HM.out.below HB.out).below HB1.out) HFR.out).mono ?_); rintro e w2 ⟨v, rfl, ho, hb2⟩)
      exact ⟨_, rfl, hb2, ho, fun h => absurd h (by decide)⟩
    · refine OpOk.now rfl ?_
      clear hb hd
      go_wp2
      exact ⟨_, rfl, Below.refl _ _, rfl, fun h => absurd h (by decide)⟩
    · refine OpOk.now rfl ?_
      have d3 : u 3 = _ := hd 3 (by omega) (by kernel_rfl)
      clear hb hd
      rw [d3]
      clear d3
      go_wp2_with (refine wpl_mid rfl 31 _ rfl w.heap.size 14 rfl 34 #[.int .i64 M.places, .int .i64 M.any.a0, .int .i64 M.any.a1, .int .i64 M.any.a2, .int .i64 M.any.a3, .int .i64 M.any.a4, .int .i64 M.any.a5, .bool M.any.i, .bool M.any.s, .int .i64 M.mw, .int .i64 M.ms, .int .i64 M.mc, vF, vS, .int .i64 lw, .int .i64 ls, .int .i64 lc, .bool li, .bool lb, .slice A n c] #[.int .i64 lw, .int .i64 ls, .int .i64 lc, .bool li, .bool lb] 5 (HX.out.below HB1.out) Tryz.rowMin [.int .i64 M.places, .int .i64 M.any.a0, .int .i64 M.any.a1, .int .i64 M.any.a2, .int .i64 M.any.a3, .int .i64 M.any.a4, .int .i64 M.any.a5, .bool M.any.i, .bool M.any.s, .int .i64 M.mw, .int .i64 M.ms, .int .i64 M.mc, vF, vS] [.slice A n c] rfl rfl rfl ?_; simp only [Act.put])
      exact ⟨_, rfl, Below.refl _ _, rfl, fun h => absurd h (by decide)⟩
    · refine OpOk.now rfl ?_
      clear hb hd
      go_wp2
      exact ⟨_, rfl, Below.refl _ _, rfl, fun h => absurd h (by decide)⟩
    · refine OpOk.now rfl ?_
      clear hb hd
      go_wp2_with (refine wpl_row rfl 37 _ rfl _ rfl _ 5 (HY.out.below HB1.out) Tryz.rowFli rfl ?_; simp only [Act.put])
      exact ⟨_, rfl, Below.refl _ _, rfl, fun h => absurd h (by decide)⟩
    · refine OpOk.now rfl ?_
      clear hb hd
      go_wp2
      exact ⟨_, rfl, Below.refl _ _, rfl, fun h => absurd h (by decide)⟩
    · refine OpOk.now rfl ?_
      have d7 : u 7 = _ := hd 7 (by omega) (by kernel_rfl)
      clear hb hd
      rw [d7]
      clear d7
      have z0 := (HZ.out.below HB1.out).cell 0
      go_wp2
      exact ⟨_, rfl, Below.refl _ _, rfl, fun h => absurd h (by decide)⟩
    · refine OpOk.now rfl ?_
      have d2 := hd 2 (by omega) (by kernel_rfl)
      have d4 : u 4 = _ := hd 4 (by omega) (by kernel_rfl)
      have d5 : u 5 = _ := hd 5 (by omega) (by kernel_rfl)
      have d6 : u 6 = _ := hd 6 (by omega) (by kernel_rfl)
      have d8 : u 8 = _ := hd 8 (by omega) (by kernel_rfl)
      clear hb hd
      rw [d4, d5, d6, d8]
      clear d4 d5 d6 d8
      obtain ⟨vF2, vS2, e2, r2⟩ := d2
      rw [e2]
      clear e2
      go_wp2_with (go_at_call 12; (with_reducible refine (HBS.out _ _ _ r2 (HL3.out.below HB1.out) ((HR.out.below HB.out).below HB1.out)).mono ?_); rintro e w2 ⟨rfl, hb2⟩)
      exact ⟨_, rfl, hb2, rfl, fun h => absurd h (by decide)⟩
    · refine OpOk.now rfl ?_
      have d9 : u 9 = _ := hd 9 (by omega) (by kernel_rfl)
      clear hb hd
      rw [d9]
      clear d9
      go_wp2
      exact ⟨_, rfl, Below.refl _ _, rfl, fun h => absurd h (by decide)⟩
    · refine OpOk.now rfl ?_
      have d10 : u 10 = _ := hd 10 (by omega) (by kernel_rfl)
      clear hb hd
      rw [d10]
      clear d10
      go_wp2
      exact ⟨_, rfl, Below.refl _ _, rfl, fun h => absurd h (by decide)⟩
    · have d10 : u 10 = _ := hd 10 (by omega) (by kernel_rfl)
      clear hb hd
      rw [d10]
      clear d10
      refine OpOk.late rfl ?_
      exact ⟨_, yields_extract rfl _ _ rfl _ rfl _ rfl, rfl⟩
    · refine OpOk.now rfl ?_
      have zz := hb.size
      clear hb hd
      go_wp2
      exact ⟨_, rfl, bal (Below.refl _ _) _, ⟨_, rfl, by omega, Blk.new _ _ _⟩, fun _ => ⟨_, rfl, Nat.le_refl _, by simp⟩⟩
  case htail1 =>
    intro u A w1 hA hb hd hf
    simp only [putAll, dstOf, List.getElem?_toArray, List.getElem?_cons_succ, List.getElem?_cons_zero, Option.bind_some, Option.bind, Act.put, List.setIfInBounds_toArray, List.set_cons_succ, List.set_cons_zero] at hA; subst hA
    have e0 : u 0 = _ := hd 0 (by omega)
    have e1 : u 1 = _ := hd 1 (by omega)
    have p2 := hd 2 (by omega)
    have e3 : u 3 = _ := hd 3 (by omega)
    have e4 : u 4 = _ := hd 4 (by omega)
    have e5 : u 5 = _ := hd 5 (by omega)
    have e6 : u 6 = _ := hd 6 (by omega)
    have e7 : u 7 = _ := hd 7 (by omega)
    have e8 : u 8 = _ := hd 8 (by omega)
    have e9 : u 9 = _ := hd 9 (by omega)
    have e10 : u 10 = _ := hd 10 (by omega)
    have e11 : u 11 = _ := hd 11 (by omega)
    have e12 : u 12 = _ := hd 12 (by omega)
    obtain ⟨g13, e13, z13, b13⟩ := hd 13 (by omega)
    first | rw [e0, e1, e3, e4, e5, e6, e7, e8, e9, e10, e11, e12, e13] | simp only [e0, e1, e3, e4, e5, e6, e7, e8, e9, e10, e11, e12, e13]
    clear e0 e1 e3 e4 e5 e6 e7 e8 e9 e10 e11 e12 e13
    clear hd hf
    clear p2
    refine wpList_store_row rfl 47 _ _ rfl g13 #[.int .i64 (xp : Int), .int .i64 xt, .bool xb] rfl rfl 47 #[.int .i64 0, .int .i64 0, .bool false] b13 Tryz.sizeHav rfl (by simp [Value.oneCell']) ?_
    simp only [Act.put]
    have hbF := below_row hb z13 #[.int .i64 (xp : Int), .int .i64 xt, .bool xb]
    have HH := Lib.hid (wblk_setRow (cs := #[.int .i64 (xp : Int), .int .i64 xt, .bool xb]) b13)
    clear hb b13 z13
    generalize w1.setRow g13 #[.int .i64 (xp : Int), .int .i64 xt, .bool xb] = w5 at *
    have nHX := Lib.hid (HX.out.below hbF)
    have nHY := Lib.hid (HY.out.below hbF)
    have nHZ := Lib.hid (HZ.out.below hbF)
    have nHB := Lib.hid (bthen HB.out hbF)
    clear HX HY HZ HB hbF
    have HX := nHX
    have HY := nHY
    have HZ := nHZ
    have HB := nHB
    clear nHX nHY nHZ nHB
    go_wp2_with (fail)
    dsimp only [NoPanic]
    -- MARK3
    rcases HCA.out with (rfl | rfl) | ⟨rfl, ht0, ht1, hbl⟩
    · go_wp2_with (first | (go_at_call 11; refine (measures_c _).mono ?_; rintro _ w9 ⟨rfl, hb9⟩; have HB9 := Lib.hid (bthen HB.out hb9); clear hb9))
      go_ret
      exact ⟨rfl, HB9.out⟩
    · go_wp2_with (first | (go_at_call 11; refine (measures_c _).mono ?_; rintro _ w9 ⟨rfl, hb9⟩; have HB9 := Lib.hid (bthen HB.out hb9); clear hb9))
      go_ret
      exact ⟨rfl, HB9.out⟩
    obtain ⟨k1, k2, k3, k4⟩ := hav_law HOK.out ht0 ht1 hbl
    dsimp only at k1 k2 k3 k4
    obtain ⟨-, -, -, k5, k6, -⟩ := openV_ok k2
    have HOV := Lib.hid k2
    obtain ⟨n1, n2, n3, n4, n5, n6⟩ := FliD.nums_iff.1 HOK.out.1
    have hbd := mul_bd (A := 100000) (B := 3000) (a := F.burn) (b := xt - F.dep) (by omega) (by omega) (by omega) (by omega)
    have hw1 : IntKind.i64.wrap (xt - F.dep) = xt - F.dep := by rw [IntKind.wrap_i64]; omega
    have hw2 : IntKind.i64.wrap (F.burn * (xt - F.dep)) = F.burn * (xt - F.dep) := by rw [IntKind.wrap_i64]; omega
    have hw3 : IntKind.i64.wrap (F.fuel - F.burn * (xt - F.dep)) = F.fuel - F.burn * (xt - F.dep) := by rw [IntKind.wrap_i64]; omega
    have hnl : ¬ F.fuel - F.burn * (xt - F.dep) < F.res := by omega
    clear k1 k2 k3 k6 n1 n2 n3 n4 n5 n6 hbd hbl ht0 ht1
    have hnl2 : ¬ xt < tk := by omega
    have hnl3 : ¬ xt < 0 := by omega
    have hnl4 : ¬ (2000 : Int) < xt := by omega
    clear k4
    by_cases h20 : xt < 2000
    case pos =>
      have HWN := Lib.hid (fun w1 vF vS h => wWinT_c M vF vS lw ls lc li lb (xp : Int) xt w1 h HOV.out h20)
      have hwx : IntKind.i64.wrap (xt + 1) = xt + 1 := by rw [IntKind.wrap_i64]; omega
      have zHY := HY.out.lt
      have cHY1 := HY.out.cell 1
      have cHY2 := HY.out.cell 2
      have cHY3 := HY.out.cell 3
      have cHY4 := HY.out.cell 4
      have zHH := HH.out.lt
      have cHH0 := HH.out.cell 0
      have cHH1 := HH.out.cell 1
      have zHZ := HZ.out.lt
      have cHZ0 := HZ.out.cell 0
      have cHZ1 := HZ.out.cell 1
      simp only [List.getElem?_toArray, List.getElem?_cons_succ, List.getElem?_cons_zero] at cHY1 cHY2 cHY3 cHY4 cHH0 cHH1 cHZ0 cHZ1
      go_wp2_with (fail)
      clear cHY1 cHY2 cHY3 cHY4 cHH0 cHH1 cHZ0 cHZ1
      -- MARK4
      refine wp_region_specL 16 [15] (th10R w5.heap.size w.heap.size g13 M (.agg #[.int .i64 M.places, .int .i64 M.any.a0, .int .i64 M.any.a1, .int .i64 M.any.a2, .int .i64 M.any.a3, .int .i64 M.any.a4, .int .i64 M.any.a5, .bool M.any.i, .bool M.any.s, .int .i64 M.mw, .int .i64 M.ms, .int .i64 M.mc, vF, vS]) (.agg #[.int .i64 lw, .int .i64 ls, .int .i64 lc, .bool li, .bool lb]) (xp : Int) xt) (fun i => false) (by kernel_rfl) (by kernel_rfl) (by decide) th10R_below ?hop2 ?htail2
      case hop2 =>
        simp only [List.take_succ_cons, List.take_zero, allOps]
        refine ⟨?_, ?_, ?_, ?_, ?_, ?_, ?_, ?_, ?_, ?_, ?_, ?_, ?_, ?_, ?_, ?_, trivial⟩
        all_goals intro u A w1 hA hb hd
        all_goals simp only [putAll, dstOf, List.getElem?_toArray, List.getElem?_cons_succ, List.getElem?_cons_zero, Option.bind_some, Option.bind, Act.put, List.setIfInBounds_toArray, List.set_cons_succ, List.set_cons_zero] at hA; subst hA
        all_goals have HB1 := Lib.hid hb
        · refine OpOk.now rfl ?_
          clear hb hd
          go_wp2
          exact ⟨_, rfl, Below.refl _ _, rfl, fun h => absurd h (by decide)⟩
        · refine OpOk.now rfl ?_
          have d0 : u 0 = _ := hd 0 (by omega) (by kernel_rfl)
          clear hb hd
          rw [d0]
          clear d0
          go_wp2_with (refine wpl_mid rfl 29 _ rfl w.heap.size 0 rfl 34 #[.int .i64 M.places, .int .i64 M.any.a0, .int .i64 M.any.a1, .int .i64 M.any.a2, .int .i64 M.any.a3, .int .i64 M.any.a4, .int .i64 M.any.a5, .bool M.any.i, .bool M.any.s, .int .i64 M.mw, .int .i64 M.ms, .int .i64 M.mc, vF, vS, .int .i64 lw, .int .i64 ls, .int .i64 lc, .bool li, .bool lb, .slice A n c] #[.int .i64 M.places, .int .i64 M.any.a0, .int .i64 M.any.a1, .int .i64 M.any.a2, .int .i64 M.any.a3, .int .i64 M.any.a4, .int .i64 M.any.a5, .bool M.any.i, .bool M.any.s, .int .i64 M.mw, .int .i64 M.ms, .int .i64 M.mc, vF, vS] 14 (HX.out.below HB1.out) Tryz.rowMet [] [.int .i64 lw, .int .i64 ls, .int .i64 lc, .bool li, .bool lb, .slice A n c] rfl rfl rfl ?_; simp only [Act.put])
          exact ⟨_, rfl, Below.refl _ _, rfl, fun h => absurd h (by decide)⟩
        · refine OpOk.now rfl ?_
          have d1 : u 1 = _ := hd 1 (by omega) (by kernel_rfl)
          clear hb hd
          rw [d1]
          clear d1
          go_wp2_with (go_at_call 13; (with_reducible refine (wCopyT_c M _ _ _ ((HM.out.below HB.out).below HB1.out) HFR.out).mono ?_); rintro e w2 ⟨v, rfl, ho, hb2⟩)
          exact ⟨_, rfl, hb2, ho, fun h => absurd h (by decide)⟩
        · refine OpOk.now rfl ?_
          clear hb hd
          go_wp2
          exact ⟨_, rfl, Below.refl _ _, rfl, fun h => absurd h (by decide)⟩
        · refine OpOk.now rfl ?_
          have d3 : u 3 = _ := hd 3 (by omega) (by kernel_rfl)
          clear hb hd
          rw [d3]
          clear d3
          go_wp2_with (refine wpl_mid rfl 31 _ rfl w.heap.size 14 rfl 34 #[.int .i64 M.places, .int .i64 M.any.a0, .int .i64 M.any.a1, .int .i64 M.any.a2, .int .i64 M.any.a3, .int .i64 M.any.a4, .int .i64 M.any.a5, .bool M.any.i, .bool M.any.s, .int .i64 M.mw, .int .i64 M.ms, .int .i64 M.mc, vF, vS, .int .i64 lw, .int .i64 ls, .int .i64 lc, .bool li, .bool lb, .slice A n c] #[.int .i64 lw, .int .i64 ls, .int .i64 lc, .bool li, .bool lb] 5 (HX.out.below HB1.out) Tryz.rowMin [.int .i64 M.places, .int .i64 M.any.a0, .int .i64 M.any.a1, .int .i64 M.any.a2, .int .i64 M.any.a3, .int .i64 M.any.a4, .int .i64 M.any.a5, .bool M.any.i, .bool M.any.s, .int .i64 M.mw, .int .i64 M.ms, .int .i64 M.mc, vF, vS] [.slice A n c] rfl rfl rfl ?_; simp only [Act.put])
          exact ⟨_, rfl, Below.refl _ _, rfl, fun h => absurd h (by decide)⟩
        · refine OpOk.now rfl ?_
          clear hb hd
          go_wp2
          exact ⟨_, rfl, Below.refl _ _, rfl, fun h => absurd h (by decide)⟩
        · refine OpOk.now rfl ?_
          have d5 : u 5 = _ := hd 5 (by omega) (by kernel_rfl)
          clear hb hd
          rw [d5]
          clear d5
          have k0 := (HH.out.below HB1.out).cell 0
          go_wp2
          exact ⟨_, rfl, Below.refl _ _, rfl, fun h => absurd h (by decide)⟩
        · refine OpOk.now rfl ?_
          clear hb hd
          go_wp2
          exact ⟨_, rfl, Below.refl _ _, rfl, fun h => absurd h (by decide)⟩
        · refine OpOk.now rfl ?_
          have d7 : u 7 = _ := hd 7 (by omega) (by kernel_rfl)
          clear hb hd
          rw [d7]
          clear d7
          have k1 := (HH.out.below HB1.out).cell 1
          go_wp2
          exact ⟨_, rfl, Below.refl _ _, rfl, fun h => absurd h (by decide)⟩
        · refine OpOk.now rfl ?_
          clear hb hd
          go_wp2
          exact ⟨_, rfl, Below.refl _ _, rfl, fun h => absurd h (by decide)⟩
        · refine OpOk.now rfl ?_
          have d9 : u 9 = _ := hd 9 (by omega) (by kernel_rfl)
          clear hb hd
          rw [d9]
          clear d9
          have k1 := (HH.out.below HB1.out).cell 1
          go_wp2
          exact ⟨_, rfl, Below.refl _ _, rfl, fun h => absurd h (by decide)⟩
        · refine OpOk.now rfl ?_
          have d10 : u 10 = _ := hd 10 (by omega) (by kernel_rfl)
          clear hb hd
          rw [d10]
          clear d10
          go_wp2
          exact ⟨_, rfl, Below.refl _ _, rfl, fun h => absurd h (by decide)⟩
        · refine OpOk.now rfl ?_
          have d2 := hd 2 (by omega) (by kernel_rfl)
          have d4 : u 4 = _ := hd 4 (by omega) (by kernel_rfl)
          have d6 : u 6 = _ := hd 6 (by omega) (by kernel_rfl)
          have d8 : u 8 = _ := hd 8 (by omega) (by kernel_rfl)
          have d11 : u 11 = _ := hd 11 (by omega) (by kernel_rfl)
          clear hb hd
          rw [d4, d6, d8, d11]
          clear d4 d6 d8 d11
          obtain ⟨vF2, vS2, e2, r2⟩ := d2
          rw [e2]
          clear e2
          go_wp2_with (go_at_call 14; (with_reducible refine (HWN.out _ _ _ r2).mono ?_); rintro e w2 ⟨⟨v1, rfl, ho⟩, hb2⟩)
          exact ⟨_, rfl, hb2, ⟨v1, rfl, ho⟩, fun h => absurd h (by decide)⟩
        · refine OpOk.now rfl ?_
          have d12 := hd 12 (by omega) (by kernel_rfl)
          clear hb hd
          obtain ⟨v1, e12, ho⟩ := d12
          rw [e12]
          go_wp2
          exact ⟨_, rfl, RowKit.Below.refl _ _, ⟨v1, rfl, ho⟩, fun h => absurd h (by decide)⟩
        · refine OpOk.now rfl ?_
          have d13 := hd 13 (by omega) (by kernel_rfl)
          clear hb hd
          obtain ⟨v1, e13, ho⟩ := d13
          rw [e13]
          go_wp2
          exact ⟨_, rfl, RowKit.Below.refl _ _, ho, fun h => absurd h (by decide)⟩
        · have d13 := hd 13 (by omega) (by kernel_rfl)
          clear hb hd
          obtain ⟨v1, e13, ho⟩ := d13
          rw [e13]
          refine OpOk.late rfl ?_
          exact ⟨_, yields_extract rfl _ _ rfl _ rfl _ rfl, rfl⟩
      case htail2 =>
        intro u A w1 hA hb hd hf
        simp only [putAll, dstOf, List.getElem?_toArray, List.getElem?_cons_succ, List.getElem?_cons_zero, Option.bind_some, Option.bind, Act.put, List.setIfInBounds_toArray, List.set_cons_succ, List.set_cons_zero] at hA; subst hA
        have e0 : u 0 = _ := hd 0 (by omega)
        have e1 : u 1 = _ := hd 1 (by omega)
        have p2 := hd 2 (by omega)
        have e3 : u 3 = _ := hd 3 (by omega)
        have e4 : u 4 = _ := hd 4 (by omega)
        have e5 : u 5 = _ := hd 5 (by omega)
        have e6 : u 6 = _ := hd 6 (by omega)
        have e7 : u 7 = _ := hd 7 (by omega)
        have e8 : u 8 = _ := hd 8 (by omega)
        have e9 : u 9 = _ := hd 9 (by omega)
        have e10 : u 10 = _ := hd 10 (by omega)
        have e11 : u 11 = _ := hd 11 (by omega)
        have p12 := hd 12 (by omega)
        have p13 := hd 13 (by omega)
        have p14 := hd 14 (by omega)
        have e15 : u 15 = _ := hd 15 (by omega)
        first | rw [e0, e1, e3, e4, e5, e6, e7, e8, e9, e10, e11, e15] | simp only [e0, e1, e3, e4, e5, e6, e7, e8, e9, e10, e11, e15]
        clear e0 e1 e3 e4 e5 e6 e7 e8 e9 e10 e11 e15
        clear hd hf
        obtain ⟨AO, cO, e14⟩ := p14
        rw [e14]
        clear p2 p12 p13 e14
        go_wp2_with (fail)
        dsimp only [NoPanic]
        have hbF := hb
        clear hb
        have nHX := Lib.hid (HX.out.below hbF)
        have nHY := Lib.hid (HY.out.below hbF)
        have nHZ := Lib.hid (HZ.out.below hbF)
        have nHH := Lib.hid (HH.out.below hbF)
        have nHB := Lib.hid (bthen HB.out hbF)
        clear HX HY HZ HH HB hbF
        have HX := nHX
        have HY := nHY
        have HZ := nHZ
        have HH := nHH
        have HB := nHB
        clear nHX nHY nHZ nHH nHB
        have zHH := HH.out.lt
        have cHH0 := HH.out.cell 0
        have cHH1 := HH.out.cell 1
        have zHZ := HZ.out.lt
        have cHZ0 := HZ.out.cell 0
        have cHZ1 := HZ.out.cell 1
        simp only [List.getElem?_toArray, List.getElem?_cons_succ, List.getElem?_cons_zero] at cHH0 cHH1 cHZ0 cHZ1
        go_wp2_with (fail)
        clear cHH0 cHH1 cHZ0 cHZ1
        obtain ⟨fr, hfr⟩ : ∃ fr, fr = max 0 (xt - (nW : Int) / 2) := ⟨_, rfl⟩
        rw [← hfr]
        have hf0 : 0 ≤ fr := by omega
        have hf1 : fr ≤ xt := by omega
        have hrl := fun w1 vF vS A' c' h hl => Real_c M vF vS (xp : Int) fr A' nW c' G H w1 h (by omega) hl
        have hrf := fun (h1 : realE M (xp : Int) fr nW G = 0) h2 h3 => real_fly (G := G) (H := H) (n := nW) HOV.out h1 h2 hf1 h3
        obtain ⟨RE, hRE⟩ : ∃ q, q = realE M (xp : Int) fr nW G := ⟨_, rfl⟩
        obtain ⟨RR, hRV⟩ : ∃ q, q = realV M (xp : Int) fr nW G H := ⟨_, rfl⟩
        rw [← hRE, ← hRV] at hrl
        rw [← hRE, ← hRV] at hrf
        obtain ⟨R1, R2⟩ := RR
        dsimp only at hrl hrf
        have HRC := Lib.hid hrl
        have HRF := Lib.hid hrf
        clear hfr hrl hrf hRE hRV
        refine wp_region_specL 15 [13, 14] (th14R w1.heap.size w.heap.size g13 M (.agg #[.int .i64 M.places, .int .i64 M.any.a0, .int .i64 M.any.a1, .int .i64 M.any.a2, .int .i64 M.any.a3, .int .i64 M.any.a4, .int .i64 M.any.a5, .bool M.any.i, .bool M.any.s, .int .i64 M.mw, .int .i64 M.ms, .int .i64 M.mc, vF, vS]) (.slice AW nW cW) (xp : Int) fr nW G H R1 R2 RE) (fun i => false) (by kernel_rfl) (by kernel_rfl) (by decide) th14R_below ?hop3 ?htail3
        case hop3 =>
          simp only [List.take_succ_cons, List.take_zero, allOps]
          refine ⟨?_, ?_, ?_, ?_, ?_, ?_, ?_, ?_, ?_, ?_, ?_, ?_, ?_, ?_, ?_, trivial⟩
          all_goals intro u A w1 hA hb hd
          all_goals simp only [putAll, dstOf, List.getElem?_toArray, List.getElem?_cons_succ, List.getElem?_cons_zero, Option.bind_some, Option.bind, Act.put, List.setIfInBounds_toArray, List.set_cons_succ, List.set_cons_zero] at hA; subst hA
          all_goals have HB1 := Lib.hid hb
          · refine OpOk.now rfl ?_
            clear hb hd
            go_wp2
            exact ⟨_, rfl, Below.refl _ _, rfl, fun h => absurd h (by decide)⟩
          · refine OpOk.now rfl ?_
            have d0 : u 0 = _ := hd 0 (by omega) (by kernel_rfl)
            clear hb hd
            rw [d0]
            clear d0
            go_wp2_with (refine wpl_mid rfl 29 _ rfl w.heap.size 0 rfl 34 #[.int .i64 M.places, .int .i64 M.any.a0, .int .i64 M.any.a1, .int .i64 M.any.a2, .int .i64 M.any.a3, .int .i64 M.any.a4, .int .i64 M.any.a5, .bool M.any.i, .bool M.any.s, .int .i64 M.mw, .int .i64 M.ms, .int .i64 M.mc, vF, vS, .int .i64 lw, .int .i64 ls, .int .i64 lc, .bool li, .bool lb, .slice A n c] #[.int .i64 M.places, .int .i64 M.any.a0, .int .i64 M.any.a1, .int .i64 M.any.a2, .int .i64 M.any.a3, .int .i64 M.any.a4, .int .i64 M.any.a5, .bool M.any.i, .bool M.any.s, .int .i64 M.mw, .int .i64 M.ms, .int .i64 M.mc, vF, vS] 14 (HX.out.below HB1.out) Tryz.rowMet [] [.int .i64 lw, .int .i64 ls, .int .i64 lc, .bool li, .bool lb, .slice A n c] rfl rfl rfl ?_; simp only [Act.put])
            exact ⟨_, rfl, Below.refl _ _, rfl, fun h => absurd h (by decide)⟩
          · refine OpOk.now rfl ?_
            have d1 : u 1 = _ := hd 1 (by omega) (by kernel_rfl)
            clear hb hd
            rw [d1]
            clear d1
            go_wp2_with (go_at_call 13; (with_reducible refine (wCopyT_c M _ _ _ ((HM.out.below HB.out).below HB1.out) HFR.out).mono ?_); rintro e w2 ⟨v, rfl, ho, hb2⟩)
            exact ⟨_, rfl, hb2, ho, fun h => absurd h (by decide)⟩
          · refine OpOk.now rfl ?_
            clear hb hd
            go_wp2
            exact ⟨_, rfl, Below.refl _ _, rfl, fun h => absurd h (by decide)⟩
          · refine OpOk.now rfl ?_
            have d3 : u 3 = _ := hd 3 (by omega) (by kernel_rfl)
            clear hb hd
            rw [d3]
            clear d3
            have k0 := (HH.out.below HB1.out).cell 0
            go_wp2
            exact ⟨_, rfl, Below.refl _ _, rfl, fun h => absurd h (by decide)⟩
          · refine OpOk.now rfl ?_
            clear hb hd
            go_wp2
            exact ⟨_, rfl, Below.refl _ _, rfl, fun h => absurd h (by decide)⟩
          · refine OpOk.now rfl ?_
            clear hb hd
            go_wp2
            exact ⟨_, rfl, bal (RowKit.Below.refl _ _) _, ⟨_, rfl, Blk.new _ _ _⟩, fun h => absurd h (by decide)⟩
          · refine OpOk.now rfl ?_
            clear hb hd
            go_wp2
            exact ⟨_, rfl, Below.refl _ _, rfl, fun h => absurd h (by decide)⟩
          · refine OpOk.now rfl ?_
            have d7 : u 7 = _ := hd 7 (by omega) (by kernel_rfl)
            clear hb hd
            rw [d7]
            clear d7
            have k1 := (HZ.out.below HB1.out).cell 1
            go_wp2
            exact ⟨_, rfl, Below.refl _ _, rfl, fun h => absurd h (by decide)⟩
          · refine OpOk.now rfl ?_
            have d2 := hd 2 (by omega) (by kernel_rfl)
            have d6 := hd 6 (by omega) (by kernel_rfl)
            have d8 : u 8 = _ := hd 8 (by omega) (by kernel_rfl)
            clear hb hd
            rw [d8]
            clear d8
            obtain ⟨g, dg, d1⟩ := d6
            rw [dg]
            clear dg
            refine wpl_cpw rfl (.tmp 143) (.tmp 145) Tryz.weU Tryz.weI (by omega) (weV_one G H) rfl g rfl d1 AW nW cW rfl ((HWS.out.below HB.out).below HB1.out) (by omega) ?_
            intro v' w' hq hbl
            exact ⟨v', rfl, hbl.out, (by obtain ⟨A', c', e, -, -, h, -⟩ := hq.out; exact ⟨A', c', e, h⟩), fun h => absurd h (by decide)⟩
          · refine OpOk.now rfl ?_
            have d2 := hd 2 (by omega) (by kernel_rfl)
            have d4 : u 4 = _ := hd 4 (by omega) (by kernel_rfl)
            have d5 : u 5 = _ := hd 5 (by omega) (by kernel_rfl)
            have d9 := hd 9 (by omega) (by kernel_rfl)
            clear hb hd
            rw [d4, d5]
            clear d4 d5
            obtain ⟨vF2, vS2, e2, r2⟩ := d2
            obtain ⟨A', c', e9, r9⟩ := d9
            rw [e2, e9]
            clear e2 e9
            go_wp2_with (go_at_call 15; (with_reducible refine (HRC.out _ _ _ _ _ r2 r9).mono ?_); rintro e w2 ⟨rfl, hb2⟩)
            exact ⟨_, rfl, hb2, rfl, fun h => absurd h (by decide)⟩
          · refine OpOk.now rfl ?_
            have d10 : u 10 = _ := hd 10 (by omega) (by kernel_rfl)
            clear hb hd
            rw [d10]
            clear d10
            go_wp2
            exact ⟨_, rfl, Below.refl _ _, rfl, fun h => absurd h (by decide)⟩
          · refine OpOk.now rfl ?_
            have d11 : u 11 = _ := hd 11 (by omega) (by kernel_rfl)
            clear hb hd
            rw [d11]
            clear d11
            go_wp2
            exact ⟨_, rfl, Below.refl _ _, rfl, fun h => absurd h (by decide)⟩
          · have d11 : u 11 = _ := hd 11 (by omega) (by kernel_rfl)
            clear hb hd
            rw [d11]
            clear d11
            refine OpOk.late rfl ?_
            exact ⟨_, yields_extract rfl _ _ rfl _ rfl _ rfl, rfl⟩
          · have d11 : u 11 = _ := hd 11 (by omega) (by kernel_rfl)
            clear hb hd
            rw [d11]
            clear d11
            refine OpOk.late rfl ?_
            exact ⟨_, yields_extract rfl _ _ rfl _ rfl _ rfl, rfl⟩
        case htail3 =>
          intro u A w1 hA hb hd hf
          simp only [putAll, dstOf, List.getElem?_toArray, List.getElem?_cons_succ, List.getElem?_cons_zero, Option.bind_some, Option.bind, Act.put, List.setIfInBounds_toArray, List.set_cons_succ, List.set_cons_zero] at hA; subst hA
          have e0 : u 0 = _ := hd 0 (by omega)
          have e1 : u 1 = _ := hd 1 (by omega)
          have p2 := hd 2 (by omega)
          have e3 : u 3 = _ := hd 3 (by omega)
          have e4 : u 4 = _ := hd 4 (by omega)
          have e5 : u 5 = _ := hd 5 (by omega)
          have p6 := hd 6 (by omega)
          have e7 : u 7 = _ := hd 7 (by omega)
          have e8 : u 8 = _ := hd 8 (by omega)
          have p9 := hd 9 (by omega)
          have e10 : u 10 = _ := hd 10 (by omega)
          have e11 : u 11 = _ := hd 11 (by omega)
          have e12 : u 12 = _ := hd 12 (by omega)
          have e13 : u 13 = _ := hd 13 (by omega)
          have e14 : u 14 = _ := hd 14 (by omega)
          first | rw [e0, e1, e3, e4, e5, e7, e8, e10, e11, e12, e13, e14] | simp only [e0, e1, e3, e4, e5, e7, e8, e10, e11, e12, e13, e14]
          clear e0 e1 e3 e4 e5 e7 e8 e10 e11 e12 e13 e14
          clear hd hf
          clear p2 p6 p9
          go_wp2_with (fail)
          dsimp only [NoPanic]
          have hbF := hb
          clear hb
          have nHX := Lib.hid (HX.out.below hbF)
          have nHY := Lib.hid (HY.out.below hbF)
          have nHZ := Lib.hid (HZ.out.below hbF)
          have nHH := Lib.hid (HH.out.below hbF)
          have nHB := Lib.hid (bthen HB.out hbF)
          clear HX HY HZ HH HB hbF
          have HX := nHX
          have HY := nHY
          have HZ := nHZ
          have HH := nHH
          have HB := nHB
          clear nHX nHY nHZ nHH nHB
          have zHH := HH.out.lt
          have cHH0 := HH.out.cell 0
          have cHH1 := HH.out.cell 1
          have zHZ := HZ.out.lt
          have cHZ0 := HZ.out.cell 0
          have cHZ1 := HZ.out.cell 1
          simp only [List.getElem?_toArray, List.getElem?_cons_succ, List.getElem?_cons_zero] at cHH0 cHH1 cHZ0 cHZ1
          by_cases e1 : RE = 0
          case neg =>
            have e1z : (RE != 0) = true := by simpa using e1
            clear e1
            go_wp2_with (first | (go_at_call 11; refine (measures_c _).mono ?_; rintro _ w9 ⟨rfl, hb9⟩; have HB9 := Lib.hid (bthen HB.out hb9); clear hb9))
            go_ret
            exact ⟨rfl, HB9.out⟩
          subst e1
          cases R2
          case false =>
            go_wp2_with (first | (go_at_call 11; refine (measures_c _).mono ?_; rintro _ w9 ⟨rfl, hb9⟩; have HB9 := Lib.hid (bthen HB.out hb9); clear hb9))
            go_ret
            exact ⟨rfl, HB9.out⟩
          by_cases hin : (nW : Int) ≤ xt - fr
          case pos =>
            go_wp2_with (first | (go_at_call 11; refine (measures_c _).mono ?_; rintro _ w9 ⟨rfl, hb9⟩; have HB9 := Lib.hid (bthen HB.out hb9); clear hb9))
            go_ret
            exact ⟨rfl, HB9.out⟩
          have hfly := HRF.out rfl rfl (by omega)
          obtain ⟨k, hk⟩ : ∃ k : Nat, xt - fr = (k : Int) := ⟨(xt - fr).toNat, by omega⟩
          rw [show (xt - fr).toNat = k by omega] at hfly
          have hkn : k < nW := by omega
          have hcw := HWS.out
          obtain ⟨bw, off, rfl, hbw, hcell⟩ := hcw (by omega)
          have hfl := fun w1 => rw_Flyable_c (G k 0) (G k 1) (G k 2) (H k 3) (H k 4) lw ls lc li lb w1
          rw [hfly] at hfl
          have HFL := Lib.hid hfl
          have HCE := Lib.hid (fun j hj => hcell k hkn j hj)
          have HKK := Lib.hid hk
          clear hfly hfl hcell hcw
          go_wp2_with (fail)
          clear cHH0 cHH1 cHZ0 cHZ1
          refine wp_region_spec 11 (th17R w1.heap.size w.heap.size g13 (.slice (some ⟨bw, off, none⟩) nW cW) (.agg #[.int .i64 (G k 0), .int .i64 (G k 1), .int .i64 (G k 2), .bool (H k 3), .bool (H k 4)]) (.agg #[.int .i64 lw, .int .i64 ls, .int .i64 lc, .bool li, .bool lb]) (.pointer (some ⟨bw, off + k * 5, none⟩)) xt fr (k : Int) true) (fun i => false) (by kernel_rfl) (by kernel_rfl) th17R_below ?hop4 ?htail4
          case hop4 =>
            simp only [List.take_succ_cons, List.take_zero, allOps]
            refine ⟨?_, ?_, ?_, ?_, ?_, ?_, ?_, ?_, ?_, ?_, ?_, trivial⟩
            all_goals intro u A w1 hA hb hd
            all_goals simp only [putAll, dstOf, List.getElem?_toArray, List.getElem?_cons_succ, List.getElem?_cons_zero, Option.bind_some, Option.bind, Act.put, List.setIfInBounds_toArray, List.set_cons_succ, List.set_cons_zero] at hA; subst hA
            all_goals have HB1 := Lib.hid hb
            · clear hb hd
              go_wp2
              exact ⟨_, rfl, Below.refl _ _, rfl, fun h => absurd h (by decide)⟩
            · have d0 : u 0 = _ := hd 0 (by omega) (by kernel_rfl)
              clear hb hd
              rw [d0]
              clear d0
              have k1 := (HZ.out.below HB1.out).cell 1
              go_wp2
              exact ⟨_, rfl, Below.refl _ _, rfl, fun h => absurd h (by decide)⟩
            · clear hb hd
              go_wp2
              exact ⟨_, rfl, Below.refl _ _, rfl, fun h => absurd h (by decide)⟩
            · have d2 : u 2 = _ := hd 2 (by omega) (by kernel_rfl)
              clear hb hd
              rw [d2]
              clear d2
              have k1 := (HH.out.below HB1.out).cell 1
              go_wp2
              exact ⟨_, rfl, Below.refl _ _, rfl, fun h => absurd h (by decide)⟩
            · clear hb hd
              go_wp2
              exact ⟨_, rfl, Below.refl _ _, rfl, fun h => absurd h (by decide)⟩
            · have d3 : u 3 = _ := hd 3 (by omega) (by kernel_rfl)
              have d4 : u 4 = _ := hd 4 (by omega) (by kernel_rfl)
              clear hb hd
              rw [d3, d4]
              clear d3 d4
              go_wp2
              exact ⟨_, rfl, Below.refl _ _, rfl, fun h => absurd h (by decide)⟩
            · have d1 : u 1 = _ := hd 1 (by omega) (by kernel_rfl)
              have d5 : u 5 = _ := hd 5 (by omega) (by kernel_rfl)
              clear hb hd
              rw [d1, d5]
              clear d1 d5
              have hkz : (k : Int) < (nW : Int) := by omega
              go_wp2
              exact ⟨_, rfl, Below.refl _ _, rfl, fun h => absurd h (by decide)⟩
            · have d6 : u 6 = _ := hd 6 (by omega) (by kernel_rfl)
              clear hb hd
              rw [d6]
              clear d6
              have c0 := ((bthen HB.out HB1.out).cell (p := ⟨bw, off + k * 5 + 0, none⟩) hbw).trans (HCE.out 0 (by omega))
              have c1 := ((bthen HB.out HB1.out).cell (p := ⟨bw, off + k * 5 + 1, none⟩) hbw).trans (HCE.out 1 (by omega))
              have c2 := ((bthen HB.out HB1.out).cell (p := ⟨bw, off + k * 5 + 2, none⟩) hbw).trans (HCE.out 2 (by omega))
              have c3 := ((bthen HB.out HB1.out).cell (p := ⟨bw, off + k * 5 + 3, none⟩) hbw).trans (HCE.out 3 (by omega))
              have c4 := ((bthen HB.out HB1.out).cell (p := ⟨bw, off + k * 5 + 4, none⟩) hbw).trans (HCE.out 4 (by omega))
              simp only [Nat.add_zero, weV] at c0 c1 c2 c3 c4
              go_wp2
              exact ⟨_, rfl, Below.refl _ _, rfl, fun h => absurd h (by decide)⟩
            · clear hb hd
              go_wp2
              exact ⟨_, rfl, Below.refl _ _, rfl, fun h => absurd h (by decide)⟩
            · have d8 : u 8 = _ := hd 8 (by omega) (by kernel_rfl)
              clear hb hd
              rw [d8]
              clear d8
              go_wp2_with (refine wpl_mid rfl 31 _ rfl w.heap.size 14 rfl 34 #[.int .i64 M.places, .int .i64 M.any.a0, .int .i64 M.any.a1, .int .i64 M.any.a2, .int .i64 M.any.a3, .int .i64 M.any.a4, .int .i64 M.any.a5, .bool M.any.i, .bool M.any.s, .int .i64 M.mw, .int .i64 M.ms, .int .i64 M.mc, vF, vS, .int .i64 lw, .int .i64 ls, .int .i64 lc, .bool li, .bool lb, .slice A n c] #[.int .i64 lw, .int .i64 ls, .int .i64 lc, .bool li, .bool lb] 5 (HX.out.below HB1.out) Tryz.rowMin [.int .i64 M.places, .int .i64 M.any.a0, .int .i64 M.any.a1, .int .i64 M.any.a2, .int .i64 M.any.a3, .int .i64 M.any.a4, .int .i64 M.any.a5, .bool M.any.i, .bool M.any.s, .int .i64 M.mw, .int .i64 M.ms, .int .i64 M.mc, vF, vS] [.slice A n c] rfl rfl rfl ?_; simp only [Act.put])
              exact ⟨_, rfl, Below.refl _ _, rfl, fun h => absurd h (by decide)⟩
            · have d7 : u 7 = _ := hd 7 (by omega) (by kernel_rfl)
              have d9 : u 9 = _ := hd 9 (by omega) (by kernel_rfl)
              clear hb hd
              rw [d7, d9]
              clear d7 d9
              go_wp2_with (go_at_call 16; (with_reducible refine (HFL.out _).mono ?_); rintro e w2 ⟨rfl, hb2⟩)
              exact ⟨_, rfl, hb2, rfl, fun h => absurd h (by decide)⟩
          case htail4 =>
            intro u A w1 hA hb hd hf
            simp only [putAll, dstOf, List.getElem?_toArray, List.getElem?_cons_succ, List.getElem?_cons_zero, Option.bind_some, Option.bind, Act.put, List.setIfInBounds_toArray, List.set_cons_succ, List.set_cons_zero] at hA; subst hA
            have e0 : u 0 = _ := hd 0 (by omega)
            have e1 : u 1 = _ := hd 1 (by omega)
            have e2 : u 2 = _ := hd 2 (by omega)
            have e3 : u 3 = _ := hd 3 (by omega)
            have e4 : u 4 = _ := hd 4 (by omega)
            have e5 : u 5 = _ := hd 5 (by omega)
            have e6 : u 6 = _ := hd 6 (by omega)
            have e7 : u 7 = _ := hd 7 (by omega)
            have e8 : u 8 = _ := hd 8 (by omega)
            have e9 : u 9 = _ := hd 9 (by omega)
            have e10 : u 10 = _ := hd 10 (by omega)
            first | rw [e0, e1, e2, e3, e4, e5, e6, e7, e8, e9, e10] | simp only [e0, e1, e2, e3, e4, e5, e6, e7, e8, e9, e10]
            clear e0 e1 e2 e3 e4 e5 e6 e7 e8 e9 e10
            clear hd hf
            have hbG := hb
            clear hb
            have nHX := Lib.hid (HX.out.below hbG)
            have nHY := Lib.hid (HY.out.below hbG)
            have nHZ := Lib.hid (HZ.out.below hbG)
            have nHH := Lib.hid (HH.out.below hbG)
            have nHB := Lib.hid (bthen HB.out hbG)
            clear HX HY HZ HH HB hbG
            have HX := nHX
            have HY := nHY
            have HZ := nHZ
            have HH := nHH
            have HB := nHB
            clear nHX nHY nHZ nHH nHB
            go_wp2_with (first | (go_at_call 11; refine (measures_c _).mono ?_; rintro _ w9 ⟨rfl, hb9⟩; have HB9 := Lib.hid (bthen HB.out hb9); clear hb9))
            go_ret
            exact ⟨rfl, HB9.out⟩
    case neg =>
      have zHY := HY.out.lt
      have cHY1 := HY.out.cell 1
      have cHY2 := HY.out.cell 2
      have cHY3 := HY.out.cell 3
      have cHY4 := HY.out.cell 4
      have zHH := HH.out.lt
      have cHH0 := HH.out.cell 0
      have cHH1 := HH.out.cell 1
      have zHZ := HZ.out.lt
      have cHZ0 := HZ.out.cell 0
      have cHZ1 := HZ.out.cell 1
      simp only [List.getElem?_toArray, List.getElem?_cons_succ, List.getElem?_cons_zero] at cHY1 cHY2 cHY3 cHY4 cHH0 cHH1 cHZ0 cHZ1
      go_wp2_with (fail)
      clear cHY1 cHY2 cHY3 cHY4 cHH0 cHH1 cHZ0 cHZ1
      have zHH := HH.out.lt
      have cHH0 := HH.out.cell 0
      have cHH1 := HH.out.cell 1
      have zHZ := HZ.out.lt
      have cHZ0 := HZ.out.cell 0
      have cHZ1 := HZ.out.cell 1
      simp only [List.getElem?_toArray, List.getElem?_cons_succ, List.getElem?_cons_zero] at cHH0 cHH1 cHZ0 cHZ1
      go_wp2_with (fail)
      clear cHH0 cHH1 cHZ0 cHZ1
      obtain ⟨fr, hfr⟩ : ∃ fr, fr = max 0 (xt - (nW : Int) / 2) := ⟨_, rfl⟩
      rw [← hfr]
      have hf0 : 0 ≤ fr := by omega
      have hf1 : fr ≤ xt := by omega
      have hrl := fun w1 vF vS A' c' h hl => Real_c M vF vS (xp : Int) fr A' nW c' G H w1 h (by omega) hl
      have hrf := fun (h1 : realE M (xp : Int) fr nW G = 0) h2 h3 => real_fly (G := G) (H := H) (n := nW) HOV.out h1 h2 hf1 h3
      obtain ⟨RE, hRE⟩ : ∃ q, q = realE M (xp : Int) fr nW G := ⟨_, rfl⟩
      obtain ⟨RR, hRV⟩ : ∃ q, q = realV M (xp : Int) fr nW G H := ⟨_, rfl⟩
      rw [← hRE, ← hRV] at hrl
      rw [← hRE, ← hRV] at hrf
      obtain ⟨R1, R2⟩ := RR
      dsimp only at hrl hrf
      have HRC := Lib.hid hrl
      have HRF := Lib.hid hrf
      clear hfr hrl hrf hRE hRV
      refine wp_region_specL 15 [13, 14] (th14R w5.heap.size w.heap.size g13 M (.agg #[.int .i64 M.places, .int .i64 M.any.a0, .int .i64 M.any.a1, .int .i64 M.any.a2, .int .i64 M.any.a3, .int .i64 M.any.a4, .int .i64 M.any.a5, .bool M.any.i, .bool M.any.s, .int .i64 M.mw, .int .i64 M.ms, .int .i64 M.mc, vF, vS]) (.slice AW nW cW) (xp : Int) fr nW G H R1 R2 RE) (fun i => false) (by kernel_rfl) (by kernel_rfl) (by decide) th14R_below ?hop5 ?htail5
      case hop5 =>
        simp only [List.take_succ_cons, List.take_zero, allOps]
        refine ⟨?_, ?_, ?_, ?_, ?_, ?_, ?_, ?_, ?_, ?_, ?_, ?_, ?_, ?_, ?_, trivial⟩
        all_goals intro u A w1 hA hb hd
        all_goals simp only [putAll, dstOf, List.getElem?_toArray, List.getElem?_cons_succ, List.getElem?_cons_zero, Option.bind_some, Option.bind, Act.put, List.setIfInBounds_toArray, List.set_cons_succ, List.set_cons_zero] at hA; subst hA
        all_goals have HB1 := Lib.hid hb
        · refine OpOk.now rfl ?_
          clear hb hd
          go_wp2
          exact ⟨_, rfl, Below.refl _ _, rfl, fun h => absurd h (by decide)⟩
        · refine OpOk.now rfl ?_
          have d0 : u 0 = _ := hd 0 (by omega) (by kernel_rfl)
          clear hb hd
          rw [d0]
          clear d0
          go_wp2_with (refine wpl_mid rfl 29 _ rfl w.heap.size 0 rfl 34 #[.int .i64 M.places, .int .i64 M.any.a0, .int .i64 M.any.a1, .int .i64 M.any.a2, .int .i64 M.any.a3, .int .i64 M.any.a4, .int .i64 M.any.a5, .bool M.any.i, .bool M.any.s, .int .i64 M.mw, .int .i64 M.ms, .int .i64 M.mc, vF, vS, .int .i64 lw, .int .i64 ls, .int .i64 lc, .bool li, .bool lb, .slice A n c] #[.int .i64 M.places, .int .i64 M.any.a0, .int .i64 M.any.a1, .int .i64 M.any.a2, .int .i64 M.any.a3, .int .i64 M.any.a4, .int .i64 M.any.a5, .bool M.any.i, .bool M.any.s, .int .i64 M.mw, .int .i64 M.ms, .int .i64 M.mc, vF, vS] 14 (HX.out.below HB1.out) Tryz.rowMet [] [.int .i64 lw, .int .i64 ls, .int .i64 lc, .bool li, .bool lb, .slice A n c] rfl rfl rfl ?_; simp only [Act.put])
          exact ⟨_, rfl, Below.refl _ _, rfl, fun h => absurd h (by decide)⟩
        · refine OpOk.now rfl ?_
          have d1 : u 1 = _ := hd 1 (by omega) (by kernel_rfl)
          clear hb hd
          rw [d1]
          clear d1
          go_wp2_with (go_at_call 13; (with_reducible refine (wCopyT_c M _ _ _ ((HM.out.below HB.out).below HB1.out) HFR.out).mono ?_); rintro e w2 ⟨v, rfl, ho, hb2⟩)
          exact ⟨_, rfl, hb2, ho, fun h => absurd h (by decide)⟩
        · refine OpOk.now rfl ?_
          clear hb hd
          go_wp2
          exact ⟨_, rfl, Below.refl _ _, rfl, fun h => absurd h (by decide)⟩
        · refine OpOk.now rfl ?_
          have d3 : u 3 = _ := hd 3 (by omega) (by kernel_rfl)
          clear hb hd
          rw [d3]
          clear d3
          have k0 := (HH.out.below HB1.out).cell 0
          go_wp2
          exact ⟨_, rfl, Below.refl _ _, rfl, fun h => absurd h (by decide)⟩
        · refine OpOk.now rfl ?_
          clear hb hd
          go_wp2
          exact ⟨_, rfl, Below.refl _ _, rfl, fun h => absurd h (by decide)⟩
        · refine OpOk.now rfl ?_
          clear hb hd
          go_wp2
          exact ⟨_, rfl, bal (RowKit.Below.refl _ _) _, ⟨_, rfl, Blk.new _ _ _⟩, fun h => absurd h (by decide)⟩
        · refine OpOk.now rfl ?_
          clear hb hd
          go_wp2
          exact ⟨_, rfl, Below.refl _ _, rfl, fun h => absurd h (by decide)⟩
        · refine OpOk.now rfl ?_
          have d7 : u 7 = _ := hd 7 (by omega) (by kernel_rfl)
          clear hb hd
          rw [d7]
          clear d7
          have k1 := (HZ.out.below HB1.out).cell 1
          go_wp2
          exact ⟨_, rfl, Below.refl _ _, rfl, fun h => absurd h (by decide)⟩
        · refine OpOk.now rfl ?_
          have d2 := hd 2 (by omega) (by kernel_rfl)
          have d6 := hd 6 (by omega) (by kernel_rfl)
          have d8 : u 8 = _ := hd 8 (by omega) (by kernel_rfl)
          clear hb hd
          rw [d8]
          clear d8
          obtain ⟨g, dg, d1⟩ := d6
          rw [dg]
          clear dg
          refine wpl_cpw rfl (.tmp 143) (.tmp 145) Tryz.weU Tryz.weI (by omega) (weV_one G H) rfl g rfl d1 AW nW cW rfl ((HWS.out.below HB.out).below HB1.out) (by omega) ?_
          intro v' w' hq hbl
          exact ⟨v', rfl, hbl.out, (by obtain ⟨A', c', e, -, -, h, -⟩ := hq.out; exact ⟨A', c', e, h⟩), fun h => absurd h (by decide)⟩
        · refine OpOk.now rfl ?_
          have d2 := hd 2 (by omega) (by kernel_rfl)
          have d4 : u 4 = _ := hd 4 (by omega) (by kernel_rfl)
          have d5 : u 5 = _ := hd 5 (by omega) (by kernel_rfl)
          have d9 := hd 9 (by omega) (by kernel_rfl)
          clear hb hd
          rw [d4, d5]
          clear d4 d5
          obtain ⟨vF2, vS2, e2, r2⟩ := d2
          obtain ⟨A', c', e9, r9⟩ := d9
          rw [e2, e9]
          clear e2 e9
          go_wp2_with (go_at_call 15; (with_reducible refine (HRC.out _ _ _ _ _ r2 r9).mono ?_); rintro e w2 ⟨rfl, hb2⟩)
          exact ⟨_, rfl, hb2, rfl, fun h => absurd h (by decide)⟩
        · refine OpOk.now rfl ?_
          have d10 : u 10 = _ := hd 10 (by omega) (by kernel_rfl)
          clear hb hd
          rw [d10]
          clear d10
          go_wp2
          exact ⟨_, rfl, Below.refl _ _, rfl, fun h => absurd h (by decide)⟩
        · refine OpOk.now rfl ?_
          have d11 : u 11 = _ := hd 11 (by omega) (by kernel_rfl)
          clear hb hd
          rw [d11]
          clear d11
          go_wp2
          exact ⟨_, rfl, Below.refl _ _, rfl, fun h => absurd h (by decide)⟩
        · have d11 : u 11 = _ := hd 11 (by omega) (by kernel_rfl)
          clear hb hd
          rw [d11]
          clear d11
          refine OpOk.late rfl ?_
          exact ⟨_, yields_extract rfl _ _ rfl _ rfl _ rfl, rfl⟩
        · have d11 : u 11 = _ := hd 11 (by omega) (by kernel_rfl)
          clear hb hd
          rw [d11]
          clear d11
          refine OpOk.late rfl ?_
          exact ⟨_, yields_extract rfl _ _ rfl _ rfl _ rfl, rfl⟩
      case htail5 =>
        intro u A w1 hA hb hd hf
        simp only [putAll, dstOf, List.getElem?_toArray, List.getElem?_cons_succ, List.getElem?_cons_zero, Option.bind_some, Option.bind, Act.put, List.setIfInBounds_toArray, List.set_cons_succ, List.set_cons_zero] at hA; subst hA
        have e0 : u 0 = _ := hd 0 (by omega)
        have e1 : u 1 = _ := hd 1 (by omega)
        have p2 := hd 2 (by omega)
        have e3 : u 3 = _ := hd 3 (by omega)
        have e4 : u 4 = _ := hd 4 (by omega)
        have e5 : u 5 = _ := hd 5 (by omega)
        have p6 := hd 6 (by omega)
        have e7 : u 7 = _ := hd 7 (by omega)
        have e8 : u 8 = _ := hd 8 (by omega)
        have p9 := hd 9 (by omega)
        have e10 : u 10 = _ := hd 10 (by omega)
        have e11 : u 11 = _ := hd 11 (by omega)
        have e12 : u 12 = _ := hd 12 (by omega)
        have e13 : u 13 = _ := hd 13 (by omega)
        have e14 : u 14 = _ := hd 14 (by omega)
        first | rw [e0, e1, e3, e4, e5, e7, e8, e10, e11, e12, e13, e14] | simp only [e0, e1, e3, e4, e5, e7, e8, e10, e11, e12, e13, e14]
        clear e0 e1 e3 e4 e5 e7 e8 e10 e11 e12 e13 e14
        clear hd hf
        clear p2 p6 p9
        go_wp2_with (fail)
        dsimp only [NoPanic]
        have hbF := hb
        clear hb
        have nHX := Lib.hid (HX.out.below hbF)
        have nHY := Lib.hid (HY.out.below hbF)
        have nHZ := Lib.hid (HZ.out.below hbF)
        have nHH := Lib.hid (HH.out.below hbF)
        have nHB := Lib.hid (bthen HB.out hbF)
        clear HX HY HZ HH HB hbF
        have HX := nHX
        have HY := nHY
        have HZ := nHZ
        have HH := nHH
        have HB := nHB
        clear nHX nHY nHZ nHH nHB
        have zHH := HH.out.lt
        have cHH0 := HH.out.cell 0
        have cHH1 := HH.out.cell 1
        have zHZ := HZ.out.lt
        have cHZ0 := HZ.out.cell 0
        have cHZ1 := HZ.out.cell 1
        simp only [List.getElem?_toArray, List.getElem?_cons_succ, List.getElem?_cons_zero] at cHH0 cHH1 cHZ0 cHZ1
        by_cases e1 : RE = 0
        case neg =>
          have e1z : (RE != 0) = true := by simpa using e1
          clear e1
          go_wp2_with (first | (go_at_call 11; refine (measures_c _).mono ?_; rintro _ w9 ⟨rfl, hb9⟩; have HB9 := Lib.hid (bthen HB.out hb9); clear hb9))
          go_ret
          exact ⟨rfl, HB9.out⟩
        subst e1
        cases R2
        case false =>
          go_wp2_with (first | (go_at_call 11; refine (measures_c _).mono ?_; rintro _ w9 ⟨rfl, hb9⟩; have HB9 := Lib.hid (bthen HB.out hb9); clear hb9))
          go_ret
          exact ⟨rfl, HB9.out⟩
        by_cases hin : (nW : Int) ≤ xt - fr
        case pos =>
          go_wp2_with (first | (go_at_call 11; refine (measures_c _).mono ?_; rintro _ w9 ⟨rfl, hb9⟩; have HB9 := Lib.hid (bthen HB.out hb9); clear hb9))
          go_ret
          exact ⟨rfl, HB9.out⟩
        have hfly := HRF.out rfl rfl (by omega)
        obtain ⟨k, hk⟩ : ∃ k : Nat, xt - fr = (k : Int) := ⟨(xt - fr).toNat, by omega⟩
        rw [show (xt - fr).toNat = k by omega] at hfly
        have hkn : k < nW := by omega
        have hcw := HWS.out
        obtain ⟨bw, off, rfl, hbw, hcell⟩ := hcw (by omega)
        have hfl := fun w1 => rw_Flyable_c (G k 0) (G k 1) (G k 2) (H k 3) (H k 4) lw ls lc li lb w1
        rw [hfly] at hfl
        have HFL := Lib.hid hfl
        have HCE := Lib.hid (fun j hj => hcell k hkn j hj)
        have HKK := Lib.hid hk
        clear hfly hfl hcell hcw
        go_wp2_with (fail)
        clear cHH0 cHH1 cHZ0 cHZ1
        refine wp_region_spec 11 (th17R w1.heap.size w.heap.size g13 (.slice (some ⟨bw, off, none⟩) nW cW) (.agg #[.int .i64 (G k 0), .int .i64 (G k 1), .int .i64 (G k 2), .bool (H k 3), .bool (H k 4)]) (.agg #[.int .i64 lw, .int .i64 ls, .int .i64 lc, .bool li, .bool lb]) (.pointer (some ⟨bw, off + k * 5, none⟩)) xt fr (k : Int) true) (fun i => false) (by kernel_rfl) (by kernel_rfl) th17R_below ?hop6 ?htail6
        case hop6 =>
          simp only [List.take_succ_cons, List.take_zero, allOps]
          refine ⟨?_, ?_, ?_, ?_, ?_, ?_, ?_, ?_, ?_, ?_, ?_, trivial⟩
          all_goals intro u A w1 hA hb hd
          all_goals simp only [putAll, dstOf, List.getElem?_toArray, List.getElem?_cons_succ, List.getElem?_cons_zero, Option.bind_some, Option.bind, Act.put, List.setIfInBounds_toArray, List.set_cons_succ, List.set_cons_zero] at hA; subst hA
          all_goals have HB1 := Lib.hid hb
          · clear hb hd
            go_wp2
            exact ⟨_, rfl, Below.refl _ _, rfl, fun h => absurd h (by decide)⟩
          · have d0 : u 0 = _ := hd 0 (by omega) (by kernel_rfl)
            clear hb hd
            rw [d0]
            clear d0
            have k1 := (HZ.out.below HB1.out).cell 1
            go_wp2
            exact ⟨_, rfl, Below.refl _ _, rfl, fun h => absurd h (by decide)⟩
          · clear hb hd
            go_wp2
            exact ⟨_, rfl, Below.refl _ _, rfl, fun h => absurd h (by decide)⟩
          · have d2 : u 2 = _ := hd 2 (by omega) (by kernel_rfl)
            clear hb hd
            rw [d2]
            clear d2
            have k1 := (HH.out.below HB1.out).cell 1
            go_wp2
            exact ⟨_, rfl, Below.refl _ _, rfl, fun h => absurd h (by decide)⟩
          · clear hb hd
            go_wp2
            exact ⟨_, rfl, Below.refl _ _, rfl, fun h => absurd h (by decide)⟩
          · have d3 : u 3 = _ := hd 3 (by omega) (by kernel_rfl)
            have d4 : u 4 = _ := hd 4 (by omega) (by kernel_rfl)
            clear hb hd
            rw [d3, d4]
            clear d3 d4
            go_wp2
            exact ⟨_, rfl, Below.refl _ _, rfl, fun h => absurd h (by decide)⟩
          · have d1 : u 1 = _ := hd 1 (by omega) (by kernel_rfl)
            have d5 : u 5 = _ := hd 5 (by omega) (by kernel_rfl)
            clear hb hd
            rw [d1, d5]
            clear d1 d5
            have hkz : (k : Int) < (nW : Int) := by omega
            go_wp2
            exact ⟨_, rfl, Below.refl _ _, rfl, fun h => absurd h (by decide)⟩
          · have d6 : u 6 = _ := hd 6 (by omega) (by kernel_rfl)
            clear hb hd
            rw [d6]
            clear d6
            have c0 := ((bthen HB.out HB1.out).cell (p := ⟨bw, off + k * 5 + 0, none⟩) hbw).trans (HCE.out 0 (by omega))
            have c1 := ((bthen HB.out HB1.out).cell (p := ⟨bw, off + k * 5 + 1, none⟩) hbw).trans (HCE.out 1 (by omega))
            have c2 := ((bthen HB.out HB1.out).cell (p := ⟨bw, off + k * 5 + 2, none⟩) hbw).trans (HCE.out 2 (by omega))
            have c3 := ((bthen HB.out HB1.out).cell (p := ⟨bw, off + k * 5 + 3, none⟩) hbw).trans (HCE.out 3 (by omega))
            have c4 := ((bthen HB.out HB1.out).cell (p := ⟨bw, off + k * 5 + 4, none⟩) hbw).trans (HCE.out 4 (by omega))
            simp only [Nat.add_zero, weV] at c0 c1 c2 c3 c4
            go_wp2
            exact ⟨_, rfl, Below.refl _ _, rfl, fun h => absurd h (by decide)⟩
          · clear hb hd
            go_wp2
            exact ⟨_, rfl, Below.refl _ _, rfl, fun h => absurd h (by decide)⟩
          · have d8 : u 8 = _ := hd 8 (by omega) (by kernel_rfl)
            clear hb hd
            rw [d8]
            clear d8
            go_wp2_with (refine wpl_mid rfl 31 _ rfl w.heap.size 14 rfl 34 #[.int .i64 M.places, .int .i64 M.any.a0, .int .i64 M.any.a1, .int .i64 M.any.a2, .int .i64 M.any.a3, .int .i64 M.any.a4, .int .i64 M.any.a5, .bool M.any.i, .bool M.any.s, .int .i64 M.mw, .int .i64 M.ms, .int .i64 M.mc, vF, vS, .int .i64 lw, .int .i64 ls, .int .i64 lc, .bool li, .bool lb, .slice A n c] #[.int .i64 lw, .int .i64 ls, .int .i64 lc, .bool li, .bool lb] 5 (HX.out.below HB1.out) Tryz.rowMin [.int .i64 M.places, .int .i64 M.any.a0, .int .i64 M.any.a1, .int .i64 M.any.a2, .int .i64 M.any.a3, .int .i64 M.any.a4, .int .i64 M.any.a5, .bool M.any.i, .bool M.any.s, .int .i64 M.mw, .int .i64 M.ms, .int .i64 M.mc, vF, vS] [.slice A n c] rfl rfl rfl ?_; simp only [Act.put])
            exact ⟨_, rfl, Below.refl _ _, rfl, fun h => absurd h (by decide)⟩
          · have d7 : u 7 = _ := hd 7 (by omega) (by kernel_rfl)
            have d9 : u 9 = _ := hd 9 (by omega) (by kernel_rfl)
            clear hb hd
            rw [d7, d9]
            clear d7 d9
            go_wp2_with (go_at_call 16; (with_reducible refine (HFL.out _).mono ?_); rintro e w2 ⟨rfl, hb2⟩)
            exact ⟨_, rfl, hb2, rfl, fun h => absurd h (by decide)⟩
        case htail6 =>
          intro u A w1 hA hb hd hf
          simp only [putAll, dstOf, List.getElem?_toArray, List.getElem?_cons_succ, List.getElem?_cons_zero, Option.bind_some, Option.bind, Act.put, List.setIfInBounds_toArray, List.set_cons_succ, List.set_cons_zero] at hA; subst hA
          have e0 : u 0 = _ := hd 0 (by omega)
          have e1 : u 1 = _ := hd 1 (by omega)
          have e2 : u 2 = _ := hd 2 (by omega)
          have e3 : u 3 = _ := hd 3 (by omega)
          have e4 : u 4 = _ := hd 4 (by omega)
          have e5 : u 5 = _ := hd 5 (by omega)
          have e6 : u 6 = _ := hd 6 (by omega)
          have e7 : u 7 = _ := hd 7 (by omega)
          have e8 : u 8 = _ := hd 8 (by omega)
          have e9 : u 9 = _ := hd 9 (by omega)
          have e10 : u 10 = _ := hd 10 (by omega)
          first | rw [e0, e1, e2, e3, e4, e5, e6, e7, e8, e9, e10] | simp only [e0, e1, e2, e3, e4, e5, e6, e7, e8, e9, e10]
          clear e0 e1 e2 e3 e4 e5 e6 e7 e8 e9 e10
          clear hd hf
          have hbG := hb
          clear hb
          have nHX := Lib.hid (HX.out.below hbG)
          have nHY := Lib.hid (HY.out.below hbG)
          have nHZ := Lib.hid (HZ.out.below hbG)
          have nHH := Lib.hid (HH.out.below hbG)
          have nHB := Lib.hid (bthen HB.out hbG)
          clear HX HY HZ HH HB hbG
          have HX := nHX
          have HY := nHY
          have HZ := nHZ
          have HH := nHH
          have HB := nHB
          clear nHX nHY nHZ nHH nHB
          go_wp2_with (first | (go_at_call 11; refine (measures_c _).mono ?_; rintro _ w9 ⟨rfl, hb9⟩; have HB9 := Lib.hid (bthen HB.out hb9); clear hb9))
          go_ret
          exact ⟨rfl, HB9.out⟩
end Go.Proofs.YtonfnhonbnfdoaaGreat
