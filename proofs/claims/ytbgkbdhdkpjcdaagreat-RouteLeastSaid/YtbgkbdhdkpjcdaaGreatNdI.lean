/- Law: RouteLeast. -/
import Derived.Test.YtbgkbdhdkpjcdaaGreatJEA
import Derived.Test.YtbgkbdhdkpjcdaaGreatJBA
import Derived.Test.YtbgkbdhdkpjcdaaGreatJAT
import Derived.Test.YtbgkbdhdkpjcdaaGreatNbH
import Derived.Test.YtbgkbdhdkpjcdaaGreatNbC
set_option linter.all false
namespace Go.Proofs.YtbgkbdhdkpjcdaaGreat
open Go Go.RowKit Go.Proofs
set_option maxRecDepth 100000
set_option maxHeartbeats 8000000
theorem Tryz.sizeMin9 : (Tryz.prog.info? 31).map (·.size) = some 5 := by kernel_rfl
def AnyF (B : Nat) (v : Value) (w : World) : Prop := ∃ (g : Nat) (c : Array Value), v = .pointer (some ⟨g, 0, none⟩) ∧ B ≤ g ∧ c.size = 5 ∧ Blk w g 37 c
theorem fblk_set {w : World} {g : Nat} {t : TypeId} {old cs : Array Value} (h : Blk w g t old) : Blk (w.setRow g cs) g t cs := setRow_heap w g old cs t (0, 0) h
theorem fblk_ne {w : World} {g k : Nat} {t : TypeId} {cs us : Array Value} (h : Blk w k t cs) (hne : k ≠ g) : Blk (w.setRow g us) k t cs := (setRow_other w g k us hne).trans h
theorem AnyF.below {B : Nat} {v : Value} {w w' : World} (h : AnyF B v w) (hb : RowKit.Below w.heap.size w w') : AnyF B v w' := by
  obtain ⟨g, c, h1, h2, h3, h4⟩ := h
  exact ⟨g, c, h1, h2, h3, h4.below hb⟩
theorem AnyF.put {B g : Nat} {v : Value} {w : World} {c : Array Value} (h : AnyF B v w) (hc : c.size = 5) : AnyF B v (w.setRow g c) := by
  obtain ⟨k, d, h1, h2, h3, h4⟩ := h
  by_cases e : k = g
  · subst e; exact ⟨k, c, h1, h2, hc, fblk_set h4⟩
  · exact ⟨k, d, h1, h2, h3, fblk_ne h4 e⟩
def fpR (B : Nat) (cF : Array Value) : Nat → (Nat → Value) → World → Prop
  | 0, u, _ => u 0 = .agg cF
  | 1, u, _ => u 1 = .agg cF
  | 2, u, w => AnyF B (u 2) w
  | 3, u, w => AnyF B (u 3) w
  | 4, u, w => ∃ g : Nat, u 2 = .pointer (some ⟨g, 0, none⟩) ∧ B ≤ g ∧ Blk w g 37 cF
  | _, _, _ => True
def fpG (B : Nat) (i : Nat) (a b : World) : Prop := if i = 4 then ∃ (g : Nat) (c : Array Value), B ≤ g ∧ c.size = 5 ∧ b = a.setRow g c else RowKit.Below a.heap.size a b
theorem fpG_size {B : Nat} (i : Nat) (a b : World) (h : fpG B i a b) : a.heap.size ≤ b.heap.size := by
  unfold fpG at h
  split at h
  · obtain ⟨g, c, -, -, rfl⟩ := h; simp [World.setRow]
  · exact h.size
theorem fpG_J {W : World} (i : Nat) (a b : World) (h : fpG W.heap.size i a b) (j : RowKit.Below W.heap.size W a) : RowKit.Below W.heap.size W b := by
  unfold fpG at h
  split at h
  · obtain ⟨g, c, h1, -, rfl⟩ := h; exact below_row j h1 c
  · exact bthen j h
theorem fpG_R {B : Nat} {cF : Array Value} (k j : Nat) (u : Nat → Value) (a b : World) (hkj : k ≠ j) (h : fpG B j a b) (r : fpR B cF k u a) : fpR B cF k u b := by
  unfold fpG at h
  split at h
  · obtain ⟨g, c, h1, h2, rfl⟩ := h
    rename_i ej
    unfold fpR at *
    split at r <;> first | exact r | exact AnyF.put r h2 | exact absurd ej.symm hkj
  · unfold fpR at *
    split at r <;> first | exact r | exact AnyF.below r h | (obtain ⟨g, q1, q2, q3⟩ := r; exact ⟨g, q1, q2, q3.below h⟩)
theorem fpG_U {ops : Array Oper} (h2 : 2 ∈ depsOf ops 4) {B : Nat} {cF : Array Value} (k : Nat) (u u2 : Nat → Value) (w : World) (h : ∀ j, j = k ∨ j ∈ depsOf ops k → u j = u2 j) (r : fpR B cF k u w) : fpR B cF k u2 w := by
  unfold fpR at *
  split at r <;> first | exact (h _ (Or.inl rfl)) ▸ r | trivial | (have e := h 2 (Or.inr h2); rw [e] at r; exact r)
def SafP (M : MetD) (vF vS : Value) (lw ls lc : Int) (li lb : Bool) (A : Option Addr) (n c : Nat) (S : Tab) (fv : Array Value) (m : Nat) (R : Nat → Int) (vR : Value) (a : Int) (b : Bool) (e : Int) : Prop :=
  ∀ w1, MetAt w1 vF vS M → RecsAt w1 A n 3 (nV S) → SlI w1 vR m R → Calls Tryz.prog 40 #[.agg #[.int .i64 M.places, .int .i64 M.any.a0, .int .i64 M.any.a1, .int .i64 M.any.a2, .int .i64 M.any.a3, .int .i64 M.any.a4, .int .i64 M.any.a5, .bool M.any.i, .bool M.any.s, .int .i64 M.mw, .int .i64 M.ms, .int .i64 M.mc, vF, vS], .agg #[.int .i64 lw, .int .i64 ls, .int .i64 lc, .bool li, .bool lb], .slice A n c, .agg fv] w1 fun r w' => r = .returned (.tuple #[.int .i64 a, .bool b, .int .i64 e]) ∧ RowKit.Below w1.heap.size w1 w'
theorem saf_any (M : MetD) (vF vS : Value) (lw ls lc : Int) (li lb : Bool) (A : Option Addr) (n c : Nat) (S : Tab) (G : FliD) (vR : Value) (hc1 : n ≤ c) (hc2 : c ≤ 9223372036854775807) :
    ∃ (a : Int) (b : Bool) (e : Int), SafP M vF vS lw ls lc li lb A n c S #[vR, .int .i64 G.dep, .int .i64 G.fuel, .int .i64 G.burn, .int .i64 G.res] G.m G.R vR a b e := by
  have h := fun w1 h1 h2 h3 => rSafe_c M vF vS lw ls lc li lb A n c S G vR w1 h1 hc1 hc2 h2 h3
  generalize sfE (nfE (netME M lw ls lc S n) M S n G) M lw ls lc li lb S n G = X at h
  exact ⟨X.1, X.2.1, X.2.2, h⟩
theorem saf_ok (M : MetD) (vF vS : Value) (lw ls lc : Int) (li lb : Bool) (A : Option Addr) (n c : Nat) (S : Tab) (G : FliD) (vR : Value) (hc1 : n ≤ c) (hc2 : c ≤ 9223372036854775807) (hnf : nfE (netME M lw ls lc S n) M S n G = 0) (b : Bool) (hb : (G.prf (lgT S n) (timT S n M.places.toNat) (opM M lw ls lc li lb) M.places.toNat).2.2 = b) :
    ∃ (a : Int), SafP M vF vS lw ls lc li lb A n c S #[vR, .int .i64 G.dep, .int .i64 G.fuel, .int .i64 G.burn, .int .i64 G.res] G.m G.R vR a b 0 := by
  have h := fun w1 h1 h2 h3 => rSafe_c M vF vS lw ls lc li lb A n c S G vR w1 h1 hc1 hc2 h2 h3
  unfold sfE at h
  rw [if_pos hnf, hb] at h
  exact ⟨_, h⟩
theorem sub_one_in {nn : Int} (h : 0 < nn) (h2 : nn ≤ 100000) : 0 ≤ nn - 1 ∧ nn - 1 ≤ 100000 := by omega
theorem min_in {f : Int} (h : 0 ≤ f) : 0 ≤ min 100000 (f + 1) ∧ min 100000 (f + 1) ≤ 100000 := by omega
theorem RouteLeast_c (M : MetD) (vF vS : Value) (lw ls lc : Int) (li lb : Bool) (A : Option Addr) (n c : Nat) (S : Tab) (F : FliD) (vR : Value) (w : World) (hM : MetAt w vF vS M) (hc1 : n ≤ c) (hc2 : c ≤ 9223372036854775807) (hL : RecsAt w A n 3 (nV S)) (hR : SlI w vR F.m F.R) :
   Calls Tryz.prog 7 #[.agg #[.int .i64 M.places, .int .i64 M.any.a0, .int .i64 M.any.a1, .int .i64 M.any.a2, .int .i64 M.any.a3, .int .i64 M.any.a4, .int .i64 M.any.a5, .bool M.any.i, .bool M.any.s, .int .i64 M.mw, .int .i64 M.ms, .int .i64 M.mc, vF, vS, .int .i64 lw, .int .i64 ls, .int .i64 lc, .bool li, .bool lb, .slice A n c], .agg #[vR, .int .i64 F.dep, .int .i64 F.fuel, .int .i64 F.burn, .int .i64 F.res]] w fun e w' => e = .returned (.bool true) ∧ RowKit.Below w.heap.size w w' := by
  have HM := Lib.hid hM
  have HL := Lib.hid hL
  have HR := Lib.hid hR
  obtain ⟨AR, cR, rfl, -, -, -⟩ := hR
  have HRT := Lib.hid (fun w1 h1 h2 h3 => l5right_c M vF vS lw ls lc li lb A n c S F (.slice AR F.m cR) w1 h1 hc1 hc2 h2 h3)
  have tok : True := trivial
  have tok2 : True := trivial
  have tok0 : True := trivial
  go_enter Tryz.func7, Tryz.ntmps7
  go_wp2_with (first | (have _t := tok0; generalize hWX : World.alloc (World.alloc w _) _ = W; clear tok0; have _x := duo_r w #[.int .i64 M.places, .int .i64 M.any.a0, .int .i64 M.any.a1, .int .i64 M.any.a2, .int .i64 M.any.a3, .int .i64 M.any.a4, .int .i64 M.any.a5, .bool M.any.i, .bool M.any.s, .int .i64 M.mw, .int .i64 M.ms, .int .i64 M.mc, vF, vS, .int .i64 lw, .int .i64 ls, .int .i64 lc, .bool li, .bool lb, .slice A n c] #[.slice AR F.m cR, .int .i64 F.dep, .int .i64 F.fuel, .int .i64 F.burn, .int .i64 F.res] 34 37; rw [hWX] at _x; clear hWX; have HX := Lib.hid _x.1; have HY := Lib.hid _x.2.1; have HB := Lib.hid _x.2.2; clear _x) | (have _t := tok; refine wpl_row rfl 34 (.tmp 2) rfl _ rfl #[.int .i64 M.places, .int .i64 M.any.a0, .int .i64 M.any.a1, .int .i64 M.any.a2, .int .i64 M.any.a3, .int .i64 M.any.a4, .int .i64 M.any.a5, .bool M.any.i, .bool M.any.s, .int .i64 M.mw, .int .i64 M.ms, .int .i64 M.mc, vF, vS, .int .i64 lw, .int .i64 ls, .int .i64 lc, .bool li, .bool lb, .slice A n c] 20 HX.out Tryz.rowPlan rfl ?_; simp only [Act.put]; clear tok) | (have _t := tok2; refine wpl_row rfl 37 (.tmp 3) rfl _ rfl #[.slice AR F.m cR, .int .i64 F.dep, .int .i64 F.fuel, .int .i64 F.burn, .int .i64 F.res] 5 HY.out Tryz.rowFli rfl ?_; simp only [Act.put]; clear tok2))
  refine (HRT.out _ (HM.out.below HB.out) (HL.out.below HB.out) (HR.out.below HB.out)).mono ?_
  rintro e w1 ⟨⟨bb, rfl, hgood⟩, hb1⟩
  have nHX := Lib.hid (HX.out.below hb1)
  have nHY := Lib.hid (HY.out.below hb1)
  have nHB := Lib.hid (bthen HB.out hb1)
  clear HX HY HB hb1
  have HX := nHX
  have HY := nHY
  have HB := nHB
  clear nHX nHY nHB
  cases bb
  case false =>
    clear hgood hM hL
    go_wp2_with (first | (go_at_call 26; (with_reducible refine (rworks_c _).mono ?_); rintro e w1 ⟨rfl, hb1⟩; have nHX := Lib.hid (HX.out.below hb1); have nHY := Lib.hid (HY.out.below hb1); have nHB := Lib.hid (bthen HB.out hb1); have zz1 := hb1.size; clear HX HY HB hb1; have HX := nHX; have HY := nHY; have HB := nHB; clear nHX nHY nHB))
    go_ret
    exact ⟨rfl, HB.out⟩
  obtain ⟨hme, hke⟩ := hgood rfl
  have hnf : nfE (netME M lw ls lc S n) M S n F = 0 := by rw [nfM_min, if_pos hme]; exact hke
  have hnm := nf_net hnf
  obtain ⟨f3, f4, f5, f6, f7⟩ := nfM_ok hnf
  have hle := fun w1 h1 h2 h3 => rLeast_c M vF vS lw ls lc li lb A n c S F (.slice AR F.m cR) w1 h1 hc1 hc2 h2 h3
  unfold leE at hle
  rw [if_pos hnf] at hle
  have hsf := fun (G : FliD) (hk : G.ok M.places.toNat (lgT S n)) b hb => saf_ok M vF vS lw ls lc li lb A n c S G (.slice AR F.m cR) hc1 hc2 (nf_mk hnm (FliD.okB_iff.2 hk)) b hb
  obtain ⟨q0, q1, q2, q3⟩ := minE_ok hme
  have HKE := Lib.hid hke
  clear hke hnf hme
  have hfst := least_first (tt := timT S n M.places.toNat) (op := opM M lw ls lc li lb) f7
  have HM2 := HM
  obtain ⟨hm8, hd8, hf8, hr8, hb8⟩ := FliD.nums_iff.1 f7.1
  rcases hfst with ⟨nn, e1, e2, e3, e4, e5, e6⟩ | ⟨e1, e2⟩
  case inr =>
    rw [e1] at hle
    obtain ⟨a1, hs1⟩ := hsf F f7 _ e2
    have HLE := Lib.hid hle
    have HS1 := Lib.hid hs1
    clear hle hs1 hsf f3 f4 f5 f6 f7 hnm e1 e2 hM hL hgood hm8 hd8 hf8 hr8 hb8 q0 q1 q2 q3
    have x19 := HX.out.cell 19
    have y2 := HY.out.cell 2
    simp only [List.getElem?_toArray, List.getElem?_cons_succ, List.getElem?_cons_zero] at x19 y2
    have tok2 : True := trivial
    have tok3 : True := trivial
    have tok4 : True := trivial
    go_wp2_with (first | (have _t := tok3; refine wpl_mid rfl 29 _ rfl w.heap.size 0 rfl 34 #[.int .i64 M.places, .int .i64 M.any.a0, .int .i64 M.any.a1, .int .i64 M.any.a2, .int .i64 M.any.a3, .int .i64 M.any.a4, .int .i64 M.any.a5, .bool M.any.i, .bool M.any.s, .int .i64 M.mw, .int .i64 M.ms, .int .i64 M.mc, vF, vS, .int .i64 lw, .int .i64 ls, .int .i64 lc, .bool li, .bool lb, .slice A n c] #[.int .i64 M.places, .int .i64 M.any.a0, .int .i64 M.any.a1, .int .i64 M.any.a2, .int .i64 M.any.a3, .int .i64 M.any.a4, .int .i64 M.any.a5, .bool M.any.i, .bool M.any.s, .int .i64 M.mw, .int .i64 M.ms, .int .i64 M.mc, vF, vS] 14 HX.out Tryz.rowMet [] [.int .i64 lw, .int .i64 ls, .int .i64 lc, .bool li, .bool lb, .slice A n c] rfl rfl rfl ?_; simp only [Act.put]; clear tok3) | (have _t := tok4; refine wpl_mid rfl 31 _ rfl w.heap.size 14 rfl 34 #[.int .i64 M.places, .int .i64 M.any.a0, .int .i64 M.any.a1, .int .i64 M.any.a2, .int .i64 M.any.a3, .int .i64 M.any.a4, .int .i64 M.any.a5, .bool M.any.i, .bool M.any.s, .int .i64 M.mw, .int .i64 M.ms, .int .i64 M.mc, vF, vS, .int .i64 lw, .int .i64 ls, .int .i64 lc, .bool li, .bool lb, .slice A n c] #[.int .i64 lw, .int .i64 ls, .int .i64 lc, .bool li, .bool lb] 5 HX.out Tryz.rowMin [.int .i64 M.places, .int .i64 M.any.a0, .int .i64 M.any.a1, .int .i64 M.any.a2, .int .i64 M.any.a3, .int .i64 M.any.a4, .int .i64 M.any.a5, .bool M.any.i, .bool M.any.s, .int .i64 M.mw, .int .i64 M.ms, .int .i64 M.mc, vF, vS] [.slice A n c] rfl rfl rfl ?_; simp only [Act.put]; clear tok4) | (have _t := tok2; refine wpl_row rfl 37 (.tmp 3) rfl _ rfl #[.slice AR F.m cR, .int .i64 F.dep, .int .i64 F.fuel, .int .i64 F.burn, .int .i64 F.res] 5 HY.out Tryz.rowFli rfl ?_; simp only [Act.put]; clear tok2))
    refine (HLE.out _ (HM.out.below HB.out) (HL.out.below HB.out) (HR.out.below HB.out)).mono ?_
    rintro e w2 ⟨rfl, hbX⟩
    clear x19 y2
    have nHX := Lib.hid (HX.out.below hbX)
    have nHY := Lib.hid (HY.out.below hbX)
    have nHB := Lib.hid (bthen HB.out hbX)
    clear HX HY HB hbX
    have HX := nHX
    have HY := nHY
    have HB := nHB
    clear nHX nHY nHB
    have x19 := HX.out.cell 19
    have y2 := HY.out.cell 2
    simp only [List.getElem?_toArray, List.getElem?_cons_succ, List.getElem?_cons_zero] at x19 y2
    have tok2 : True := trivial
    have tok3 : True := trivial
    have tok4 : True := trivial
    go_wp2_with (first | (have _t := tok3; refine wpl_mid rfl 29 _ rfl w.heap.size 0 rfl 34 #[.int .i64 M.places, .int .i64 M.any.a0, .int .i64 M.any.a1, .int .i64 M.any.a2, .int .i64 M.any.a3, .int .i64 M.any.a4, .int .i64 M.any.a5, .bool M.any.i, .bool M.any.s, .int .i64 M.mw, .int .i64 M.ms, .int .i64 M.mc, vF, vS, .int .i64 lw, .int .i64 ls, .int .i64 lc, .bool li, .bool lb, .slice A n c] #[.int .i64 M.places, .int .i64 M.any.a0, .int .i64 M.any.a1, .int .i64 M.any.a2, .int .i64 M.any.a3, .int .i64 M.any.a4, .int .i64 M.any.a5, .bool M.any.i, .bool M.any.s, .int .i64 M.mw, .int .i64 M.ms, .int .i64 M.mc, vF, vS] 14 HX.out Tryz.rowMet [] [.int .i64 lw, .int .i64 ls, .int .i64 lc, .bool li, .bool lb, .slice A n c] rfl rfl rfl ?_; simp only [Act.put]; clear tok3) | (have _t := tok4; refine wpl_mid rfl 31 _ rfl w.heap.size 14 rfl 34 #[.int .i64 M.places, .int .i64 M.any.a0, .int .i64 M.any.a1, .int .i64 M.any.a2, .int .i64 M.any.a3, .int .i64 M.any.a4, .int .i64 M.any.a5, .bool M.any.i, .bool M.any.s, .int .i64 M.mw, .int .i64 M.ms, .int .i64 M.mc, vF, vS, .int .i64 lw, .int .i64 ls, .int .i64 lc, .bool li, .bool lb, .slice A n c] #[.int .i64 lw, .int .i64 ls, .int .i64 lc, .bool li, .bool lb] 5 HX.out Tryz.rowMin [.int .i64 M.places, .int .i64 M.any.a0, .int .i64 M.any.a1, .int .i64 M.any.a2, .int .i64 M.any.a3, .int .i64 M.any.a4, .int .i64 M.any.a5, .bool M.any.i, .bool M.any.s, .int .i64 M.mw, .int .i64 M.ms, .int .i64 M.mc, vF, vS] [.slice A n c] rfl rfl rfl ?_; simp only [Act.put]; clear tok4) | (have _t := tok2; refine wpl_row rfl 37 (.tmp 3) rfl _ rfl #[.slice AR F.m cR, .int .i64 F.dep, .int .i64 F.fuel, .int .i64 F.burn, .int .i64 F.res] 5 HY.out Tryz.rowFli rfl ?_; simp only [Act.put]; clear tok2))
    refine (HS1.out _ (HM.out.below HB.out) (HL.out.below HB.out) (HR.out.below HB.out)).mono ?_
    rintro e w3 ⟨rfl, hbX⟩
    clear x19 y2
    have nHX := Lib.hid (HX.out.below hbX)
    have nHY := Lib.hid (HY.out.below hbX)
    have nHB := Lib.hid (bthen HB.out hbX)
    clear HX HY HB hbX
    have HX := nHX
    have HY := nHY
    have HB := nHB
    clear nHX nHY nHB
    go_wp2_with (first | (go_at_call 26; (with_reducible refine (rworks_c _).mono ?_); rintro e w1 ⟨rfl, hb1⟩; have nHX := Lib.hid (HX.out.below hb1); have nHY := Lib.hid (HY.out.below hb1); have nHB := Lib.hid (bthen HB.out hb1); have zz1 := hb1.size; clear HX HY HB hb1; have HX := nHX; have HY := nHY; have HB := nHB; clear nHX nHY nHB))
    go_ret
    exact ⟨rfl, HB.out⟩
  rw [e1] at hle
  obtain ⟨a1, hs1⟩ := hsf F f7 _ e4
  obtain ⟨a2, hs2⟩ := hsf (F.withF nn) (FliD.withF_ok f7 e2 e3) _ e5
  have hs3 : ∃ a b e, SafP M vF vS lw ls lc li lb A n c S #[.slice AR F.m cR, .int .i64 F.dep, .int .i64 (nn - 1), .int .i64 F.burn, .int .i64 F.res] F.m F.R (.slice AR F.m cR) a b e ∧ (0 < nn → b = false ∧ e = 0) := by
    by_cases h : 0 < nn
    · obtain ⟨a3, h3⟩ := hsf (F.withF (nn - 1)) (FliD.withF_ok f7 (sub_one_in h e3).1 (sub_one_in h e3).2) _ (e6 h)
      exact ⟨a3, false, 0, h3, fun _ => ⟨rfl, rfl⟩⟩
    · obtain ⟨a3, b3, c3, h3⟩ := saf_any M vF vS lw ls lc li lb A n c S (F.withF (nn - 1)) (.slice AR F.m cR) hc1 hc2
      exact ⟨a3, b3, c3, h3, fun q => absurd q h⟩
  obtain ⟨a3, b3, c3, hs3, h3z⟩ := hs3
  have hss := fun h : nn ≤ F.fuel => (by rw [e4, decide_eq_true h] : (F.prf (lgT S n) (timT S n M.places.toNat) (opM M lw ls lc li lb) M.places.toNat).2.2 = true)
  have HS4 : Hid (nn ≤ F.fuel → ∃ a, SafP M vF vS lw ls lc li lb A n c S #[.slice AR F.m cR, .int .i64 F.dep, .int .i64 (min 100000 (F.fuel + 1)), .int .i64 F.burn, .int .i64 F.res] F.m F.R (.slice AR F.m cR) a true 0) := Lib.hid fun h => by
    obtain ⟨a4, h1⟩ := hsf (F.withF (min 100000 (F.fuel + 1))) (FliD.withF_ok f7 (min_in hf8.1).1 (min_in hf8.1).2) _ (least_more f7 (hss h))
    exact ⟨a4, h1⟩
  have HS5 : Hid (nn ≤ F.fuel → ∀ r, 0 ≤ r → r ≤ F.res → ∃ a, SafP M vF vS lw ls lc li lb A n c S #[.slice AR F.m cR, .int .i64 F.dep, .int .i64 F.fuel, .int .i64 F.burn, .int .i64 r] F.m F.R (.slice AR F.m cR) a true 0) := Lib.hid fun h r r0 r1 => by
    obtain ⟨a5, h1⟩ := hsf (F.withR r) (FliD.withR_ok f7 r0 (Int.le_trans r1 hr8.2)) _ (least_less r1 (hss h))
    exact ⟨a5, h1⟩
  have HS6 : Hid (nn ≤ F.fuel → ∀ lw2 ls2 lc2, lw ≤ lw2 → lw2 ≤ 300 → 0 ≤ ls2 → ls2 ≤ ls → 0 ≤ lc2 → lc2 ≤ lc → ∃ a, SafP M vF vS lw2 ls2 lc2 true lb A n c S #[.slice AR F.m cR, .int .i64 F.dep, .int .i64 F.fuel, .int .i64 F.burn, .int .i64 F.res] F.m F.R (.slice AR F.m cR) a true 0) := Lib.hid fun h lw2 ls2 lc2 k1 k2 k3 k4 k5 k6 => by
    have hn2 : nfE (netME M lw2 ls2 lc2 S n) M S n F = 0 := by rw [nfM_min, if_pos (minE_mk q0 (by omega) (by omega) (by omega))]; exact HKE.out
    obtain ⟨a6, h1⟩ := saf_ok M vF vS lw2 ls2 lc2 true lb A n c S F (.slice AR F.m cR) hc1 hc2 hn2 _ (least_weak (fun p a => open_weak k1 k2 k3 k4 k5 k6 (fun _ => rfl) p a) (hss h))
    exact ⟨a6, h1⟩
  have HLE := Lib.hid hle
  have HS1 := Lib.hid hs1
  have HS2 := Lib.hid hs2
  have HS3 := Lib.hid hs3
  have H3Z := Lib.hid h3z
  clear hle hs2 hs3 hs1 hsf hss h3z e1 e4 e5 e6 f3 f4 f5 f6 f7 hnm hM hL hgood hm8 q0
  have hwn : IntKind.i64.wrap (nn - 1) = nn - 1 := by rw [IntKind.wrap_i64]; omega
  have hnn0 : ¬ nn < 0 := by omega
  have hnn1 : ¬ nn > 100000 := by omega
  have x19 := HX.out.cell 19
  have y2 := HY.out.cell 2
  simp only [List.getElem?_toArray, List.getElem?_cons_succ, List.getElem?_cons_zero] at x19 y2
  have tok2 : True := trivial
  have tok3 : True := trivial
  have tok4 : True := trivial
  go_wp2_with (first | (have _t := tok3; refine wpl_mid rfl 29 _ rfl w.heap.size 0 rfl 34 #[.int .i64 M.places, .int .i64 M.any.a0, .int .i64 M.any.a1, .int .i64 M.any.a2, .int .i64 M.any.a3, .int .i64 M.any.a4, .int .i64 M.any.a5, .bool M.any.i, .bool M.any.s, .int .i64 M.mw, .int .i64 M.ms, .int .i64 M.mc, vF, vS, .int .i64 lw, .int .i64 ls, .int .i64 lc, .bool li, .bool lb, .slice A n c] #[.int .i64 M.places, .int .i64 M.any.a0, .int .i64 M.any.a1, .int .i64 M.any.a2, .int .i64 M.any.a3, .int .i64 M.any.a4, .int .i64 M.any.a5, .bool M.any.i, .bool M.any.s, .int .i64 M.mw, .int .i64 M.ms, .int .i64 M.mc, vF, vS] 14 HX.out Tryz.rowMet [] [.int .i64 lw, .int .i64 ls, .int .i64 lc, .bool li, .bool lb, .slice A n c] rfl rfl rfl ?_; simp only [Act.put]; clear tok3) | (have _t := tok4; refine wpl_mid rfl 31 _ rfl w.heap.size 14 rfl 34 #[.int .i64 M.places, .int .i64 M.any.a0, .int .i64 M.any.a1, .int .i64 M.any.a2, .int .i64 M.any.a3, .int .i64 M.any.a4, .int .i64 M.any.a5, .bool M.any.i, .bool M.any.s, .int .i64 M.mw, .int .i64 M.ms, .int .i64 M.mc, vF, vS, .int .i64 lw, .int .i64 ls, .int .i64 lc, .bool li, .bool lb, .slice A n c] #[.int .i64 lw, .int .i64 ls, .int .i64 lc, .bool li, .bool lb] 5 HX.out Tryz.rowMin [.int .i64 M.places, .int .i64 M.any.a0, .int .i64 M.any.a1, .int .i64 M.any.a2, .int .i64 M.any.a3, .int .i64 M.any.a4, .int .i64 M.any.a5, .bool M.any.i, .bool M.any.s, .int .i64 M.mw, .int .i64 M.ms, .int .i64 M.mc, vF, vS] [.slice A n c] rfl rfl rfl ?_; simp only [Act.put]; clear tok4) | (have _t := tok2; refine wpl_row rfl 37 (.tmp 3) rfl _ rfl #[.slice AR F.m cR, .int .i64 F.dep, .int .i64 F.fuel, .int .i64 F.burn, .int .i64 F.res] 5 HY.out Tryz.rowFli rfl ?_; simp only [Act.put]; clear tok2))
  refine (HLE.out _ (HM.out.below HB.out) (HL.out.below HB.out) (HR.out.below HB.out)).mono ?_
  rintro e w2 ⟨rfl, hbX⟩
  clear x19 y2
  have nHX := Lib.hid (HX.out.below hbX)
  have nHY := Lib.hid (HY.out.below hbX)
  have nHB := Lib.hid (bthen HB.out hbX)
  clear HX HY HB hbX
  have HX := nHX
  have HY := nHY
  have HB := nHB
  clear nHX nHY nHB
  have x19 := HX.out.cell 19
  have y2 := HY.out.cell 2
  simp only [List.getElem?_toArray, List.getElem?_cons_succ, List.getElem?_cons_zero] at x19 y2
  have tok2 : True := trivial
  have tok3 : True := trivial
  have tok4 : True := trivial
  go_wp2_with (first | (have _t := tok3; refine wpl_mid rfl 29 _ rfl w.heap.size 0 rfl 34 #[.int .i64 M.places, .int .i64 M.any.a0, .int .i64 M.any.a1, .int .i64 M.any.a2, .int .i64 M.any.a3, .int .i64 M.any.a4, .int .i64 M.any.a5, .bool M.any.i, .bool M.any.s, .int .i64 M.mw, .int .i64 M.ms, .int .i64 M.mc, vF, vS, .int .i64 lw, .int .i64 ls, .int .i64 lc, .bool li, .bool lb, .slice A n c] #[.int .i64 M.places, .int .i64 M.any.a0, .int .i64 M.any.a1, .int .i64 M.any.a2, .int .i64 M.any.a3, .int .i64 M.any.a4, .int .i64 M.any.a5, .bool M.any.i, .bool M.any.s, .int .i64 M.mw, .int .i64 M.ms, .int .i64 M.mc, vF, vS] 14 HX.out Tryz.rowMet [] [.int .i64 lw, .int .i64 ls, .int .i64 lc, .bool li, .bool lb, .slice A n c] rfl rfl rfl ?_; simp only [Act.put]; clear tok3) | (have _t := tok4; refine wpl_mid rfl 31 _ rfl w.heap.size 14 rfl 34 #[.int .i64 M.places, .int .i64 M.any.a0, .int .i64 M.any.a1, .int .i64 M.any.a2, .int .i64 M.any.a3, .int .i64 M.any.a4, .int .i64 M.any.a5, .bool M.any.i, .bool M.any.s, .int .i64 M.mw, .int .i64 M.ms, .int .i64 M.mc, vF, vS, .int .i64 lw, .int .i64 ls, .int .i64 lc, .bool li, .bool lb, .slice A n c] #[.int .i64 lw, .int .i64 ls, .int .i64 lc, .bool li, .bool lb] 5 HX.out Tryz.rowMin [.int .i64 M.places, .int .i64 M.any.a0, .int .i64 M.any.a1, .int .i64 M.any.a2, .int .i64 M.any.a3, .int .i64 M.any.a4, .int .i64 M.any.a5, .bool M.any.i, .bool M.any.s, .int .i64 M.mw, .int .i64 M.ms, .int .i64 M.mc, vF, vS] [.slice A n c] rfl rfl rfl ?_; simp only [Act.put]; clear tok4) | (have _t := tok2; refine wpl_row rfl 37 (.tmp 3) rfl _ rfl #[.slice AR F.m cR, .int .i64 F.dep, .int .i64 F.fuel, .int .i64 F.burn, .int .i64 F.res] 5 HY.out Tryz.rowFli rfl ?_; simp only [Act.put]; clear tok2))
  refine (HS1.out _ (HM.out.below HB.out) (HL.out.below HB.out) (HR.out.below HB.out)).mono ?_
  rintro e w3 ⟨rfl, hbX⟩
  clear x19 y2
  have nHX := Lib.hid (HX.out.below hbX)
  have nHY := Lib.hid (HY.out.below hbX)
  have nHB := Lib.hid (bthen HB.out hbX)
  clear HX HY HB hbX
  have HX := nHX
  have HY := nHY
  have HB := nHB
  clear nHX nHY nHB
  have y2 := HY.out.cell 2
  have n2 := (Blk.new w3 37 #[.slice AR F.m cR, .int .i64 F.dep, .int .i64 F.fuel, .int .i64 F.burn, .int .i64 F.res]).cell 2
  have nf := fun i => (Blk.new w3 37 #[.slice AR F.m cR, .int .i64 F.dep, .int .i64 F.fuel, .int .i64 F.burn, .int .i64 F.res]).frozen i
  simp only [List.getElem?_toArray, List.getElem?_cons_succ, List.getElem?_cons_zero] at y2 n2
  have tok2 : True := trivial
  have tok3 : True := trivial
  have tok4 : True := trivial
  have tokS : True := trivial
  have tokH : True := trivial
  have hw3 : w.heap.size + 1 < w3.heap.size := HY.out.lt
  cases hcl : decide (nn ≤ F.fuel)
  case false =>
    have hng : ¬ F.fuel ≥ nn := by simpa using hcl
    go_wp2_with (first | (have _t := tok2; refine wpl_row rfl 37 (.tmp 3) rfl _ rfl #[.slice AR F.m cR, .int .i64 F.dep, .int .i64 F.fuel, .int .i64 F.burn, .int .i64 F.res] 5 HY.out Tryz.rowFli rfl ?_; simp only [Act.put]; clear tok2) | (have _t := tokS; refine wpl_store_newR rfl 37 (.tmp 10) (.tmp 86) rfl #[.slice AR F.m cR, .int .i64 F.dep, .int .i64 F.fuel, .int .i64 F.burn, .int .i64 F.res] _ _ rfl ?_ rfl Tryz.sizeFli rfl (by simp [Value.oneCell']) ?_; (focus (simp; done)); simp only [Act.put]; clear tokS) | (have _t := tok3; refine wpl_mid rfl 29 _ rfl w.heap.size 0 rfl 34 #[.int .i64 M.places, .int .i64 M.any.a0, .int .i64 M.any.a1, .int .i64 M.any.a2, .int .i64 M.any.a3, .int .i64 M.any.a4, .int .i64 M.any.a5, .bool M.any.i, .bool M.any.s, .int .i64 M.mw, .int .i64 M.ms, .int .i64 M.mc, vF, vS, .int .i64 lw, .int .i64 ls, .int .i64 lc, .bool li, .bool lb, .slice A n c] #[.int .i64 M.places, .int .i64 M.any.a0, .int .i64 M.any.a1, .int .i64 M.any.a2, .int .i64 M.any.a3, .int .i64 M.any.a4, .int .i64 M.any.a5, .bool M.any.i, .bool M.any.s, .int .i64 M.mw, .int .i64 M.ms, .int .i64 M.mc, vF, vS] 14 (HX.out.alloc _) Tryz.rowMet [] [.int .i64 lw, .int .i64 ls, .int .i64 lc, .bool li, .bool lb, .slice A n c] rfl rfl rfl ?_; simp only [Act.put]; clear tok3; generalize hWX : World.alloc w3 _ = w4; have nX := HX.out.alloc (.cells #[.slice AR F.m cR, .int .i64 F.dep, .int .i64 nn, .int .i64 F.burn, .int .i64 F.res] 37); have nY := HY.out.alloc (.cells #[.slice AR F.m cR, .int .i64 F.dep, .int .i64 nn, .int .i64 F.burn, .int .i64 F.res] 37); have nB := bal HB.out (.cells #[.slice AR F.m cR, .int .i64 F.dep, .int .i64 nn, .int .i64 F.burn, .int .i64 F.res] 37); have nH := Blk.new w3 37 #[.slice AR F.m cR, .int .i64 F.dep, .int .i64 nn, .int .i64 F.burn, .int .i64 F.res]; rw [hWX] at nX nY nB nH; clear hWX HX HY HB n2 nf y2; have HX := Lib.hid nX; have HY := Lib.hid nY; have HB := Lib.hid nB; have HH := Lib.hid nH; clear nX nY nB nH; have x19 := HX.out.cell 19; simp only [List.getElem?_toArray, List.getElem?_cons_succ, List.getElem?_cons_zero] at x19) | (have _t := tok4; refine wpl_mid rfl 31 _ rfl w.heap.size 14 rfl 34 #[.int .i64 M.places, .int .i64 M.any.a0, .int .i64 M.any.a1, .int .i64 M.any.a2, .int .i64 M.any.a3, .int .i64 M.any.a4, .int .i64 M.any.a5, .bool M.any.i, .bool M.any.s, .int .i64 M.mw, .int .i64 M.ms, .int .i64 M.mc, vF, vS, .int .i64 lw, .int .i64 ls, .int .i64 lc, .bool li, .bool lb, .slice A n c] #[.int .i64 lw, .int .i64 ls, .int .i64 lc, .bool li, .bool lb] 5 HX.out Tryz.rowMin [.int .i64 M.places, .int .i64 M.any.a0, .int .i64 M.any.a1, .int .i64 M.any.a2, .int .i64 M.any.a3, .int .i64 M.any.a4, .int .i64 M.any.a5, .bool M.any.i, .bool M.any.s, .int .i64 M.mw, .int .i64 M.ms, .int .i64 M.mc, vF, vS] [.slice A n c] rfl rfl rfl ?_; simp only [Act.put]; clear tok4) | (have _t := tokH; refine wpl_row rfl 37 (.tmp 10) rfl _ rfl #[.slice AR F.m cR, .int .i64 F.dep, .int .i64 nn, .int .i64 F.burn, .int .i64 F.res] 5 HH.out Tryz.rowFli rfl ?_; simp only [Act.put]; clear tokH))
    refine (HS2.out _ (HM.out.below HB.out) (HL.out.below HB.out) (HR.out.below HB.out)).mono ?_
    rintro e w5 ⟨rfl, hbX⟩
    clear x19
    have hneX : w.heap.size ≠ w3.heap.size := by have := hw3; omega
    have hneY : w.heap.size + 1 ≠ w3.heap.size := by have := hw3; omega
    have hneB : w.heap.size ≤ w3.heap.size := by have := hw3; omega
    have nHX := Lib.hid (HX.out.below hbX)
    have nHY := Lib.hid (HY.out.below hbX)
    have nHH := Lib.hid (HH.out.below hbX)
    have nHB := Lib.hid (bthen HB.out hbX)
    clear HX HY HH HB hbX
    have HX := nHX
    have HY := nHY
    have HH := nHH
    have HB := nHB
    clear nHX nHY nHH nHB
    have h2 := HH.out.cell 2
    have hf := fun i => HH.out.frozen i
    simp only [List.getElem?_toArray, List.getElem?_cons_succ, List.getElem?_cons_zero] at h2
    have tok3 : True := trivial
    have tok4 : True := trivial
    have tokH : True := trivial
    go_wp2_with (first | (have _t := tok3; refine wpl_mid rfl 29 _ rfl w.heap.size 0 rfl 34 #[.int .i64 M.places, .int .i64 M.any.a0, .int .i64 M.any.a1, .int .i64 M.any.a2, .int .i64 M.any.a3, .int .i64 M.any.a4, .int .i64 M.any.a5, .bool M.any.i, .bool M.any.s, .int .i64 M.mw, .int .i64 M.ms, .int .i64 M.mc, vF, vS, .int .i64 lw, .int .i64 ls, .int .i64 lc, .bool li, .bool lb, .slice A n c] #[.int .i64 M.places, .int .i64 M.any.a0, .int .i64 M.any.a1, .int .i64 M.any.a2, .int .i64 M.any.a3, .int .i64 M.any.a4, .int .i64 M.any.a5, .bool M.any.i, .bool M.any.s, .int .i64 M.mw, .int .i64 M.ms, .int .i64 M.mc, vF, vS] 14 (HX.out.far (p := ⟨w3.heap.size, 2, none⟩) hneX (.int .i64 (nn - 1))) Tryz.rowMet [] [.int .i64 lw, .int .i64 ls, .int .i64 lc, .bool li, .bool lb, .slice A n c] rfl rfl rfl ?_; simp only [Act.put]; clear tok3; generalize hWX : World.setCell w5 _ _ = w6; have nX := HX.out.far (p := ⟨w3.heap.size, 2, none⟩) hneX (.int .i64 (nn - 1)); have nY := HY.out.far (p := ⟨w3.heap.size, 2, none⟩) hneY (.int .i64 (nn - 1)); have nB := bset HB.out hneB (.int .i64 (nn - 1)) (i := 2); have nH := HH.out.set_ 2 (.int .i64 (nn - 1)); rw [hWX] at nX nY nB nH; clear hWX HX HY HB HH h2 hf; have HX := Lib.hid nX; have HY := Lib.hid nY; have HB := Lib.hid nB; have HH : Hid (Blk w6 w3.heap.size 37 #[.slice AR F.m cR, .int .i64 F.dep, .int .i64 (nn - 1), .int .i64 F.burn, .int .i64 F.res]) := Lib.hid nH; clear nX nY nB nH; have x19 := HX.out.cell 19; simp only [List.getElem?_toArray, List.getElem?_cons_succ, List.getElem?_cons_zero] at x19) | (have _t := tok4; refine wpl_mid rfl 31 _ rfl w.heap.size 14 rfl 34 #[.int .i64 M.places, .int .i64 M.any.a0, .int .i64 M.any.a1, .int .i64 M.any.a2, .int .i64 M.any.a3, .int .i64 M.any.a4, .int .i64 M.any.a5, .bool M.any.i, .bool M.any.s, .int .i64 M.mw, .int .i64 M.ms, .int .i64 M.mc, vF, vS, .int .i64 lw, .int .i64 ls, .int .i64 lc, .bool li, .bool lb, .slice A n c] #[.int .i64 lw, .int .i64 ls, .int .i64 lc, .bool li, .bool lb] 5 HX.out Tryz.rowMin [.int .i64 M.places, .int .i64 M.any.a0, .int .i64 M.any.a1, .int .i64 M.any.a2, .int .i64 M.any.a3, .int .i64 M.any.a4, .int .i64 M.any.a5, .bool M.any.i, .bool M.any.s, .int .i64 M.mw, .int .i64 M.ms, .int .i64 M.mc, vF, vS] [.slice A n c] rfl rfl rfl ?_; simp only [Act.put]; clear tok4) | (have _t := tokH; refine wpl_row rfl 37 (.tmp 10) rfl _ rfl #[.slice AR F.m cR, .int .i64 F.dep, .int .i64 (nn - 1), .int .i64 F.burn, .int .i64 F.res] 5 HH.out Tryz.rowFli rfl ?_; simp only [Act.put]; clear tokH))
    refine (HS3.out _ (HM.out.below HB.out) (HL.out.below HB.out) (HR.out.below HB.out)).mono ?_
    rintro e w7 ⟨rfl, hbX⟩
    clear x19
    have nHX := Lib.hid (HX.out.below hbX)
    have nHY := Lib.hid (HY.out.below hbX)
    have nHB := Lib.hid (bthen HB.out hbX)
    clear HX HY HB hbX
    have HX := nHX
    have HY := nHY
    have HB := nHB
    clear nHX nHY nHB
    have h0 : 0 < nn := by have := hf8.1; omega
    obtain ⟨rfl, rfl⟩ := H3Z.out h0
    have hgt : nn > 0 := h0
    clear H3Z h0
    go_wp2_with (first | (go_at_call 26; (with_reducible refine (rworks_c _).mono ?_); rintro e w1 ⟨rfl, hb1⟩; have nHX := Lib.hid (HX.out.below hb1); have nHY := Lib.hid (HY.out.below hb1); have nHB := Lib.hid (bthen HB.out hb1); have zz1 := hb1.size; clear HX HY HB hb1; have HX := nHX; have HY := nHY; have HB := nHB; clear nHX nHY nHB))
    go_ret
    exact ⟨rfl, HB.out⟩
  have hle2 : nn ≤ F.fuel := of_decide_eq_true hcl
  have hng : F.fuel ≥ nn := hle2
  obtain ⟨a4, hs4⟩ := HS4.out hle2
  have HS4' := Lib.hid hs4
  have HS5' := Lib.hid (HS5.out hle2)
  have HS6' := Lib.hid (HS6.out hle2)
  clear hs4 hle2 HS4 HS5 HS6
  go_wp2_with (first | (have _t := tok2; refine wpl_row rfl 37 (.tmp 3) rfl _ rfl #[.slice AR F.m cR, .int .i64 F.dep, .int .i64 F.fuel, .int .i64 F.burn, .int .i64 F.res] 5 HY.out Tryz.rowFli rfl ?_; simp only [Act.put]; clear tok2) | (have _t := tokS; refine wpl_store_newR rfl 37 (.tmp 10) (.tmp 86) rfl #[.slice AR F.m cR, .int .i64 F.dep, .int .i64 F.fuel, .int .i64 F.burn, .int .i64 F.res] _ _ rfl ?_ rfl Tryz.sizeFli rfl (by simp [Value.oneCell']) ?_; (focus (simp; done)); simp only [Act.put]; clear tokS) | (have _t := tok3; refine wpl_mid rfl 29 _ rfl w.heap.size 0 rfl 34 #[.int .i64 M.places, .int .i64 M.any.a0, .int .i64 M.any.a1, .int .i64 M.any.a2, .int .i64 M.any.a3, .int .i64 M.any.a4, .int .i64 M.any.a5, .bool M.any.i, .bool M.any.s, .int .i64 M.mw, .int .i64 M.ms, .int .i64 M.mc, vF, vS, .int .i64 lw, .int .i64 ls, .int .i64 lc, .bool li, .bool lb, .slice A n c] #[.int .i64 M.places, .int .i64 M.any.a0, .int .i64 M.any.a1, .int .i64 M.any.a2, .int .i64 M.any.a3, .int .i64 M.any.a4, .int .i64 M.any.a5, .bool M.any.i, .bool M.any.s, .int .i64 M.mw, .int .i64 M.ms, .int .i64 M.mc, vF, vS] 14 (HX.out.alloc _) Tryz.rowMet [] [.int .i64 lw, .int .i64 ls, .int .i64 lc, .bool li, .bool lb, .slice A n c] rfl rfl rfl ?_; simp only [Act.put]; clear tok3; generalize hWX : World.alloc w3 _ = w4; have nX := HX.out.alloc (.cells #[.slice AR F.m cR, .int .i64 F.dep, .int .i64 nn, .int .i64 F.burn, .int .i64 F.res] 37); have nY := HY.out.alloc (.cells #[.slice AR F.m cR, .int .i64 F.dep, .int .i64 nn, .int .i64 F.burn, .int .i64 F.res] 37); have nB := bal HB.out (.cells #[.slice AR F.m cR, .int .i64 F.dep, .int .i64 nn, .int .i64 F.burn, .int .i64 F.res] 37); have nH := Blk.new w3 37 #[.slice AR F.m cR, .int .i64 F.dep, .int .i64 nn, .int .i64 F.burn, .int .i64 F.res]; rw [hWX] at nX nY nB nH; clear hWX HX HY HB n2 nf y2; have HX := Lib.hid nX; have HY := Lib.hid nY; have HB := Lib.hid nB; have HH := Lib.hid nH; clear nX nY nB nH; have x19 := HX.out.cell 19; simp only [List.getElem?_toArray, List.getElem?_cons_succ, List.getElem?_cons_zero] at x19) | (have _t := tok4; refine wpl_mid rfl 31 _ rfl w.heap.size 14 rfl 34 #[.int .i64 M.places, .int .i64 M.any.a0, .int .i64 M.any.a1, .int .i64 M.any.a2, .int .i64 M.any.a3, .int .i64 M.any.a4, .int .i64 M.any.a5, .bool M.any.i, .bool M.any.s, .int .i64 M.mw, .int .i64 M.ms, .int .i64 M.mc, vF, vS, .int .i64 lw, .int .i64 ls, .int .i64 lc, .bool li, .bool lb, .slice A n c] #[.int .i64 lw, .int .i64 ls, .int .i64 lc, .bool li, .bool lb] 5 HX.out Tryz.rowMin [.int .i64 M.places, .int .i64 M.any.a0, .int .i64 M.any.a1, .int .i64 M.any.a2, .int .i64 M.any.a3, .int .i64 M.any.a4, .int .i64 M.any.a5, .bool M.any.i, .bool M.any.s, .int .i64 M.mw, .int .i64 M.ms, .int .i64 M.mc, vF, vS] [.slice A n c] rfl rfl rfl ?_; simp only [Act.put]; clear tok4) | (have _t := tokH; refine wpl_row rfl 37 (.tmp 10) rfl _ rfl #[.slice AR F.m cR, .int .i64 F.dep, .int .i64 nn, .int .i64 F.burn, .int .i64 F.res] 5 HH.out Tryz.rowFli rfl ?_; simp only [Act.put]; clear tokH))
  refine (HS2.out _ (HM.out.below HB.out) (HL.out.below HB.out) (HR.out.below HB.out)).mono ?_
  rintro e w5 ⟨rfl, hbX⟩
  clear x19
  have hneX : w.heap.size ≠ w3.heap.size := by have := hw3; omega
  have hneY : w.heap.size + 1 ≠ w3.heap.size := by have := hw3; omega
  have hneB : w.heap.size ≤ w3.heap.size := by have := hw3; omega
  have nHX := Lib.hid (HX.out.below hbX)
  have nHY := Lib.hid (HY.out.below hbX)
  have nHH := Lib.hid (HH.out.below hbX)
  have nHB := Lib.hid (bthen HB.out hbX)
  clear HX HY HH HB hbX
  have HX := nHX
  have HY := nHY
  have HH := nHH
  have HB := nHB
  clear nHX nHY nHH nHB
  have h2 := HH.out.cell 2
  have hf := fun i => HH.out.frozen i
  simp only [List.getElem?_toArray, List.getElem?_cons_succ, List.getElem?_cons_zero] at h2
  have tok3 : True := trivial
  have tok4 : True := trivial
  have tokH : True := trivial
  go_wp2_with (first | (have _t := tok3; refine wpl_mid rfl 29 _ rfl w.heap.size 0 rfl 34 #[.int .i64 M.places, .int .i64 M.any.a0, .int .i64 M.any.a1, .int .i64 M.any.a2, .int .i64 M.any.a3, .int .i64 M.any.a4, .int .i64 M.any.a5, .bool M.any.i, .bool M.any.s, .int .i64 M.mw, .int .i64 M.ms, .int .i64 M.mc, vF, vS, .int .i64 lw, .int .i64 ls, .int .i64 lc, .bool li, .bool lb, .slice A n c] #[.int .i64 M.places, .int .i64 M.any.a0, .int .i64 M.any.a1, .int .i64 M.any.a2, .int .i64 M.any.a3, .int .i64 M.any.a4, .int .i64 M.any.a5, .bool M.any.i, .bool M.any.s, .int .i64 M.mw, .int .i64 M.ms, .int .i64 M.mc, vF, vS] 14 (HX.out.far (p := ⟨w3.heap.size, 2, none⟩) hneX (.int .i64 (nn - 1))) Tryz.rowMet [] [.int .i64 lw, .int .i64 ls, .int .i64 lc, .bool li, .bool lb, .slice A n c] rfl rfl rfl ?_; simp only [Act.put]; clear tok3; generalize hWX : World.setCell w5 _ _ = w6; have nX := HX.out.far (p := ⟨w3.heap.size, 2, none⟩) hneX (.int .i64 (nn - 1)); have nY := HY.out.far (p := ⟨w3.heap.size, 2, none⟩) hneY (.int .i64 (nn - 1)); have nB := bset HB.out hneB (.int .i64 (nn - 1)) (i := 2); have nH := HH.out.set_ 2 (.int .i64 (nn - 1)); rw [hWX] at nX nY nB nH; clear hWX HX HY HB HH h2 hf; have HX := Lib.hid nX; have HY := Lib.hid nY; have HB := Lib.hid nB; have HH : Hid (Blk w6 w3.heap.size 37 #[.slice AR F.m cR, .int .i64 F.dep, .int .i64 (nn - 1), .int .i64 F.burn, .int .i64 F.res]) := Lib.hid nH; clear nX nY nB nH; have x19 := HX.out.cell 19; simp only [List.getElem?_toArray, List.getElem?_cons_succ, List.getElem?_cons_zero] at x19) | (have _t := tok4; refine wpl_mid rfl 31 _ rfl w.heap.size 14 rfl 34 #[.int .i64 M.places, .int .i64 M.any.a0, .int .i64 M.any.a1, .int .i64 M.any.a2, .int .i64 M.any.a3, .int .i64 M.any.a4, .int .i64 M.any.a5, .bool M.any.i, .bool M.any.s, .int .i64 M.mw, .int .i64 M.ms, .int .i64 M.mc, vF, vS, .int .i64 lw, .int .i64 ls, .int .i64 lc, .bool li, .bool lb, .slice A n c] #[.int .i64 lw, .int .i64 ls, .int .i64 lc, .bool li, .bool lb] 5 HX.out Tryz.rowMin [.int .i64 M.places, .int .i64 M.any.a0, .int .i64 M.any.a1, .int .i64 M.any.a2, .int .i64 M.any.a3, .int .i64 M.any.a4, .int .i64 M.any.a5, .bool M.any.i, .bool M.any.s, .int .i64 M.mw, .int .i64 M.ms, .int .i64 M.mc, vF, vS] [.slice A n c] rfl rfl rfl ?_; simp only [Act.put]; clear tok4) | (have _t := tokH; refine wpl_row rfl 37 (.tmp 10) rfl _ rfl #[.slice AR F.m cR, .int .i64 F.dep, .int .i64 (nn - 1), .int .i64 F.burn, .int .i64 F.res] 5 HH.out Tryz.rowFli rfl ?_; simp only [Act.put]; clear tokH))
  refine (HS3.out _ (HM.out.below HB.out) (HL.out.below HB.out) (HR.out.below HB.out)).mono ?_
  rintro e w7 ⟨rfl, hbX⟩
  clear x19
  have nHX := Lib.hid (HX.out.below hbX)
  have nHY := Lib.hid (HY.out.below hbX)
  have nHB := Lib.hid (bthen HB.out hbX)
  clear HX HY HB hbX
  have HX := nHX
  have HY := nHY
  have HB := nHB
  clear nHX nHY nHB
  by_cases h0 : 0 < nn
  · obtain ⟨rfl, rfl⟩ := H3Z.out h0
    have hgt : nn > 0 := h0
    clear H3Z h0
    go_wp2_with (fail)
    have hJF := Lib.hid (fun (b : World) (h : RowKit.Below w7.drew.heap.size w7.drew b) => (show Blk b (w.heap.size + 1) 37 #[.slice AR F.m cR, .int .i64 F.dep, .int .i64 F.fuel, .int .i64 F.burn, .int .i64 F.res] from Blk.under (W := w7.drew) HY.out h HY.out.lt))
    refine wp_region_specU (fpG w7.drew.heap.size) (fun b => RowKit.Below w7.drew.heap.size w7.drew b) fpG_size fpG_J (RowKit.Below.refl _ _) 5 (fpR w7.drew.heap.size #[.slice AR F.m cR, .int .i64 F.dep, .int .i64 F.fuel, .int .i64 F.burn, .int .i64 F.res]) (fun i => decide (i = 2) || decide (i = 3)) (by kernel_rfl) (by kernel_rfl) fpG_R (fpG_U (List.contains_iff_mem.1 (by kernel_rfl))) ?hopu344 ?htailu344
    case hopu344 =>
      simp only [List.take_succ_cons, List.take_zero, allOps]
      refine ⟨?_, ?_, ?_, ?_, ?_, trivial⟩
      all_goals intro u A w1 hA hj hd
      all_goals simp only [putAll, dstOf, List.getElem?_toArray, List.getElem?_cons_succ, List.getElem?_cons_zero, Option.bind_some, Option.bind, Act.put, List.setIfInBounds_toArray, List.set_cons_succ, List.set_cons_zero] at hA; subst hA
      · clear hd
        go_wp2_with (refine wpl_row rfl 37 (.tmp 3) rfl _ rfl #[.slice AR F.m cR, .int .i64 F.dep, .int .i64 F.fuel, .int .i64 F.burn, .int .i64 F.res] 5 (hJF.out _ hj) Tryz.rowFli rfl ?_; simp only [Act.put])
        exact ⟨_, rfl, (RowKit.Below.refl _ _), rfl, fun h => absurd h (by decide)⟩
      · clear hd
        go_wp2_with (refine wpl_row rfl 37 (.tmp 3) rfl _ rfl #[.slice AR F.m cR, .int .i64 F.dep, .int .i64 F.fuel, .int .i64 F.burn, .int .i64 F.res] 5 (hJF.out _ hj) Tryz.rowFli rfl ?_; simp only [Act.put])
        exact ⟨_, rfl, (RowKit.Below.refl _ _), rfl, fun h => absurd h (by decide)⟩
      · clear hd
        go_wp2
        exact ⟨_, rfl, bal (RowKit.Below.refl _ _) _, ⟨_, _, rfl, hj.size, rfl, Blk.new _ _ _⟩, fun _ => ⟨_, rfl, Nat.le_refl _, by simp⟩⟩
      · clear hd
        go_wp2
        exact ⟨_, rfl, bal (RowKit.Below.refl _ _) _, ⟨_, _, rfl, hj.size, rfl, Blk.new _ _ _⟩, fun _ => ⟨_, rfl, Nat.le_refl _, by simp⟩⟩
      · have d0 : u 0 = _ := hd 0 (by omega) (by kernel_rfl)
        have d2 := hd 2 (by omega) (by kernel_rfl)
        have d3 := hd 3 (by omega) (by kernel_rfl)
        clear hd
        try simp only [d0]
        try clear d0
        obtain ⟨g, c2, e2, z2, s2, b2⟩ := d2
        rw [e2]
        refine wpList_store_row rfl 37 _ _ rfl g #[.slice AR F.m cR, .int .i64 F.dep, .int .i64 F.fuel, .int .i64 F.burn, .int .i64 F.res] rfl rfl 37 c2 b2 Tryz.sizeFli s2 (by simp [Value.oneCell']) ?_
        exact ⟨_, rfl, ⟨g, _, z2, rfl, rfl⟩, ⟨g, e2, z2, fblk_set b2⟩, fun h => absurd h (by decide)⟩
    case htailu344 =>
      intro u A w1 hA hj hd hf
      simp only [putAll, dstOf, List.getElem?_toArray, List.getElem?_cons_succ, List.getElem?_cons_zero, Option.bind_some, Option.bind, Act.put, List.setIfInBounds_toArray, List.set_cons_succ, List.set_cons_zero] at hA; subst hA
      have e0 : u 0 = _ := hd 0 (by omega)
      have e1 : u 1 = _ := hd 1 (by omega)
      have p2 := hd 2 (by omega)
      have p3 := hd 3 (by omega)
      have p4 := hd 4 (by omega)
      have ne2_3 := hf 2 3 (by omega) (by omega) (by omega) rfl rfl
      try simp only [e0, e1]
      try clear e0 e1
      clear hd hf
      obtain ⟨gL, eL, zL, bL⟩ := p4
      obtain ⟨gR, cR2, eR, zR, sR, bR⟩ := p3
      have hne : gL ≠ gR := fun h => ne2_3 (by rw [eL, eR, h])
      simp only [eL, eR]
      clear p2 ne2_3 eL eR
      dsimp only [List.drop]
      refine wpList_store_row rfl 37 _ _ rfl gR #[.slice AR F.m cR, .int .i64 F.dep, .int .i64 F.fuel, .int .i64 F.burn, .int .i64 F.res] rfl rfl 37 cR2 bR Tryz.sizeFli sR (by simp [Value.oneCell']) ?_
      have H4 := Lib.hid (bthen (RowKit.Below.drew (RowKit.Below.refl _ w7)) (below_row hj zR #[.slice AR F.m cR, .int .i64 F.dep, .int .i64 F.fuel, .int .i64 F.burn, .int .i64 F.res]))
      have HG1 := Lib.hid (show Blk (w1.setRow gR #[.slice AR F.m cR, .int .i64 F.dep, .int .i64 F.fuel, .int .i64 F.burn, .int .i64 F.res]) gL 37 #[.slice AR F.m cR, .int .i64 F.dep, .int .i64 F.fuel, .int .i64 F.burn, .int .i64 F.res] from fblk_ne bL hne)
      have HG2 := Lib.hid (show Blk (w1.setRow gR #[.slice AR F.m cR, .int .i64 F.dep, .int .i64 F.fuel, .int .i64 F.burn, .int .i64 F.res]) gR 37 #[.slice AR F.m cR, .int .i64 F.dep, .int .i64 F.fuel, .int .i64 F.burn, .int .i64 F.res] from fblk_set bR)
      have zL2 : w7.heap.size ≤ gL := zL
      have zR2 : w7.heap.size ≤ gR := zR
      clear zL zR sR bL bR hj hJF
      generalize w1.setRow gR #[.slice AR F.m cR, .int .i64 F.dep, .int .i64 F.fuel, .int .i64 F.burn, .int .i64 F.res] = w8 at *
      have hy7 := HY.out.lt
      have nX := Lib.hid (HX.out.below H4.out)
      have nY := Lib.hid (HY.out.below H4.out)
      have nB := Lib.hid (bthen HB.out H4.out)
      clear HX HY HB H4
      have HX := nX
      have HY := nY
      have HB := nB
      clear nX nY nB
      have hwf : IntKind.i64.wrap (F.fuel + 1) = F.fuel + 1 := by rw [IntKind.wrap_i64]; omega
      have hXL : w.heap.size ≠ gL := by omega
      have hXR : w.heap.size ≠ gR := by omega
      have hYL : w.heap.size + 1 ≠ gL := by omega
      have hYR : w.heap.size + 1 ≠ gR := by omega
      have y2 := HY.out.cell 2
      have g2 := HG1.out.cell 2
      have gf := fun i => HG1.out.frozen i
      have y4 := (HY.out.far (p := ⟨gL, 2, none⟩) hYL (.int .i64 (min 100000 (F.fuel + 1)))).cell 4
      have r4 := (HG2.out.far (p := ⟨gL, 2, none⟩) (Ne.symm hne) (.int .i64 (min 100000 (F.fuel + 1)))).cell 4
      have rf := fun i => (HG2.out.far (p := ⟨gL, 2, none⟩) (Ne.symm hne) (.int .i64 (min 100000 (F.fuel + 1)))).frozen i
      simp only [List.getElem?_toArray, List.getElem?_cons_succ, List.getElem?_cons_zero] at y2 g2 y4 r4
      have K9 : Hid (Blk ((w8.setCell ⟨gL, 2, none⟩ (.int .i64 (min 100000 (F.fuel + 1)))).setCell ⟨gR, 4, none⟩ (.int .i64 (F.res / 2))) w.heap.size 34 #[.int .i64 M.places, .int .i64 M.any.a0, .int .i64 M.any.a1, .int .i64 M.any.a2, .int .i64 M.any.a3, .int .i64 M.any.a4, .int .i64 M.any.a5, .bool M.any.i, .bool M.any.s, .int .i64 M.mw, .int .i64 M.ms, .int .i64 M.mc, vF, vS, .int .i64 lw, .int .i64 ls, .int .i64 lc, .bool li, .bool lb, .slice A n c] ∧ Blk ((w8.setCell ⟨gL, 2, none⟩ (.int .i64 (min 100000 (F.fuel + 1)))).setCell ⟨gR, 4, none⟩ (.int .i64 (F.res / 2))) (w.heap.size + 1) 37 #[.slice AR F.m cR, .int .i64 F.dep, .int .i64 F.fuel, .int .i64 F.burn, .int .i64 F.res] ∧ Blk ((w8.setCell ⟨gL, 2, none⟩ (.int .i64 (min 100000 (F.fuel + 1)))).setCell ⟨gR, 4, none⟩ (.int .i64 (F.res / 2))) gL 37 #[.slice AR F.m cR, .int .i64 F.dep, .int .i64 (min 100000 (F.fuel + 1)), .int .i64 F.burn, .int .i64 F.res] ∧ Blk ((w8.setCell ⟨gL, 2, none⟩ (.int .i64 (min 100000 (F.fuel + 1)))).setCell ⟨gR, 4, none⟩ (.int .i64 (F.res / 2))) gR 37 #[.slice AR F.m cR, .int .i64 F.dep, .int .i64 F.fuel, .int .i64 F.burn, .int .i64 (F.res / 2)] ∧ RowKit.Below w.heap.size w ((w8.setCell ⟨gL, 2, none⟩ (.int .i64 (min 100000 (F.fuel + 1)))).setCell ⟨gR, 4, none⟩ (.int .i64 (F.res / 2)))) :=
        Lib.hid ⟨(HX.out.far (p := ⟨gL, 2, none⟩) hXL _).far (p := ⟨gR, 4, none⟩) hXR _, (HY.out.far (p := ⟨gL, 2, none⟩) hYL _).far (p := ⟨gR, 4, none⟩) hYR _, (HG1.out.set_ 2 _).far (p := ⟨gR, 4, none⟩) hne _, (HG2.out.far (p := ⟨gL, 2, none⟩) (Ne.symm hne) _).set_ 4 _, bset (bset HB.out (by omega) _) (by omega) _⟩
      have hwl : IntKind.i64.wrap (lw + 1) = lw + 1 := by rw [IntKind.wrap_i64]; omega
      obtain ⟨a5, hs5⟩ := HS5'.out (F.res / 2) (by omega) (by omega)
      obtain ⟨a6, hs6⟩ := HS6'.out (min 300 (lw + 1)) (ls / 2) (lc / 2) (by omega) (by omega) (by omega) (by omega) (by omega) (by omega)
      have HC5 := Lib.hid hs5
      have HC6 := Lib.hid hs6
      clear hs5 hs6 HS5' HS6'
      have tokS : True := trivial
      have tokG : True := trivial
      have tok3 : True := trivial
      have tok4 : True := trivial
      have tokH : True := trivial
      try dsimp only [NoPanic]
      go_wp2_with (first | (have _t := tokG; generalize hWX : World.setCell (World.setCell w8 _ _) _ _ = w9; clear tokG; have n9 := K9.out; rw [hWX] at n9; clear hWX K9 HX HY HB HG1 HG2 y2 g2 gf y4 r4 rf; obtain ⟨nX, nY, n1, n2, nB⟩ := n9; have HX := Lib.hid nX; have HY := Lib.hid nY; have HG1 := Lib.hid n1; have HG2 := Lib.hid n2; have HB := Lib.hid nB; clear nX nY n1 n2 nB; have x14 := HX.out.cell 14; have x15 := HX.out.cell 15; have x16 := HX.out.cell 16; have x18 := HX.out.cell 18; simp only [List.getElem?_toArray, List.getElem?_cons_succ, List.getElem?_cons_zero] at x14 x15 x16 x18) | (have _t := tokS; refine wpl_store_newR rfl 31 (.tmp 19) (.tmp 169) rfl #[.int .i64 (min 300 (lw + 1)), .int .i64 (ls / 2), .int .i64 (lc / 2), .bool true, .bool lb] _ _ rfl ?_ rfl Tryz.sizeMin9 rfl (by simp [Value.oneCell']) ?_; (focus (simp; done)); simp only [Act.put]; clear tokS) | (have _t := tok3; refine wpl_mid rfl 29 _ rfl w.heap.size 0 rfl 34 #[.int .i64 M.places, .int .i64 M.any.a0, .int .i64 M.any.a1, .int .i64 M.any.a2, .int .i64 M.any.a3, .int .i64 M.any.a4, .int .i64 M.any.a5, .bool M.any.i, .bool M.any.s, .int .i64 M.mw, .int .i64 M.ms, .int .i64 M.mc, vF, vS, .int .i64 lw, .int .i64 ls, .int .i64 lc, .bool li, .bool lb, .slice A n c] #[.int .i64 M.places, .int .i64 M.any.a0, .int .i64 M.any.a1, .int .i64 M.any.a2, .int .i64 M.any.a3, .int .i64 M.any.a4, .int .i64 M.any.a5, .bool M.any.i, .bool M.any.s, .int .i64 M.mw, .int .i64 M.ms, .int .i64 M.mc, vF, vS] 14 (HX.out.alloc _) Tryz.rowMet [] [.int .i64 lw, .int .i64 ls, .int .i64 lc, .bool li, .bool lb, .slice A n c] rfl rfl rfl ?_; simp only [Act.put]; clear tok3; generalize hWX : World.alloc w9 _ = w10; have nX := HX.out.alloc (.cells #[.int .i64 (min 300 (lw + 1)), .int .i64 (ls / 2), .int .i64 (lc / 2), .bool true, .bool lb] 31); have nY := HY.out.alloc (.cells #[.int .i64 (min 300 (lw + 1)), .int .i64 (ls / 2), .int .i64 (lc / 2), .bool true, .bool lb] 31); have n1 := HG1.out.alloc (.cells #[.int .i64 (min 300 (lw + 1)), .int .i64 (ls / 2), .int .i64 (lc / 2), .bool true, .bool lb] 31); have n2 := HG2.out.alloc (.cells #[.int .i64 (min 300 (lw + 1)), .int .i64 (ls / 2), .int .i64 (lc / 2), .bool true, .bool lb] 31); have nB := bal HB.out (.cells #[.int .i64 (min 300 (lw + 1)), .int .i64 (ls / 2), .int .i64 (lc / 2), .bool true, .bool lb] 31); have nM := Blk.new w9 31 #[.int .i64 (min 300 (lw + 1)), .int .i64 (ls / 2), .int .i64 (lc / 2), .bool true, .bool lb]; rw [hWX] at nX nY n1 n2 nB nM; clear hWX HX HY HB HG1 HG2 x14 x15 x16 x18; have HX := Lib.hid nX; have HY := Lib.hid nY; have HG1 := Lib.hid n1; have HG2 := Lib.hid n2; have HMI := Lib.hid nM; have HB := Lib.hid nB; clear nX nY n1 n2 nB nM; have x19 := HX.out.cell 19; simp only [List.getElem?_toArray, List.getElem?_cons_succ, List.getElem?_cons_zero] at x19) | (have _t := tok4; refine wpl_mid rfl 31 _ rfl w.heap.size 14 rfl 34 #[.int .i64 M.places, .int .i64 M.any.a0, .int .i64 M.any.a1, .int .i64 M.any.a2, .int .i64 M.any.a3, .int .i64 M.any.a4, .int .i64 M.any.a5, .bool M.any.i, .bool M.any.s, .int .i64 M.mw, .int .i64 M.ms, .int .i64 M.mc, vF, vS, .int .i64 lw, .int .i64 ls, .int .i64 lc, .bool li, .bool lb, .slice A n c] #[.int .i64 lw, .int .i64 ls, .int .i64 lc, .bool li, .bool lb] 5 HX.out Tryz.rowMin [.int .i64 M.places, .int .i64 M.any.a0, .int .i64 M.any.a1, .int .i64 M.any.a2, .int .i64 M.any.a3, .int .i64 M.any.a4, .int .i64 M.any.a5, .bool M.any.i, .bool M.any.s, .int .i64 M.mw, .int .i64 M.ms, .int .i64 M.mc, vF, vS] [.slice A n c] rfl rfl rfl ?_; simp only [Act.put]; clear tok4) | (have _t := tokH; refine wpl_row rfl 37 (.tmp 17) rfl _ rfl #[.slice AR F.m cR, .int .i64 F.dep, .int .i64 (min 100000 (F.fuel + 1)), .int .i64 F.burn, .int .i64 F.res] 5 HG1.out Tryz.rowFli rfl ?_; simp only [Act.put]; clear tokH))
      refine (HS4'.out _ (HM.out.below HB.out) (HL.out.below HB.out) (HR.out.below HB.out)).mono ?_
      rintro e w11 ⟨rfl, hbX⟩
      clear x19
      have nHX := Lib.hid (HX.out.below hbX)
      have nHY := Lib.hid (HY.out.below hbX)
      have nHG1 := Lib.hid (HG1.out.below hbX)
      have nHG2 := Lib.hid (HG2.out.below hbX)
      have nHMI := Lib.hid (HMI.out.below hbX)
      have nHB := Lib.hid (bthen HB.out hbX)
      clear HX HY HG1 HG2 HMI HB hbX
      have HX := nHX
      have HY := nHY
      have HG1 := nHG1
      have HG2 := nHG2
      have HMI := nHMI
      have HB := nHB
      clear nHX nHY nHG1 nHG2 nHMI nHB
      have x19 := HX.out.cell 19
      simp only [List.getElem?_toArray, List.getElem?_cons_succ, List.getElem?_cons_zero] at x19
      have tok3 : True := trivial
      have tok4 : True := trivial
      have tokH : True := trivial
      go_wp2_with (first | (have _t := tok3; refine wpl_mid rfl 29 _ rfl w.heap.size 0 rfl 34 #[.int .i64 M.places, .int .i64 M.any.a0, .int .i64 M.any.a1, .int .i64 M.any.a2, .int .i64 M.any.a3, .int .i64 M.any.a4, .int .i64 M.any.a5, .bool M.any.i, .bool M.any.s, .int .i64 M.mw, .int .i64 M.ms, .int .i64 M.mc, vF, vS, .int .i64 lw, .int .i64 ls, .int .i64 lc, .bool li, .bool lb, .slice A n c] #[.int .i64 M.places, .int .i64 M.any.a0, .int .i64 M.any.a1, .int .i64 M.any.a2, .int .i64 M.any.a3, .int .i64 M.any.a4, .int .i64 M.any.a5, .bool M.any.i, .bool M.any.s, .int .i64 M.mw, .int .i64 M.ms, .int .i64 M.mc, vF, vS] 14 HX.out Tryz.rowMet [] [.int .i64 lw, .int .i64 ls, .int .i64 lc, .bool li, .bool lb, .slice A n c] rfl rfl rfl ?_; simp only [Act.put]; clear tok3) | (have _t := tok4; refine wpl_mid rfl 31 _ rfl w.heap.size 14 rfl 34 #[.int .i64 M.places, .int .i64 M.any.a0, .int .i64 M.any.a1, .int .i64 M.any.a2, .int .i64 M.any.a3, .int .i64 M.any.a4, .int .i64 M.any.a5, .bool M.any.i, .bool M.any.s, .int .i64 M.mw, .int .i64 M.ms, .int .i64 M.mc, vF, vS, .int .i64 lw, .int .i64 ls, .int .i64 lc, .bool li, .bool lb, .slice A n c] #[.int .i64 lw, .int .i64 ls, .int .i64 lc, .bool li, .bool lb] 5 HX.out Tryz.rowMin [.int .i64 M.places, .int .i64 M.any.a0, .int .i64 M.any.a1, .int .i64 M.any.a2, .int .i64 M.any.a3, .int .i64 M.any.a4, .int .i64 M.any.a5, .bool M.any.i, .bool M.any.s, .int .i64 M.mw, .int .i64 M.ms, .int .i64 M.mc, vF, vS] [.slice A n c] rfl rfl rfl ?_; simp only [Act.put]; clear tok4) | (have _t := tokH; refine wpl_row rfl 37 (.tmp 18) rfl _ rfl #[.slice AR F.m cR, .int .i64 F.dep, .int .i64 F.fuel, .int .i64 F.burn, .int .i64 (F.res / 2)] 5 HG2.out Tryz.rowFli rfl ?_; simp only [Act.put]; clear tokH))
      refine (HC5.out _ (HM.out.below HB.out) (HL.out.below HB.out) (HR.out.below HB.out)).mono ?_
      rintro e w12 ⟨rfl, hbX⟩
      clear x19
      have nHX := Lib.hid (HX.out.below hbX)
      have nHY := Lib.hid (HY.out.below hbX)
      have nHG1 := Lib.hid (HG1.out.below hbX)
      have nHG2 := Lib.hid (HG2.out.below hbX)
      have nHMI := Lib.hid (HMI.out.below hbX)
      have nHB := Lib.hid (bthen HB.out hbX)
      clear HX HY HG1 HG2 HMI HB hbX
      have HX := nHX
      have HY := nHY
      have HG1 := nHG1
      have HG2 := nHG2
      have HMI := nHMI
      have HB := nHB
      clear nHX nHY nHG1 nHG2 nHMI nHB
      have x19 := HX.out.cell 19
      simp only [List.getElem?_toArray, List.getElem?_cons_succ, List.getElem?_cons_zero] at x19
      have tok2 : True := trivial
      have tok3 : True := trivial
      have tokH : True := trivial
      go_wp2_with (first | (have _t := tok3; refine wpl_mid rfl 29 _ rfl w.heap.size 0 rfl 34 #[.int .i64 M.places, .int .i64 M.any.a0, .int .i64 M.any.a1, .int .i64 M.any.a2, .int .i64 M.any.a3, .int .i64 M.any.a4, .int .i64 M.any.a5, .bool M.any.i, .bool M.any.s, .int .i64 M.mw, .int .i64 M.ms, .int .i64 M.mc, vF, vS, .int .i64 lw, .int .i64 ls, .int .i64 lc, .bool li, .bool lb, .slice A n c] #[.int .i64 M.places, .int .i64 M.any.a0, .int .i64 M.any.a1, .int .i64 M.any.a2, .int .i64 M.any.a3, .int .i64 M.any.a4, .int .i64 M.any.a5, .bool M.any.i, .bool M.any.s, .int .i64 M.mw, .int .i64 M.ms, .int .i64 M.mc, vF, vS] 14 HX.out Tryz.rowMet [] [.int .i64 lw, .int .i64 ls, .int .i64 lc, .bool li, .bool lb, .slice A n c] rfl rfl rfl ?_; simp only [Act.put]; clear tok3) | (have _t := tokH; refine wpl_row rfl 31 (.tmp 19) rfl _ rfl #[.int .i64 (min 300 (lw + 1)), .int .i64 (ls / 2), .int .i64 (lc / 2), .bool true, .bool lb] 5 HMI.out Tryz.rowMin rfl ?_; simp only [Act.put]; clear tokH) | (have _t := tok2; refine wpl_row rfl 37 (.tmp 3) rfl _ rfl #[.slice AR F.m cR, .int .i64 F.dep, .int .i64 F.fuel, .int .i64 F.burn, .int .i64 F.res] 5 HY.out Tryz.rowFli rfl ?_; simp only [Act.put]; clear tok2))
      refine (HC6.out _ (HM.out.below HB.out) (HL.out.below HB.out) (HR.out.below HB.out)).mono ?_
      rintro e w13 ⟨rfl, hbX⟩
      clear x19 HG1 HG2 HMI
      have nHX := Lib.hid (HX.out.below hbX)
      have nHY := Lib.hid (HY.out.below hbX)
      have nHB := Lib.hid (bthen HB.out hbX)
      clear HX HY HB hbX
      have HX := nHX
      have HY := nHY
      have HB := nHB
      clear nHX nHY nHB
      go_wp2_with (first | ((with_reducible refine (rworks_c _).mono ?_); rintro e w1 ⟨rfl, hb1⟩; have nHX := Lib.hid (HX.out.below hb1); have nHY := Lib.hid (HY.out.below hb1); have nHB := Lib.hid (bthen HB.out hb1); have zz1 := hb1.size; clear HX HY HB hb1; have HX := nHX; have HY := nHY; have HB := nHB; clear nHX nHY nHB))
      go_ret
      exact ⟨rfl, HB.out⟩
  · have hgt : ¬ nn > 0 := h0
    clear H3Z h0
    go_wp2_with (fail)
    have hJF := Lib.hid (fun (b : World) (h : RowKit.Below w7.drew.heap.size w7.drew b) => (show Blk b (w.heap.size + 1) 37 #[.slice AR F.m cR, .int .i64 F.dep, .int .i64 F.fuel, .int .i64 F.burn, .int .i64 F.res] from Blk.under (W := w7.drew) HY.out h HY.out.lt))
    refine wp_region_specU (fpG w7.drew.heap.size) (fun b => RowKit.Below w7.drew.heap.size w7.drew b) fpG_size fpG_J (RowKit.Below.refl _ _) 5 (fpR w7.drew.heap.size #[.slice AR F.m cR, .int .i64 F.dep, .int .i64 F.fuel, .int .i64 F.burn, .int .i64 F.res]) (fun i => decide (i = 2) || decide (i = 3)) (by kernel_rfl) (by kernel_rfl) fpG_R (fpG_U (List.contains_iff_mem.1 (by kernel_rfl))) ?hopu433 ?htailu433
    case hopu433 =>
      simp only [List.take_succ_cons, List.take_zero, allOps]
      refine ⟨?_, ?_, ?_, ?_, ?_, trivial⟩
      all_goals intro u A w1 hA hj hd
      all_goals simp only [putAll, dstOf, List.getElem?_toArray, List.getElem?_cons_succ, List.getElem?_cons_zero, Option.bind_some, Option.bind, Act.put, List.setIfInBounds_toArray, List.set_cons_succ, List.set_cons_zero] at hA; subst hA
      · clear hd
        go_wp2_with (refine wpl_row rfl 37 (.tmp 3) rfl _ rfl #[.slice AR F.m cR, .int .i64 F.dep, .int .i64 F.fuel, .int .i64 F.burn, .int .i64 F.res] 5 (hJF.out _ hj) Tryz.rowFli rfl ?_; simp only [Act.put])
        exact ⟨_, rfl, (RowKit.Below.refl _ _), rfl, fun h => absurd h (by decide)⟩
      · clear hd
        go_wp2_with (refine wpl_row rfl 37 (.tmp 3) rfl _ rfl #[.slice AR F.m cR, .int .i64 F.dep, .int .i64 F.fuel, .int .i64 F.burn, .int .i64 F.res] 5 (hJF.out _ hj) Tryz.rowFli rfl ?_; simp only [Act.put])
        exact ⟨_, rfl, (RowKit.Below.refl _ _), rfl, fun h => absurd h (by decide)⟩
      · clear hd
        go_wp2
        exact ⟨_, rfl, bal (RowKit.Below.refl _ _) _, ⟨_, _, rfl, hj.size, rfl, Blk.new _ _ _⟩, fun _ => ⟨_, rfl, Nat.le_refl _, by simp⟩⟩
      · clear hd
        go_wp2
        exact ⟨_, rfl, bal (RowKit.Below.refl _ _) _, ⟨_, _, rfl, hj.size, rfl, Blk.new _ _ _⟩, fun _ => ⟨_, rfl, Nat.le_refl _, by simp⟩⟩
      · have d0 : u 0 = _ := hd 0 (by omega) (by kernel_rfl)
        have d2 := hd 2 (by omega) (by kernel_rfl)
        have d3 := hd 3 (by omega) (by kernel_rfl)
        clear hd
        try simp only [d0]
        try clear d0
        obtain ⟨g, c2, e2, z2, s2, b2⟩ := d2
        rw [e2]
        refine wpList_store_row rfl 37 _ _ rfl g #[.slice AR F.m cR, .int .i64 F.dep, .int .i64 F.fuel, .int .i64 F.burn, .int .i64 F.res] rfl rfl 37 c2 b2 Tryz.sizeFli s2 (by simp [Value.oneCell']) ?_
        exact ⟨_, rfl, ⟨g, _, z2, rfl, rfl⟩, ⟨g, e2, z2, fblk_set b2⟩, fun h => absurd h (by decide)⟩
    case htailu433 =>
      intro u A w1 hA hj hd hf
      simp only [putAll, dstOf, List.getElem?_toArray, List.getElem?_cons_succ, List.getElem?_cons_zero, Option.bind_some, Option.bind, Act.put, List.setIfInBounds_toArray, List.set_cons_succ, List.set_cons_zero] at hA; subst hA
      have e0 : u 0 = _ := hd 0 (by omega)
      have e1 : u 1 = _ := hd 1 (by omega)
      have p2 := hd 2 (by omega)
      have p3 := hd 3 (by omega)
      have p4 := hd 4 (by omega)
      have ne2_3 := hf 2 3 (by omega) (by omega) (by omega) rfl rfl
      try simp only [e0, e1]
      try clear e0 e1
      clear hd hf
      obtain ⟨gL, eL, zL, bL⟩ := p4
      obtain ⟨gR, cR2, eR, zR, sR, bR⟩ := p3
      have hne : gL ≠ gR := fun h => ne2_3 (by rw [eL, eR, h])
      simp only [eL, eR]
      clear p2 ne2_3 eL eR
      dsimp only [List.drop]
      refine wpList_store_row rfl 37 _ _ rfl gR #[.slice AR F.m cR, .int .i64 F.dep, .int .i64 F.fuel, .int .i64 F.burn, .int .i64 F.res] rfl rfl 37 cR2 bR Tryz.sizeFli sR (by simp [Value.oneCell']) ?_
      have H4 := Lib.hid (bthen (RowKit.Below.drew (RowKit.Below.refl _ w7)) (below_row hj zR #[.slice AR F.m cR, .int .i64 F.dep, .int .i64 F.fuel, .int .i64 F.burn, .int .i64 F.res]))
      have HG1 := Lib.hid (show Blk (w1.setRow gR #[.slice AR F.m cR, .int .i64 F.dep, .int .i64 F.fuel, .int .i64 F.burn, .int .i64 F.res]) gL 37 #[.slice AR F.m cR, .int .i64 F.dep, .int .i64 F.fuel, .int .i64 F.burn, .int .i64 F.res] from fblk_ne bL hne)
      have HG2 := Lib.hid (show Blk (w1.setRow gR #[.slice AR F.m cR, .int .i64 F.dep, .int .i64 F.fuel, .int .i64 F.burn, .int .i64 F.res]) gR 37 #[.slice AR F.m cR, .int .i64 F.dep, .int .i64 F.fuel, .int .i64 F.burn, .int .i64 F.res] from fblk_set bR)
      have zL2 : w7.heap.size ≤ gL := zL
      have zR2 : w7.heap.size ≤ gR := zR
      clear zL zR sR bL bR hj hJF
      generalize w1.setRow gR #[.slice AR F.m cR, .int .i64 F.dep, .int .i64 F.fuel, .int .i64 F.burn, .int .i64 F.res] = w8 at *
      have hy7 := HY.out.lt
      have nX := Lib.hid (HX.out.below H4.out)
      have nY := Lib.hid (HY.out.below H4.out)
      have nB := Lib.hid (bthen HB.out H4.out)
      clear HX HY HB H4
      have HX := nX
      have HY := nY
      have HB := nB
      clear nX nY nB
      have hwf : IntKind.i64.wrap (F.fuel + 1) = F.fuel + 1 := by rw [IntKind.wrap_i64]; omega
      have hXL : w.heap.size ≠ gL := by omega
      have hXR : w.heap.size ≠ gR := by omega
      have hYL : w.heap.size + 1 ≠ gL := by omega
      have hYR : w.heap.size + 1 ≠ gR := by omega
      have y2 := HY.out.cell 2
      have g2 := HG1.out.cell 2
      have gf := fun i => HG1.out.frozen i
      have y4 := (HY.out.far (p := ⟨gL, 2, none⟩) hYL (.int .i64 (min 100000 (F.fuel + 1)))).cell 4
      have r4 := (HG2.out.far (p := ⟨gL, 2, none⟩) (Ne.symm hne) (.int .i64 (min 100000 (F.fuel + 1)))).cell 4
      have rf := fun i => (HG2.out.far (p := ⟨gL, 2, none⟩) (Ne.symm hne) (.int .i64 (min 100000 (F.fuel + 1)))).frozen i
      simp only [List.getElem?_toArray, List.getElem?_cons_succ, List.getElem?_cons_zero] at y2 g2 y4 r4
      have K9 : Hid (Blk ((w8.setCell ⟨gL, 2, none⟩ (.int .i64 (min 100000 (F.fuel + 1)))).setCell ⟨gR, 4, none⟩ (.int .i64 (F.res / 2))) w.heap.size 34 #[.int .i64 M.places, .int .i64 M.any.a0, .int .i64 M.any.a1, .int .i64 M.any.a2, .int .i64 M.any.a3, .int .i64 M.any.a4, .int .i64 M.any.a5, .bool M.any.i, .bool M.any.s, .int .i64 M.mw, .int .i64 M.ms, .int .i64 M.mc, vF, vS, .int .i64 lw, .int .i64 ls, .int .i64 lc, .bool li, .bool lb, .slice A n c] ∧ Blk ((w8.setCell ⟨gL, 2, none⟩ (.int .i64 (min 100000 (F.fuel + 1)))).setCell ⟨gR, 4, none⟩ (.int .i64 (F.res / 2))) (w.heap.size + 1) 37 #[.slice AR F.m cR, .int .i64 F.dep, .int .i64 F.fuel, .int .i64 F.burn, .int .i64 F.res] ∧ Blk ((w8.setCell ⟨gL, 2, none⟩ (.int .i64 (min 100000 (F.fuel + 1)))).setCell ⟨gR, 4, none⟩ (.int .i64 (F.res / 2))) gL 37 #[.slice AR F.m cR, .int .i64 F.dep, .int .i64 (min 100000 (F.fuel + 1)), .int .i64 F.burn, .int .i64 F.res] ∧ Blk ((w8.setCell ⟨gL, 2, none⟩ (.int .i64 (min 100000 (F.fuel + 1)))).setCell ⟨gR, 4, none⟩ (.int .i64 (F.res / 2))) gR 37 #[.slice AR F.m cR, .int .i64 F.dep, .int .i64 F.fuel, .int .i64 F.burn, .int .i64 (F.res / 2)] ∧ RowKit.Below w.heap.size w ((w8.setCell ⟨gL, 2, none⟩ (.int .i64 (min 100000 (F.fuel + 1)))).setCell ⟨gR, 4, none⟩ (.int .i64 (F.res / 2)))) :=
        Lib.hid ⟨(HX.out.far (p := ⟨gL, 2, none⟩) hXL _).far (p := ⟨gR, 4, none⟩) hXR _, (HY.out.far (p := ⟨gL, 2, none⟩) hYL _).far (p := ⟨gR, 4, none⟩) hYR _, (HG1.out.set_ 2 _).far (p := ⟨gR, 4, none⟩) hne _, (HG2.out.far (p := ⟨gL, 2, none⟩) (Ne.symm hne) _).set_ 4 _, bset (bset HB.out (by omega) _) (by omega) _⟩
      have hwl : IntKind.i64.wrap (lw + 1) = lw + 1 := by rw [IntKind.wrap_i64]; omega
      obtain ⟨a5, hs5⟩ := HS5'.out (F.res / 2) (by omega) (by omega)
      obtain ⟨a6, hs6⟩ := HS6'.out (min 300 (lw + 1)) (ls / 2) (lc / 2) (by omega) (by omega) (by omega) (by omega) (by omega) (by omega)
      have HC5 := Lib.hid hs5
      have HC6 := Lib.hid hs6
      clear hs5 hs6 HS5' HS6'
      have tokS : True := trivial
      have tokG : True := trivial
      have tok3 : True := trivial
      have tok4 : True := trivial
      have tokH : True := trivial
      try dsimp only [NoPanic]
      go_wp2_with (first | (have _t := tokG; generalize hWX : World.setCell (World.setCell w8 _ _) _ _ = w9; clear tokG; have n9 := K9.out; rw [hWX] at n9; clear hWX K9 HX HY HB HG1 HG2 y2 g2 gf y4 r4 rf; obtain ⟨nX, nY, n1, n2, nB⟩ := n9; have HX := Lib.hid nX; have HY := Lib.hid nY; have HG1 := Lib.hid n1; have HG2 := Lib.hid n2; have HB := Lib.hid nB; clear nX nY n1 n2 nB; have x14 := HX.out.cell 14; have x15 := HX.out.cell 15; have x16 := HX.out.cell 16; have x18 := HX.out.cell 18; simp only [List.getElem?_toArray, List.getElem?_cons_succ, List.getElem?_cons_zero] at x14 x15 x16 x18) | (have _t := tokS; refine wpl_store_newR rfl 31 (.tmp 19) (.tmp 169) rfl #[.int .i64 (min 300 (lw + 1)), .int .i64 (ls / 2), .int .i64 (lc / 2), .bool true, .bool lb] _ _ rfl ?_ rfl Tryz.sizeMin9 rfl (by simp [Value.oneCell']) ?_; (focus (simp; done)); simp only [Act.put]; clear tokS) | (have _t := tok3; refine wpl_mid rfl 29 _ rfl w.heap.size 0 rfl 34 #[.int .i64 M.places, .int .i64 M.any.a0, .int .i64 M.any.a1, .int .i64 M.any.a2, .int .i64 M.any.a3, .int .i64 M.any.a4, .int .i64 M.any.a5, .bool M.any.i, .bool M.any.s, .int .i64 M.mw, .int .i64 M.ms, .int .i64 M.mc, vF, vS, .int .i64 lw, .int .i64 ls, .int .i64 lc, .bool li, .bool lb, .slice A n c] #[.int .i64 M.places, .int .i64 M.any.a0, .int .i64 M.any.a1, .int .i64 M.any.a2, .int .i64 M.any.a3, .int .i64 M.any.a4, .int .i64 M.any.a5, .bool M.any.i, .bool M.any.s, .int .i64 M.mw, .int .i64 M.ms, .int .i64 M.mc, vF, vS] 14 (HX.out.alloc _) Tryz.rowMet [] [.int .i64 lw, .int .i64 ls, .int .i64 lc, .bool li, .bool lb, .slice A n c] rfl rfl rfl ?_; simp only [Act.put]; clear tok3; generalize hWX : World.alloc w9 _ = w10; have nX := HX.out.alloc (.cells #[.int .i64 (min 300 (lw + 1)), .int .i64 (ls / 2), .int .i64 (lc / 2), .bool true, .bool lb] 31); have nY := HY.out.alloc (.cells #[.int .i64 (min 300 (lw + 1)), .int .i64 (ls / 2), .int .i64 (lc / 2), .bool true, .bool lb] 31); have n1 := HG1.out.alloc (.cells #[.int .i64 (min 300 (lw + 1)), .int .i64 (ls / 2), .int .i64 (lc / 2), .bool true, .bool lb] 31); have n2 := HG2.out.alloc (.cells #[.int .i64 (min 300 (lw + 1)), .int .i64 (ls / 2), .int .i64 (lc / 2), .bool true, .bool lb] 31); have nB := bal HB.out (.cells #[.int .i64 (min 300 (lw + 1)), .int .i64 (ls / 2), .int .i64 (lc / 2), .bool true, .bool lb] 31); have nM := Blk.new w9 31 #[.int .i64 (min 300 (lw + 1)), .int .i64 (ls / 2), .int .i64 (lc / 2), .bool true, .bool lb]; rw [hWX] at nX nY n1 n2 nB nM; clear hWX HX HY HB HG1 HG2 x14 x15 x16 x18; have HX := Lib.hid nX; have HY := Lib.hid nY; have HG1 := Lib.hid n1; have HG2 := Lib.hid n2; have HMI := Lib.hid nM; have HB := Lib.hid nB; clear nX nY n1 n2 nB nM; have x19 := HX.out.cell 19; simp only [List.getElem?_toArray, List.getElem?_cons_succ, List.getElem?_cons_zero] at x19) | (have _t := tok4; refine wpl_mid rfl 31 _ rfl w.heap.size 14 rfl 34 #[.int .i64 M.places, .int .i64 M.any.a0, .int .i64 M.any.a1, .int .i64 M.any.a2, .int .i64 M.any.a3, .int .i64 M.any.a4, .int .i64 M.any.a5, .bool M.any.i, .bool M.any.s, .int .i64 M.mw, .int .i64 M.ms, .int .i64 M.mc, vF, vS, .int .i64 lw, .int .i64 ls, .int .i64 lc, .bool li, .bool lb, .slice A n c] #[.int .i64 lw, .int .i64 ls, .int .i64 lc, .bool li, .bool lb] 5 HX.out Tryz.rowMin [.int .i64 M.places, .int .i64 M.any.a0, .int .i64 M.any.a1, .int .i64 M.any.a2, .int .i64 M.any.a3, .int .i64 M.any.a4, .int .i64 M.any.a5, .bool M.any.i, .bool M.any.s, .int .i64 M.mw, .int .i64 M.ms, .int .i64 M.mc, vF, vS] [.slice A n c] rfl rfl rfl ?_; simp only [Act.put]; clear tok4) | (have _t := tokH; refine wpl_row rfl 37 (.tmp 17) rfl _ rfl #[.slice AR F.m cR, .int .i64 F.dep, .int .i64 (min 100000 (F.fuel + 1)), .int .i64 F.burn, .int .i64 F.res] 5 HG1.out Tryz.rowFli rfl ?_; simp only [Act.put]; clear tokH))
      refine (HS4'.out _ (HM.out.below HB.out) (HL.out.below HB.out) (HR.out.below HB.out)).mono ?_
      rintro e w11 ⟨rfl, hbX⟩
      clear x19
      have nHX := Lib.hid (HX.out.below hbX)
      have nHY := Lib.hid (HY.out.below hbX)
      have nHG1 := Lib.hid (HG1.out.below hbX)
      have nHG2 := Lib.hid (HG2.out.below hbX)
      have nHMI := Lib.hid (HMI.out.below hbX)
      have nHB := Lib.hid (bthen HB.out hbX)
      clear HX HY HG1 HG2 HMI HB hbX
      have HX := nHX
      have HY := nHY
      have HG1 := nHG1
      have HG2 := nHG2
      have HMI := nHMI
      have HB := nHB
      clear nHX nHY nHG1 nHG2 nHMI nHB
      have x19 := HX.out.cell 19
      simp only [List.getElem?_toArray, List.getElem?_cons_succ, List.getElem?_cons_zero] at x19
      have tok3 : True := trivial
      have tok4 : True := trivial
      have tokH : True := trivial
      go_wp2_with (first | (have _t := tok3; refine wpl_mid rfl 29 _ rfl w.heap.size 0 rfl 34 #[.int .i64 M.places, .int .i64 M.any.a0, .int .i64 M.any.a1, .int .i64 M.any.a2, .int .i64 M.any.a3, .int .i64 M.any.a4, .int .i64 M.any.a5, .bool M.any.i, .bool M.any.s, .int .i64 M.mw, .int .i64 M.ms, .int .i64 M.mc, vF, vS, .int .i64 lw, .int .i64 ls, .int .i64 lc, .bool li, .bool lb, .slice A n c] #[.int .i64 M.places, .int .i64 M.any.a0, .int .i64 M.any.a1, .int .i64 M.any.a2, .int .i64 M.any.a3, .int .i64 M.any.a4, .int .i64 M.any.a5, .bool M.any.i, .bool M.any.s, .int .i64 M.mw, .int .i64 M.ms, .int .i64 M.mc, vF, vS] 14 HX.out Tryz.rowMet [] [.int .i64 lw, .int .i64 ls, .int .i64 lc, .bool li, .bool lb, .slice A n c] rfl rfl rfl ?_; simp only [Act.put]; clear tok3) | (have _t := tok4; refine wpl_mid rfl 31 _ rfl w.heap.size 14 rfl 34 #[.int .i64 M.places, .int .i64 M.any.a0, .int .i64 M.any.a1, .int .i64 M.any.a2, .int .i64 M.any.a3, .int .i64 M.any.a4, .int .i64 M.any.a5, .bool M.any.i, .bool M.any.s, .int .i64 M.mw, .int .i64 M.ms, .int .i64 M.mc, vF, vS, .int .i64 lw, .int .i64 ls, .int .i64 lc, .bool li, .bool lb, .slice A n c] #[.int .i64 lw, .int .i64 ls, .int .i64 lc, .bool li, .bool lb] 5 HX.out Tryz.rowMin [.int .i64 M.places, .int .i64 M.any.a0, .int .i64 M.any.a1, .int .i64 M.any.a2, .int .i64 M.any.a3, .int .i64 M.any.a4, .int .i64 M.any.a5, .bool M.any.i, .bool M.any.s, .int .i64 M.mw, .int .i64 M.ms, .int .i64 M.mc, vF, vS] [.slice A n c] rfl rfl rfl ?_; simp only [Act.put]; clear tok4) | (have _t := tokH; refine wpl_row rfl 37 (.tmp 18) rfl _ rfl #[.slice AR F.m cR, .int .i64 F.dep, .int .i64 F.fuel, .int .i64 F.burn, .int .i64 (F.res / 2)] 5 HG2.out Tryz.rowFli rfl ?_; simp only [Act.put]; clear tokH))
      refine (HC5.out _ (HM.out.below HB.out) (HL.out.below HB.out) (HR.out.below HB.out)).mono ?_
      rintro e w12 ⟨rfl, hbX⟩
      clear x19
      have nHX := Lib.hid (HX.out.below hbX)
      have nHY := Lib.hid (HY.out.below hbX)
      have nHG1 := Lib.hid (HG1.out.below hbX)
      have nHG2 := Lib.hid (HG2.out.below hbX)
      have nHMI := Lib.hid (HMI.out.below hbX)
      have nHB := Lib.hid (bthen HB.out hbX)
      clear HX HY HG1 HG2 HMI HB hbX
      have HX := nHX
      have HY := nHY
      have HG1 := nHG1
      have HG2 := nHG2
      have HMI := nHMI
      have HB := nHB
      clear nHX nHY nHG1 nHG2 nHMI nHB
      have x19 := HX.out.cell 19
      simp only [List.getElem?_toArray, List.getElem?_cons_succ, List.getElem?_cons_zero] at x19
      have tok2 : True := trivial
      have tok3 : True := trivial
      have tokH : True := trivial
      go_wp2_with (first | (have _t := tok3; refine wpl_mid rfl 29 _ rfl w.heap.size 0 rfl 34 #[.int .i64 M.places, .int .i64 M.any.a0, .int .i64 M.any.a1, .int .i64 M.any.a2, .int .i64 M.any.a3, .int .i64 M.any.a4, .int .i64 M.any.a5, .bool M.any.i, .bool M.any.s, .int .i64 M.mw, .int .i64 M.ms, .int .i64 M.mc, vF, vS, .int .i64 lw, .int .i64 ls, .int .i64 lc, .bool li, .bool lb, .slice A n c] #[.int .i64 M.places, .int .i64 M.any.a0, .int .i64 M.any.a1, .int .i64 M.any.a2, .int .i64 M.any.a3, .int .i64 M.any.a4, .int .i64 M.any.a5, .bool M.any.i, .bool M.any.s, .int .i64 M.mw, .int .i64 M.ms, .int .i64 M.mc, vF, vS] 14 HX.out Tryz.rowMet [] [.int .i64 lw, .int .i64 ls, .int .i64 lc, .bool li, .bool lb, .slice A n c] rfl rfl rfl ?_; simp only [Act.put]; clear tok3) | (have _t := tokH; refine wpl_row rfl 31 (.tmp 19) rfl _ rfl #[.int .i64 (min 300 (lw + 1)), .int .i64 (ls / 2), .int .i64 (lc / 2), .bool true, .bool lb] 5 HMI.out Tryz.rowMin rfl ?_; simp only [Act.put]; clear tokH) | (have _t := tok2; refine wpl_row rfl 37 (.tmp 3) rfl _ rfl #[.slice AR F.m cR, .int .i64 F.dep, .int .i64 F.fuel, .int .i64 F.burn, .int .i64 F.res] 5 HY.out Tryz.rowFli rfl ?_; simp only [Act.put]; clear tok2))
      refine (HC6.out _ (HM.out.below HB.out) (HL.out.below HB.out) (HR.out.below HB.out)).mono ?_
      rintro e w13 ⟨rfl, hbX⟩
      clear x19 HG1 HG2 HMI
      have nHX := Lib.hid (HX.out.below hbX)
      have nHY := Lib.hid (HY.out.below hbX)
      have nHB := Lib.hid (bthen HB.out hbX)
      clear HX HY HB hbX
      have HX := nHX
      have HY := nHY
      have HB := nHB
      clear nHX nHY nHB
      go_wp2_with (first | ((with_reducible refine (rworks_c _).mono ?_); rintro e w1 ⟨rfl, hb1⟩; have nHX := Lib.hid (HX.out.below hb1); have nHY := Lib.hid (HY.out.below hb1); have nHB := Lib.hid (bthen HB.out hb1); have zz1 := hb1.size; clear HX HY HB hb1; have HX := nHX; have HY := nHY; have HB := nHB; clear nHX nHY nHB))
      go_ret
      exact ⟨rfl, HB.out⟩
end Go.Proofs.YtbgkbdhdkpjcdaaGreat
