import Derived.Deep.MidRow
import Derived.Test.YtlambeiafdpkgaaGreatNfA
import Derived.Test.YtlambeiafdpkgaaGreatNfD
import Derived.Test.YtlambeiafdpkgaaGreatNfE
import Derived.Test.YtlambeiafdpkgaaGreatJBC
import Derived.Test.YtlambeiafdpkgaaGreatJBB
import Derived.Test.YtlambeiafdpkgaaGreatJBA
import Derived.Test.YtlambeiafdpkgaaGreatDnB
import Derived.Test.YtlambeiafdpkgaaGreatJBD
import Derived.Test.YtlambeiafdpkgaaGreatJAT
import Derived.Test.YtlambeiafdpkgaaGreatJAA
set_option linter.all false
namespace Go.Proofs.YtlambeiafdpkgaaGreat
open Go Go.RowKit Go.Proofs
set_option maxRecDepth 100000
set_option maxHeartbeats 20000000
theorem tri_q {w W : World} {c1 c2 c3 : Array Value} {T1 T2 T3 : TypeId} (h : World.alloc (World.alloc (World.alloc w (.cells c1 T1)) (.cells c2 T2)) (.cells c3 T3) = W) : Blk W w.heap.size T1 c1 ∧ Blk W (w.heap.size + 1) T2 c2 ∧ Blk W (w.heap.size + 1 + 1) T3 c3 ∧ RowKit.Below w.heap.size w W := by
 subst h
 exact tri_r w c1 c2 c3 T1 T2 T3
theorem tdA {a : Value} {l : List Value} {i : Nat} : (a :: l).drop (i + 1) = l.drop i := List.drop_succ_cons
theorem tdB {l : List Value} : l.drop 0 = l := List.drop_zero
theorem tdC {a : Value} {l : List Value} {i : Nat} : (a :: l).take (i + 1) = a :: l.take i := List.take_succ_cons
theorem tdD {l : List Value} : l.take 0 = [] := List.take_zero
theorem wpl_midT {P : Program} {ops : Array Oper} {rest : List Oper} {o : Oper} {a : Act} {w : World} {Q : Exit → Act → World → Prop} (hgd : o.guard = none) (ty : TypeId) (x : Operand) (ho : o.op = .load ty x)
  (g off : Nat) (hx : a.eval x = .pointer (some ⟨g, off, none⟩)) (tb : TypeId) (l : List Value) (n : Nat) (hB : Blk w g tb l.toArray) (hr : RowTy P ty n) (hl : off + n ≤ l.length)
  (h : wpList P ops Q rest (a.put o.dst (.agg ((l.drop off).take n).toArray)) w) : wpList P ops Q (o :: rest) a w :=
 wpl_mid hgd ty x ho g off hx tb _ _ n hB hr (l.take off) (l.drop (off + n)) (by simp; omega) (by simp [← List.drop_drop, List.take_append_drop]) (by simp; omega) h
theorem wpl_midT_g {P : Program} {ops : Array Oper} {rest : List Oper} {o : Oper} {a : Act} {w : World} {Q : Exit → Act → World → Prop} (hgd : Region.wanted o (yielded ops a.tmps) = true) (ty : TypeId) (x : Operand) (ho : o.op = .load ty x)
  (g off : Nat) (hx : a.eval x = .pointer (some ⟨g, off, none⟩)) (tb : TypeId) (l : List Value) (n : Nat) (hB : Blk w g tb l.toArray) (hr : RowTy P ty n) (hl : off + n ≤ l.length)
  (h : wpList P ops Q rest (a.put o.dst (.agg ((l.drop off).take n).toArray)) w) : wpList P ops Q (o :: rest) a w :=
 wpl_mid_g hgd ty x ho g off hx tb _ _ n hB hr (l.take off) (l.drop (off + n)) (by simp; omega) (by simp [← List.drop_drop, List.take_append_drop]) (by simp; omega) h
def OwnYM (M : MetD) (v : Value) (w : World) : Prop := ∃ vF vS, v = .agg #[.int .i64 M.places, .int .i64 M.any.a0, .int .i64 M.any.a1, .int .i64 M.any.a2, .int .i64 M.any.a3, .int .i64 M.any.a4, .int .i64 M.any.a5, .bool M.any.i, .bool M.any.s, .int .i64 M.mw, .int .i64 M.ms, .int .i64 M.mc, vF, vS] ∧ MetAt w vF vS M ∧ OwnTy w vF 186 ∧ OwnTy w vS 188
theorem OwnYM.below {M : MetD} {v : Value} {w w' : World} (h : OwnYM M v w) (hb : RowKit.Below w.heap.size w w') : OwnYM M v w' := by
 obtain ⟨vF, vS, e, h, h1, h2⟩ := h
 exact ⟨vF, vS, e, h.below hb, h1.below hb, h2.below hb⟩
def OwnDk (D : DekD) (v : Value) (w : World) : Prop := ∃ vA vB vC, v = .agg #[.int .i64 D.size, .int .i64 D.load, .int .i64 D.wind, vA, .int .i64 D.pitch, .int .i64 D.roll, .int .i64 D.heave, .int .i64 D.fire, vB, vC] ∧ DekAt w vA vB vC D
theorem OwnDk.below {D : DekD} {v : Value} {w w' : World} (h : OwnDk D v w) (hb : RowKit.Below w.heap.size w w') : OwnDk D v w' := by
 obtain ⟨vA, vB, vC, e, h⟩ := h
 exact ⟨vA, vB, vC, e, h.below hb⟩
def OwnMo (Mo : MovD) (v : Value) (w : World) : Prop := ∃ vP vR vV, v = .agg #[vP, vR, vV] ∧ MovAt w vP vR vV Mo
theorem OwnMo.below {Mo : MovD} {v : Value} {w w' : World} (h : OwnMo Mo v w) (hb : RowKit.Below w.heap.size w w') : OwnMo Mo v w' := by
 obtain ⟨vP, vR, vV, e, h⟩ := h
 exact ⟨vP, vR, vV, e, h.below hb⟩
def NetV (n : Nat) (S : Tab) (v : Value) (w : World) : Prop := ∃ A' c', v = .slice A' n c' ∧ n ≤ c' ∧ c' ≤ 9223372036854775807 ∧ RecsAt w A' n 3 (nV S) ∧ OwnTy w (.slice A' n c') 166
theorem NetV.below {n : Nat} {S : Tab} {v : Value} {w w' : World} (h : NetV n S v w) (hb : RowKit.Below w.heap.size w w') : NetV n S v w' := by
 obtain ⟨A', c', e, h1, h2, h, h3⟩ := h
 exact ⟨A', c', e, h1, h2, h.below hb, h3.below hb⟩
def EmptyL (v : Value) (w : World) : Prop := ∃ g, v = .slice (some ⟨g, 0, none⟩) 0 0 ∧ Blk w g 166 #[]
theorem EmptyL.below {v : Value} {w w' : World} (h : EmptyL v w) (hb : RowKit.Below w.heap.size w w') : EmptyL v w' := by
 obtain ⟨g, e, h⟩ := h
 exact ⟨g, e, h.below hb⟩
theorem yCopy_c (M : MetD) (vF vS : Value) (w : World) (hA : MetAt w vF vS M) (hn : M.far = false) :
  Calls Tryz.prog 16 #[.agg #[.int .i64 M.places, .int .i64 M.any.a0, .int .i64 M.any.a1, .int .i64 M.any.a2, .int .i64 M.any.a3, .int .i64 M.any.a4, .int .i64 M.any.a5, .bool M.any.i, .bool M.any.s, .int .i64 M.mw, .int .i64 M.ms, .int .i64 M.mc, vF, vS]] w fun e w' => ∃ v, e = .returned v ∧ OwnYM M v w' ∧ RowKit.Below w.heap.size w w' := by
 refine (wCopyY_c M vF vS w hA hn).mono ?_
 rintro e w' ⟨vF', vS', rfl, hb, h, h1, h2⟩
 exact ⟨_, rfl, ⟨vF', vS', rfl, h, h1, h2⟩, hb⟩
theorem yDeck_c (D : DekD) (vA vB vC : Value) (w : World) (hD : DekAt w vA vB vC D) (h1 : D.ns ≤ 200) (h2 : D.nh ≤ 200) (h3 : D.nu ≤ 200) :
  Calls Tryz.prog 18 #[.agg #[.int .i64 D.size, .int .i64 D.load, .int .i64 D.wind, vA, .int .i64 D.pitch, .int .i64 D.roll, .int .i64 D.heave, .int .i64 D.fire, vB, vC]] w fun e w' => ∃ v, e = .returned v ∧ OwnDk D v w' ∧ RowKit.Below w.heap.size w w' := by
 refine (dCopy_c D vA vB vC w hD h1 h2 h3).mono ?_
 rintro e w' ⟨vA', vB', vC', rfl, hb, q1, q2, q3⟩
 exact ⟨_, rfl, ⟨vA', vB', vC', rfl, ⟨q1.1, q2.1, q3.1⟩⟩, hb⟩
theorem yMotion_c (Mo : MovD) (vP vR vV : Value) (w : World) (hA : MovAt w vP vR vV Mo) (h1 : Mo.np ≤ 200) (h2 : Mo.nr ≤ 200) (h3 : Mo.nv ≤ 200) :
  Calls Tryz.prog 19 #[.agg #[vP, vR, vV]] w fun e w' => ∃ v, e = .returned v ∧ OwnMo Mo v w' ∧ RowKit.Below w.heap.size w w' := by
 refine (dCopyMotion_c Mo vP vR vV w hA h1 h2 h3).mono ?_
 rintro e w' ⟨vP', vR', vV', rfl, hb, q1, q2, q3⟩
 exact ⟨_, rfl, ⟨vP', vR', vV', rfl, ⟨q1.1, q2.1, q3.1⟩⟩, hb⟩
theorem Tryz.lgUA : Tryz.prog.underlying 66 = some (.slice 166) := by kernel_rfl
theorem Tryz.lgIA : (Tryz.prog.info? 166).map (fun i => (i.zero.map (·.cells.size), i.size, decide (i.bytes ≤ 200))) = some (some 3, 3, true) := by kernel_rfl
theorem nV_oneA (S : Tab) (i j : Nat) : (nV S i j).oneCell' = true := rfl
theorem Tryz.sizePlA : (Tryz.prog.info? 39).map (·.size) = some 27 := by kernel_rfl
theorem Tryz.rowPlA : RowTy Tryz.prog 39 27 := ⟨by kernel_rfl, by kernel_rfl⟩
theorem Tryz.rowMovA : RowTy Tryz.prog 37 3 := ⟨by kernel_rfl, by kernel_rfl⟩
theorem Tryz.rowDekA : RowTy Tryz.prog 26 10 := ⟨by kernel_rfl, by kernel_rfl⟩
theorem Tryz.rowAppA : RowTy Tryz.prog 43 10 := ⟨by kernel_rfl, by kernel_rfl⟩
theorem Tryz.rowHavA : RowTy Tryz.prog 80 3 := ⟨by kernel_rfl, by kernel_rfl⟩
theorem Tryz.sizeAppA : (Tryz.prog.info? 43).map (·.size) = some 10 := by kernel_rfl
theorem Tryz.sizeMinA : (Tryz.prog.info? 41).map (·.size) = some 5 := by kernel_rfl
theorem there_blk {w : World} {g : Nat} {T : TypeId} {cs : Array Value} (h : Blk w g T cs) {o n : Nat} (hn : o + n ≤ cs.size) : w.there g o n := fun j hj => ⟨by rw [h.cell (o + j), Array.getElem?_eq_getElem (by omega)]; rfl, h.frozen _⟩
def ta9R (w0 : Nat) (g : Nat) (M : MetD) (mt nt : Value) (n : Nat) (S : Tab) : Nat → Value → World → Prop
 | 0, v, _ => v = .pointer (some ⟨g, 0, none⟩)
 | 1, v, _ => v = mt
 | 2, v, w => OwnYM M v w
 | 3, v, w => EmptyL v w
 | 4, v, _ => v = .pointer (some ⟨g, 19, none⟩)
 | 5, v, _ => v = nt
 | 6, v, w => NetV n S v w
 | 7, v, w => NewBlk w0 34 #[.int .i64 0, .int .i64 0, .int .i64 0, .int .i64 0, .int .i64 0, .int .i64 0, .int .i64 0, .bool false, .bool false, .int .i64 0, .int .i64 0, .int .i64 0, .slice none 0 0, .slice none 0 0] v w
 | _, _, _ => True
theorem ta9R_below {w0 : Nat} {g : Nat} {M : MetD} {mt nt : Value} {n : Nat} {S : Tab} (k : Nat) (v : Value) (w w' : World) (hb : Below w.heap.size w w') (h : ta9R w0 g M mt nt n S k v w) : ta9R w0 g M mt nt n S k v w' := by
 unfold ta9R at *
 split at h <;> first | exact h | exact OwnYM.below h hb | exact EmptyL.below h hb | exact NetV.below h hb | exact NewBlk.below hb h
def ta14R (w0 : Nat) (g : Nat) (D : DekD) (Mo : MovD) (dk mt mo ap : Value) (t : Int) (wn : Nat) : Nat → Value → World → Prop
 | 0, v, _ => v = .pointer (some ⟨g + 1 + 1, 0, none⟩)
 | 1, v, _ => v = dk
 | 2, v, w => OwnDk D v w
 | 3, v, _ => v = mt
 | 4, v, _ => v = .pointer (some ⟨g + 1 + 1, 10, none⟩)
 | 5, v, _ => v = mo
 | 6, v, w => OwnMo Mo v w
 | 7, v, _ => v = ap
 | 8, v, _ => v = .int .i64 t
 | 9, v, w => (∃ A c, v = .tuple #[.slice A wn c, .int .i64 0])
 | 10, v, w => (∃ A c, v = .tuple #[.slice A wn c, .int .i64 0])
 | 11, v, w => (∃ A c, v = .slice A wn c)
 | 12, v, _ => v = .int .i64 0
 | _, _, _ => True
theorem ta14R_below {w0 : Nat} {g : Nat} {D : DekD} {Mo : MovD} {dk mt mo ap : Value} {t : Int} {wn : Nat} (k : Nat) (v : Value) (w w' : World) (hb : Below w.heap.size w w') (h : ta14R w0 g D Mo dk mt mo ap t wn k v w) : ta14R w0 g D Mo dk mt mo ap t wn k v w' := by
 unfold ta14R at *
 split at h <;> first | exact h | exact OwnDk.below h hb | exact OwnMo.below h hb | exact h
def BkOne (t : Int) (a : AppD) (v : Value) (w : World) : Prop := ∃ g, v = .slice (some ⟨g, 0, none⟩) 1 1 ∧ RecsAt w (some ⟨g, 0, none⟩) 1 12 (bkC (t1T t a) (t1B a))
theorem BkOne.below {t : Int} {a : AppD} {v : Value} {w w' : World} (h : BkOne t a v w) (hb : RowKit.Below w.heap.size w w') : BkOne t a v w' := by
 obtain ⟨g, e, h⟩ := h
 exact ⟨g, e, h.below hb⟩
def GotV (t : Int) (v : Value) (w : World) : Prop := ∃ v1, v = .tuple #[v1, .int .i64 0] ∧ SlAt w v1 1 1 (lV fun _ => t)
theorem GotV.below {t : Int} {v : Value} {w w' : World} (h : GotV t v w) (hb : RowKit.Below w.heap.size w w') : GotV t v w' := by
 obtain ⟨v1, e, h⟩ := h
 exact ⟨v1, e, h.below hb⟩
def ta22R (w0 : Nat) (g : Nat) (D : DekD) (Mo : MovD) (dk mt mo ap bk : Value) (t : Int) (a : AppD) : Nat → Value → World → Prop
 | 0, v, _ => v = .pointer (some ⟨g + 1 + 1, 0, none⟩)
 | 1, v, _ => v = dk
 | 2, v, w => OwnDk D v w
 | 3, v, _ => v = mt
 | 4, v, _ => v = .pointer (some ⟨g + 1 + 1, 10, none⟩)
 | 5, v, _ => v = mo
 | 6, v, w => OwnMo Mo v w
 | 7, v, _ => v = .int .i64 t
 | 8, v, _ => v = ap
 | 9, v, _ => v = bk
 | 10, v, w => BkOne t a v w
 | 11, v, w => GotV t v w
 | 12, v, w => GotV t v w
 | 13, v, w => SlAt w v 1 1 (lV fun _ => t)
 | 14, v, _ => v = .int .i64 0
 | _, _, _ => True
theorem ta22R_below {w0 : Nat} {g : Nat} {D : DekD} {Mo : MovD} {dk mt mo ap bk : Value} {t : Int} {a : AppD} (k : Nat) (v : Value) (w w' : World) (hb : Below w.heap.size w w') (h : ta22R w0 g D Mo dk mt mo ap bk t a k v w) : ta22R w0 g D Mo dk mt mo ap bk t a k v w' := by
 unfold ta22R at *
 split at h <;> first | exact h | exact OwnDk.below h hb | exact OwnMo.below h hb | exact BkOne.below h hb | exact GotV.below h hb | exact SlAt.below h hb
theorem Tryz.bkUA : Tryz.prog.underlying 86 = some (.slice 85) := by kernel_rfl
theorem Tryz.bkSA : (Tryz.prog.info? 85).map (·.size) = some 12 := by kernel_rfl
theorem Tryz.bkZA : ((Tryz.prog.info? 85).bind (·.zero)).isSome = true := by kernel_rfl
theorem TopArrives_c (M : MetD) (vF vS : Value) (lw ls lc : Int) (li lb : Bool) (A : Option Addr) (n c : Nat) (S : Tab) (F : FliD) (vR : Value) (D : DekD) (vA vB vC : Value) (Mo : MovD) (vP vQ vV : Value) (a : AppD) (w : World) (hM : MetAt w vF vS M) (hc1 : n ≤ c) (hc2 : c ≤ 9223372036854775807) (hL : RecsAt w A n 3 (nV S)) (hR : SlI w vR F.m F.R) (hD : DekAt w vA vB vC D) (hV : MovAt w vP vQ vV Mo) :
  Calls Tryz.prog 4 #[.agg #[.int .i64 M.places, .int .i64 M.any.a0, .int .i64 M.any.a1, .int .i64 M.any.a2, .int .i64 M.any.a3, .int .i64 M.any.a4, .int .i64 M.any.a5, .bool M.any.i, .bool M.any.s, .int .i64 M.mw, .int .i64 M.ms, .int .i64 M.mc, vF, vS, .int .i64 lw, .int .i64 ls, .int .i64 lc, .bool li, .bool lb, .slice A n c], .agg #[vR, .int .i64 F.dep, .int .i64 F.fuel, .int .i64 F.burn, .int .i64 F.res], .agg #[.int .i64 D.size, .int .i64 D.load, .int .i64 D.wind, vA, .int .i64 D.pitch, .int .i64 D.roll, .int .i64 D.heave, .int .i64 D.fire, vB, vC, vP, vQ, vV, .int .i64 a.size, .int .i64 a.weight, .int .i64 a.lw, .int .i64 a.ls, .int .i64 a.lc, .bool a.li, .bool a.lt, .int .i64 a.place, .int .i64 a.lo, .int .i64 a.hi]] w fun e w' => e = .returned (.bool true) ∧ RowKit.Below w.heap.size w w' := by
 have HM := hI9 hM
 have HL := hI9 hL
 have HR := hI9 hR
 have HD := hI9 hD
 have HV := hI9 hV
 obtain ⟨AR, cR, rfl, -, -, -⟩ := hR
 obtain ⟨A1, k1, rfl, -, -, -⟩ := hD.s.e
 obtain ⟨A2, k2, rfl, -, -, -⟩ := hD.h.e
 obtain ⟨A3, k3, rfl, -, -, -⟩ := hD.u.e
 obtain ⟨⟨A4, k4, rfl, -, -, -⟩, ⟨A5, k5, rfl, -, -, -⟩⟩ := hM
 obtain ⟨A6, k6, rfl, -, -, -⟩ := hV.p.e
 obtain ⟨A7, k7, rfl, -, -, -⟩ := hV.r.e
 obtain ⟨A8, k8, rfl, -, -, -⟩ := hV.v.e
 have HPF := hI9 (fun w1 h => planFar_c M (.slice A4 M.n k4) (.slice A5 M.m k5) lw ls lc li lb A n c F AR cR w1 h)
 have HFP := hI9 (fun w1 h1 h2 h3 => dFar_c D (.slice A1 D.ns k1) (.slice A2 D.nh k2) (.slice A3 D.nu k3) M (.slice A4 M.n k4) (.slice A5 M.m k5) Mo (.slice A6 Mo.np k6) (.slice A7 Mo.nr k7) (.slice A8 Mo.nv k8) w1 h1 h2 h3)
 have HCK := hI9 (fun w1 h1 h2 h3 => r5Check_c M (.slice A4 M.n k4) (.slice A5 M.m k5) A n c S F (.slice AR F.m cR) w1 h1 hc1 hc2 h2 h3)
 clear hL hD hV
 obtain ⟨KE, hKE⟩ : ∃ KE, KE = nfE (netE M S n) M S n F := ⟨_, rfl⟩
 rw [← hKE] at HCK
 have HKE := hI9 hKE
 clear hKE
 have hd : (pfar M n F.m = true ∨ (pfar M n F.m = false ∧ farP D M Mo = true) ∨ (pfar M n F.m = false ∧ farP D M Mo = false ∧ (KE != 0) = true)) ∨ (pfar M n F.m = false ∧ farP D M Mo = false ∧ KE = 0) := by
  cases pfar M n F.m <;> cases farP D M Mo <;> by_cases h : KE = 0 <;> simp [h]
 rcases hd with hd | ⟨hp, hq, h1⟩
 ·rcases hd with hp | ⟨hp, hq⟩ | ⟨hp, hq, hz⟩
  all_goals
   rw [hp] at HPF
   (try rw [hq] at HFP)
   clear hp
   (try clear hq)
   have tok0 := trivial
   have tok1 := trivial
   have tok2 := trivial
   have tok3 := trivial
   have tok4 := trivial
   have tok5 := trivial
   have tok6 := trivial
   have tok7 := trivial
   have tok8 := trivial
   have tok9 := trivial
   have tokA := trivial
   go_enter Tryz.func4, Tryz.ntmps4
   go_wp2_with (first | (have _t := tok0; generalize hWX : World.alloc (World.alloc (World.alloc w _) _) _ = w1; clear tok0; have _x := tri_q hWX; clear hWX; have HX := hI9 _x.1; have HY := hI9 _x.2.1; have HZ := hI9 _x.2.2.1; have HB := hI9 _x.2.2.2; clear _x) | (have _t := tok1; refine wpl_midT rfl 26 (.tmp 20) rfl (w.heap.size + 1 + 1) 0 rfl 72 _ 10 HZ.out Tryz.rowDekA (Nat.le_of_ble_eq_true rfl) ?_; simp only [Act.put, tdA, tdB, tdC, tdD]; clear tok1) | (have _t := tok2; refine wpl_midT rfl 34 (.tmp 22) rfl w.heap.size 0 rfl 68 _ 14 HX.out Tryz.rowMet (Nat.le_of_ble_eq_true rfl) ?_; simp only [Act.put, tdA, tdB, tdC, tdD]; clear tok2) | (have _t := tok3; refine wpl_midT rfl 37 (.tmp 24) rfl (w.heap.size + 1 + 1) 10 rfl 72 _ 3 HZ.out Tryz.rowMovA (Nat.le_of_ble_eq_true rfl) ?_; simp only [Act.put, tdA, tdB, tdC, tdD]; clear tok3) | (have _t := tok4; refine wpl_buildr rfl 39 _ rfl #[.int .i64 D.size, .int .i64 D.load, .int .i64 D.wind, .slice A1 D.ns k1, .int .i64 D.pitch, .int .i64 D.roll, .int .i64 D.heave, .int .i64 D.fire, .slice A2 D.nh k2, .slice A3 D.nu k3, .int .i64 M.places, .int .i64 M.any.a0, .int .i64 M.any.a1, .int .i64 M.any.a2, .int .i64 M.any.a3, .int .i64 M.any.a4, .int .i64 M.any.a5, .bool M.any.i, .bool M.any.s, .int .i64 M.mw, .int .i64 M.ms, .int .i64 M.mc, .slice A4 M.n k4, .slice A5 M.m k5, .slice A6 Mo.np k6, .slice A7 Mo.nr k7, .slice A8 Mo.nv k8] (by kernel_rfl) ?_; simp only [Act.put]; clear tok4) | (have _t := tok5; refine wpl_store_newR rfl 39 (.tmp 7) (.tmp 26) rfl _ _ _ rfl ?_ rfl Tryz.sizePlA rfl (by simp [Value.oneCell']) ?_; (focus (simp; done)); simp only [Act.put]; clear tok5; have bHQ := Blk.new w1 39 #[.int .i64 D.size, .int .i64 D.load, .int .i64 D.wind, .slice A1 D.ns k1, .int .i64 D.pitch, .int .i64 D.roll, .int .i64 D.heave, .int .i64 D.fire, .slice A2 D.nh k2, .slice A3 D.nu k3, .int .i64 M.places, .int .i64 M.any.a0, .int .i64 M.any.a1, .int .i64 M.any.a2, .int .i64 M.any.a3, .int .i64 M.any.a4, .int .i64 M.any.a5, .bool M.any.i, .bool M.any.s, .int .i64 M.mw, .int .i64 M.ms, .int .i64 M.mc, .slice A4 M.n k4, .slice A5 M.m k5, .slice A6 Mo.np k6, .slice A7 Mo.nr k7, .slice A8 Mo.nv k8]; generalize Obj.cells _ 39 = ob at *; have nHX := hI9 (HX.out.alloc ob); have nHY := hI9 (HY.out.alloc ob); have nHZ := hI9 (HZ.out.alloc ob); have nHB := hI9 (bal HB.out ob); clear HX HY HZ HB; have HX := nHX; have HY := nHY; have HZ := nHZ; have HB := nHB; clear nHX nHY nHZ nHB; generalize w1.alloc ob = W2 at *; generalize w1.heap.size = gHQ at *; have HQ := hI9 bHQ; clear bHQ; (try clear zHX); have zHX := HX.out.lt; (try clear cHX19); have cHX19 := HX.out.cell 19) | (have _t := tok6; refine wpl_row rfl 68 (.tmp 3) rfl _ rfl _ 20 HX.out Tryz.rowPlan rfl ?_; simp only [Act.put]; clear tok6) | (have _t := tok7; refine wpl_row rfl 70 (.tmp 4) rfl _ rfl _ 5 HY.out Tryz.rowFli rfl ?_; simp only [Act.put]; clear tok7) | (go_at_call 14; (with_reducible refine (HPF.out _ (HM.out.below HB.out)).mono ?_); rintro e w1 ⟨rfl, hb1⟩; have nHX := hI9 (HX.out.below hb1); have nHY := hI9 (HY.out.below hb1); have nHZ := hI9 (HZ.out.below hb1); have nHQ := hI9 (HQ.out.below hb1); have nHB := hI9 (bthen HB.out hb1); have zz1 := hb1.size; clear HX HY HZ HQ HB hb1; have HX := nHX; have HY := nHY; have HZ := nHZ; have HQ := nHQ; have HB := nHB; clear nHX nHY nHZ nHQ nHB; (try clear zHX); have zHX := HX.out.lt; (try clear cHX19); have cHX19 := HX.out.cell 19) | (have _t := tok8; refine wpl_row_g ?_ 39 (.tmp 7) rfl _ rfl _ 27 HQ.out Tryz.rowPlA rfl ?_; (focus rfl); simp only [Act.put]; clear tok8) | ((with_reducible refine (HFP.out _ (HD.out.below HB.out) (HM.out.below HB.out) (HV.out.below HB.out)).mono ?_); rintro e w1 ⟨rfl, hb1⟩; have nHX := hI9 (HX.out.below hb1); have nHY := hI9 (HY.out.below hb1); have nHZ := hI9 (HZ.out.below hb1); have nHQ := hI9 (HQ.out.below hb1); have nHB := hI9 (bthen HB.out hb1); have zz1 := hb1.size; clear HX HY HZ HQ HB hb1; have HX := nHX; have HY := nHY; have HZ := nHZ; have HQ := nHQ; have HB := nHB; clear nHX nHY nHZ nHQ nHB; (try clear zHX); have zHX := HX.out.lt; (try clear cHX19); have cHX19 := HX.out.cell 19) | (have _t := tok9; refine wpl_midT_g ?_ 34 (.tmp 35) rfl w.heap.size 0 rfl 68 _ 14 HX.out Tryz.rowMet (Nat.le_of_ble_eq_true rfl) ?_; (focus rfl); simp only [Act.put, tdA, tdB, tdC, tdD]; clear tok9) | (have _t := tokA; refine wpl_row_g ?_ 70 (.tmp 4) rfl _ rfl _ 5 HY.out Tryz.rowFli rfl ?_; (focus rfl); simp only [Act.put]; clear tokA) | ((with_reducible refine (HCK.out _ (HM.out.below HB.out) (HL.out.below HB.out) (HR.out.below HB.out)).mono ?_); rintro e w1 ⟨rfl, hb1⟩; have nHX := hI9 (HX.out.below hb1); have nHY := hI9 (HY.out.below hb1); have nHZ := hI9 (HZ.out.below hb1); have nHQ := hI9 (HQ.out.below hb1); have nHB := hI9 (bthen HB.out hb1); have zz1 := hb1.size; clear HX HY HZ HQ HB hb1; have HX := nHX; have HY := nHY; have HZ := nHZ; have HQ := nHQ; have HB := nHB; clear nHX nHY nHZ nHQ nHB; (try clear zHX); have zHX := HX.out.lt; (try clear cHX19); have cHX19 := HX.out.cell 19; (try clear zHZ); have zHZ := HZ.out.lt; (try clear cHZ0); have cHZ0 := HZ.out.cell 0) | (go_at_call 7; refine (measures_c _).mono ?_; rintro _ w9 ⟨rfl, hb9⟩; have HB9 := hI9 (bthen HB.out hb9); clear hb9))
   go_ret
   exact ⟨rfl, HB9.out⟩
 rw [hp] at HPF
 have HPP := hI9 hp
 clear hp
 rw [hq] at HFP
 have HQQ := hI9 hq
 clear hq
 subst h1
 obtain ⟨hne, ⟨hP, hP8, hlin, hN⟩, hok⟩ := nf0_ok HKE.out.symm
 obtain ⟨hm, hd0, -⟩ := FliD.nums_iff.1 hok.1
 have hdp := arr_dep hlin hok
 have ha0 : 0 ≤ F.at_ (lgT S n) (F.m - 1) ∧ F.at_ (lgT S n) (F.m - 1) ≤ 2000 := ⟨by omega, hok.2.2⟩
 have hn30 : n ≤ 50 := by
  have := HPP.out
  unfold pfar at this
  simp only [Bool.or_eq_false_iff, decide_eq_false_iff_not] at this
  omega
 have hfar : M.far = false := by
  have := HPP.out
  unfold pfar at this
  simp only [Bool.or_eq_false_iff] at this
  exact this.1
 have hfd : (D.ns ≤ 200 ∧ D.nh ≤ 200 ∧ D.nu ≤ 200) ∧ Mo.np ≤ 200 ∧ Mo.nr ≤ 200 ∧ Mo.nv ≤ 200 := by
  have := HQQ.out
  unfold farP at this
  simp only [Bool.or_eq_false_iff, decide_eq_false_iff_not] at this
  omega
 obtain ⟨bR, oR, rfl, hbR, hcR⟩ : ∃ b off, AR = some ⟨b, off, none⟩ ∧ b < w.heap.size ∧ ∀ i, i < F.m → w.cell? ⟨b, off + i, none⟩ = some (.int .i64 (F.R i)) := by
  obtain ⟨A9, c9, e9, -, -, r9⟩ := HR.out
  cases e9
  obtain ⟨b9, o9, e, hb9, hc9⟩ := r9 (by omega)
  exact ⟨b9, o9, e, hb9, fun i hi => by have := hc9 i hi 0 (by omega); rw [Nat.mul_one, Nat.add_zero] at this; exact this⟩
 obtain ⟨j, hj⟩ : ∃ j, j = F.m - 1 := ⟨_, rfl⟩
 have hmz : IntKind.i64.wrap ((F.m : Int) - 1) = (j : Int) := by rw [IntKind.wrap_i64]; omega
 have hmz2 : wrap64 ((F.m : Int) - 1) = (j : Int) := by unfold wrap64; omega
 have hjm : (j : Int) < (F.m : Int) := by omega
 have hcj := hcR j (by omega)
 rw [← hj] at hdp ha0
 obtain ⟨pl, hpl⟩ : ∃ pl, pl = F.R j := ⟨_, rfl⟩
 obtain ⟨at0, hat⟩ : ∃ t, t = F.at_ (lgT S n) j := ⟨_, rfl⟩
 have hrj := hok.2.1.1 j (by omega)
 rw [← hpl] at hcj hrj
 rw [← hat] at hdp ha0
 have HRJ := hI9 (fun w1 (hb : RowKit.Below w.heap.size w w1) => (hb.cell (p := ⟨bR, oR + j, none⟩) hbR).trans hcj)
 have HFX := hI9 (And.intro hn30 (And.intro hfar hfd))
 have HOK := hI9 (And.intro hok (And.intro hlin (And.intro hN (And.intro hP hne))))
 have HPL := hI9 (And.intro hj (And.intro hpl (And.intro hat (And.intro hdp (And.intro ha0 hrj)))))
 have hca := fun w1 h1 h2 h3 => rd_CheckApproach_c D (.slice A1 D.ns k1) (.slice A2 D.nh k2) (.slice A3 D.nu k3) M (.slice A4 M.n k4) (.slice A5 M.m k5) Mo (.slice A6 Mo.np k6) (.slice A7 Mo.nr k7) (.slice A8 Mo.nv k8) ⟨a.size, a.weight, lw, ls, lc, li, lb, pl, a.lo, a.hi⟩ w1 h1 h2 h3
 dsimp only at hca
 have HCA := hI9 hca
 clear hca
 clear hne hP hP8 hlin hN hok hm hd0 hdp ha0 hn30 hfar hfd hcR hj hcj hpl hat hrj hbR
 have tokB := trivial
 have tokC := trivial
 have tokD := trivial
 have tokE := trivial
 have tokF := trivial
 have tokG := trivial
 have tokH := trivial
 have tokI := trivial
 have tokJ := trivial
 have tok0 := trivial
 have tok1 := trivial
 have tok2 := trivial
 have tok3 := trivial
 have tok4 := trivial
 have tok5 := trivial
 have tok6 := trivial
 have tok7 := trivial
 have tok8 := trivial
 have tok9 := trivial
 have tokA := trivial
 go_enter Tryz.func4, Tryz.ntmps4
 go_wp2_with (first | (have _t := tok0; generalize hWX : World.alloc (World.alloc (World.alloc w _) _) _ = w1; clear tok0; have _x := tri_q hWX; clear hWX; have HX := hI9 _x.1; have HY := hI9 _x.2.1; have HZ := hI9 _x.2.2.1; have HB := hI9 _x.2.2.2; clear _x) | (have _t := tok1; refine wpl_midT rfl 26 (.tmp 20) rfl (w.heap.size + 1 + 1) 0 rfl 72 _ 10 HZ.out Tryz.rowDekA (Nat.le_of_ble_eq_true rfl) ?_; simp only [Act.put, tdA, tdB, tdC, tdD]; clear tok1) | (have _t := tok2; refine wpl_midT rfl 34 (.tmp 22) rfl w.heap.size 0 rfl 68 _ 14 HX.out Tryz.rowMet (Nat.le_of_ble_eq_true rfl) ?_; simp only [Act.put, tdA, tdB, tdC, tdD]; clear tok2) | (have _t := tok3; refine wpl_midT rfl 37 (.tmp 24) rfl (w.heap.size + 1 + 1) 10 rfl 72 _ 3 HZ.out Tryz.rowMovA (Nat.le_of_ble_eq_true rfl) ?_; simp only [Act.put, tdA, tdB, tdC, tdD]; clear tok3) | (have _t := tok4; refine wpl_buildr rfl 39 _ rfl #[.int .i64 D.size, .int .i64 D.load, .int .i64 D.wind, .slice A1 D.ns k1, .int .i64 D.pitch, .int .i64 D.roll, .int .i64 D.heave, .int .i64 D.fire, .slice A2 D.nh k2, .slice A3 D.nu k3, .int .i64 M.places, .int .i64 M.any.a0, .int .i64 M.any.a1, .int .i64 M.any.a2, .int .i64 M.any.a3, .int .i64 M.any.a4, .int .i64 M.any.a5, .bool M.any.i, .bool M.any.s, .int .i64 M.mw, .int .i64 M.ms, .int .i64 M.mc, .slice A4 M.n k4, .slice A5 M.m k5, .slice A6 Mo.np k6, .slice A7 Mo.nr k7, .slice A8 Mo.nv k8] (by kernel_rfl) ?_; simp only [Act.put]; clear tok4) | (have _t := tok5; refine wpl_store_newR rfl 39 (.tmp 7) (.tmp 26) rfl _ _ _ rfl ?_ rfl Tryz.sizePlA rfl (by simp [Value.oneCell']) ?_; (focus (simp; done)); simp only [Act.put]; clear tok5; have bHQ := Blk.new w1 39 #[.int .i64 D.size, .int .i64 D.load, .int .i64 D.wind, .slice A1 D.ns k1, .int .i64 D.pitch, .int .i64 D.roll, .int .i64 D.heave, .int .i64 D.fire, .slice A2 D.nh k2, .slice A3 D.nu k3, .int .i64 M.places, .int .i64 M.any.a0, .int .i64 M.any.a1, .int .i64 M.any.a2, .int .i64 M.any.a3, .int .i64 M.any.a4, .int .i64 M.any.a5, .bool M.any.i, .bool M.any.s, .int .i64 M.mw, .int .i64 M.ms, .int .i64 M.mc, .slice A4 M.n k4, .slice A5 M.m k5, .slice A6 Mo.np k6, .slice A7 Mo.nr k7, .slice A8 Mo.nv k8]; generalize Obj.cells _ 39 = ob at *; have nHX := hI9 (HX.out.alloc ob); have nHY := hI9 (HY.out.alloc ob); have nHZ := hI9 (HZ.out.alloc ob); have nHB := hI9 (bal HB.out ob); clear HX HY HZ HB; have HX := nHX; have HY := nHY; have HZ := nHZ; have HB := nHB; clear nHX nHY nHZ nHB; generalize w1.alloc ob = W2 at *; generalize w1.heap.size = gHQ at *; have HQ := hI9 bHQ; clear bHQ; (try clear zHX); have zHX := HX.out.lt; (try clear cHX19); have cHX19 := HX.out.cell 19) | (have _t := tok6; refine wpl_row rfl 68 (.tmp 3) rfl _ rfl _ 20 HX.out Tryz.rowPlan rfl ?_; simp only [Act.put]; clear tok6) | (have _t := tok7; refine wpl_row rfl 70 (.tmp 4) rfl _ rfl _ 5 HY.out Tryz.rowFli rfl ?_; simp only [Act.put]; clear tok7) | (go_at_call 14; (with_reducible refine (HPF.out _ (HM.out.below HB.out)).mono ?_); rintro e w1 ⟨rfl, hb1⟩; have nHX := hI9 (HX.out.below hb1); have nHY := hI9 (HY.out.below hb1); have nHZ := hI9 (HZ.out.below hb1); have nHQ := hI9 (HQ.out.below hb1); have nHB := hI9 (bthen HB.out hb1); have zz1 := hb1.size; clear HX HY HZ HQ HB hb1; have HX := nHX; have HY := nHY; have HZ := nHZ; have HQ := nHQ; have HB := nHB; clear nHX nHY nHZ nHQ nHB; (try clear zHX); have zHX := HX.out.lt; (try clear cHX19); have cHX19 := HX.out.cell 19) | (have _t := tok8; refine wpl_row_g ?_ 39 (.tmp 7) rfl _ rfl _ 27 HQ.out Tryz.rowPlA rfl ?_; (focus rfl); simp only [Act.put]; clear tok8) | ((with_reducible refine (HFP.out _ (HD.out.below HB.out) (HM.out.below HB.out) (HV.out.below HB.out)).mono ?_); rintro e w1 ⟨rfl, hb1⟩; have nHX := hI9 (HX.out.below hb1); have nHY := hI9 (HY.out.below hb1); have nHZ := hI9 (HZ.out.below hb1); have nHQ := hI9 (HQ.out.below hb1); have nHB := hI9 (bthen HB.out hb1); have zz1 := hb1.size; clear HX HY HZ HQ HB hb1; have HX := nHX; have HY := nHY; have HZ := nHZ; have HQ := nHQ; have HB := nHB; clear nHX nHY nHZ nHQ nHB; (try clear zHX); have zHX := HX.out.lt; (try clear cHX19); have cHX19 := HX.out.cell 19) | (have _t := tok9; refine wpl_midT_g ?_ 34 (.tmp 35) rfl w.heap.size 0 rfl 68 _ 14 HX.out Tryz.rowMet (Nat.le_of_ble_eq_true rfl) ?_; (focus rfl); simp only [Act.put, tdA, tdB, tdC, tdD]; clear tok9) | (have _t := tokA; refine wpl_row_g ?_ 70 (.tmp 4) rfl _ rfl _ 5 HY.out Tryz.rowFli rfl ?_; (focus rfl); simp only [Act.put]; clear tokA) | ((with_reducible refine (HCK.out _ (HM.out.below HB.out) (HL.out.below HB.out) (HR.out.below HB.out)).mono ?_); rintro e w1 ⟨rfl, hb1⟩; have nHX := hI9 (HX.out.below hb1); have nHY := hI9 (HY.out.below hb1); have nHZ := hI9 (HZ.out.below hb1); have nHQ := hI9 (HQ.out.below hb1); have nHB := hI9 (bthen HB.out hb1); have zz1 := hb1.size; clear HX HY HZ HQ HB hb1; have HX := nHX; have HY := nHY; have HZ := nHZ; have HQ := nHQ; have HB := nHB; clear nHX nHY nHZ nHQ nHB; (try clear zHX); have zHX := HX.out.lt; (try clear cHX19); have cHX19 := HX.out.cell 19; (try clear zHZ); have zHZ := HZ.out.lt; (try clear cHZ0); have cHZ0 := HZ.out.cell 0) | (have _t := tokB; refine wpl_midT rfl 43 (.tmp 44) rfl (w.heap.size + 1 + 1) 13 rfl 72 _ 10 HZ.out Tryz.rowAppA (Nat.le_of_ble_eq_true rfl) ?_; simp only [Act.put, tdA, tdB, tdC, tdD]; clear tokB) | (have _t := tokC; refine wpl_store_newR rfl 43 (.tmp 8) (.tmp 45) rfl _ _ _ rfl ?_ rfl Tryz.sizeAppA rfl (by simp [Value.oneCell']) ?_; (focus (simp; done)); simp only [Act.put]; clear tokC HQ; have bHA := Blk.new w1 43 #[.int .i64 a.size, .int .i64 a.weight, .int .i64 a.lw, .int .i64 a.ls, .int .i64 a.lc, .bool a.li, .bool a.lt, .int .i64 a.place, .int .i64 a.lo, .int .i64 a.hi]; generalize Obj.cells _ 43 = ob at *; have nHX := hI9 (HX.out.alloc ob); have nHY := hI9 (HY.out.alloc ob); have nHZ := hI9 (HZ.out.alloc ob); have nHB := hI9 (bal HB.out ob); clear HX HY HZ HB; have HX := nHX; have HY := nHY; have HZ := nHZ; have HB := nHB; clear nHX nHY nHZ nHB; generalize w1.alloc ob = W2 at *; generalize w1.heap.size = gHA at *; have HA := hI9 bHA; clear bHA; (try clear zHY); have zHY := HY.out.lt; (try clear cHY0); have cHY0 := HY.out.cell 0; (try clear zHA); have zHA := HA.out.lt; (try clear cHA7); have cHA7 := HA.out.cell 7; (try clear fHA); have fHA := fun i => HA.out.frozen i; have r0 := HRJ.out _ HB.out; simp only [gtA, gtS, gtZ] at cHY0 cHA7) | (have _t := tokD; (with_reducible change wpList _ _ _ _ _ (World.setCell W2 _ _)); generalize hWX : World.setCell W2 _ _ = w1; have nA := hI9 (show Blk w1 gHA 43 #[.int .i64 a.size, .int .i64 a.weight, .int .i64 a.lw, .int .i64 a.ls, .int .i64 a.lc, .bool a.li, .bool a.lt, .int .i64 pl, .int .i64 a.lo, .int .i64 a.hi] from by rw [← hWX]; exact (HA.out.set_ 7 (.int .i64 pl))); have nHX := hI9 (show Blk w1 _ 68 #[.int .i64 M.places, .int .i64 M.any.a0, .int .i64 M.any.a1, .int .i64 M.any.a2, .int .i64 M.any.a3, .int .i64 M.any.a4, .int .i64 M.any.a5, .bool M.any.i, .bool M.any.s, .int .i64 M.mw, .int .i64 M.ms, .int .i64 M.mc, .slice A4 M.n k4, .slice A5 M.m k5, .int .i64 lw, .int .i64 ls, .int .i64 lc, .bool li, .bool lb, .slice A n c] from by rw [← hWX]; exact (HX.out.far' (f := gHA) (by omega) (i := 7) (.int .i64 pl))); have nHY := hI9 (show Blk w1 _ 70 #[.slice (some ⟨bR, oR, none⟩) F.m cR, .int .i64 F.dep, .int .i64 F.fuel, .int .i64 F.burn, .int .i64 F.res] from by rw [← hWX]; exact (HY.out.far' (f := gHA) (by omega) (i := 7) (.int .i64 pl))); have nHZ := hI9 (show Blk w1 _ 72 #[.int .i64 D.size, .int .i64 D.load, .int .i64 D.wind, .slice A1 D.ns k1, .int .i64 D.pitch, .int .i64 D.roll, .int .i64 D.heave, .int .i64 D.fire, .slice A2 D.nh k2, .slice A3 D.nu k3, .slice A6 Mo.np k6, .slice A7 Mo.nr k7, .slice A8 Mo.nv k8, .int .i64 a.size, .int .i64 a.weight, .int .i64 a.lw, .int .i64 a.ls, .int .i64 a.lc, .bool a.li, .bool a.lt, .int .i64 a.place, .int .i64 a.lo, .int .i64 a.hi] from by rw [← hWX]; exact (HZ.out.far' (f := gHA) (by omega) (i := 7) (.int .i64 pl))); have nHB := hI9 (show RowKit.Below w.heap.size w w1 from by rw [← hWX]; exact (bset HB.out (g := gHA) (by omega) (i := 7) (.int .i64 pl))); clear hWX HA HX HY HZ HB; have HA := nA; have HX := nHX; have HY := nHY; have HZ := nHZ; have HB := nHB; clear nA nHX nHY nHZ nHB; clear tokD r0 cHY0 cHA7 fHA) | (have _t := tokE; refine wpl_midT rfl 41 (.tmp 55) rfl w.heap.size 14 rfl 68 _ 5 HX.out Tryz.rowMin (Nat.le_of_ble_eq_true rfl) ?_; simp only [Act.put, tdA, tdB, tdC, tdD]; clear tokE) | (have _t := tokF; refine wpList_store_mid rfl 41 (.tmp 57) (.tmp 56) rfl gHA 2 #[.int .i64 lw, .int .i64 ls, .int .i64 lc, .bool li, .bool lb] rfl rfl (there_blk HA.out (Nat.le_of_ble_eq_true rfl)) Tryz.sizeMinA (by simp [Value.oneCell']) ?_; simp only [Act.put]; clear tokF; generalize hWX : World.setCells w1 _ _ _ = w2; have nA := hI9 (show Blk w2 gHA 43 #[.int .i64 a.size, .int .i64 a.weight, .int .i64 lw, .int .i64 ls, .int .i64 lc, .bool li, .bool lb, .int .i64 pl, .int .i64 a.lo, .int .i64 a.hi] from by rw [← hWX]; exact (((((HA.out.set_ 2 (.int .i64 lw)).set_ 3 (.int .i64 ls)).set_ 4 (.int .i64 lc)).set_ 5 (.bool li)).set_ 6 (.bool lb))); have nHX := hI9 (show Blk w2 _ 68 #[.int .i64 M.places, .int .i64 M.any.a0, .int .i64 M.any.a1, .int .i64 M.any.a2, .int .i64 M.any.a3, .int .i64 M.any.a4, .int .i64 M.any.a5, .bool M.any.i, .bool M.any.s, .int .i64 M.mw, .int .i64 M.ms, .int .i64 M.mc, .slice A4 M.n k4, .slice A5 M.m k5, .int .i64 lw, .int .i64 ls, .int .i64 lc, .bool li, .bool lb, .slice A n c] from by rw [← hWX]; exact (((((HX.out.far' (f := gHA) (by omega) (i := 2) (.int .i64 lw)).far' (f := gHA) (by omega) (i := 3) (.int .i64 ls)).far' (f := gHA) (by omega) (i := 4) (.int .i64 lc)).far' (f := gHA) (by omega) (i := 5) (.bool li)).far' (f := gHA) (by omega) (i := 6) (.bool lb))); have nHY := hI9 (show Blk w2 _ 70 #[.slice (some ⟨bR, oR, none⟩) F.m cR, .int .i64 F.dep, .int .i64 F.fuel, .int .i64 F.burn, .int .i64 F.res] from by rw [← hWX]; exact (((((HY.out.far' (f := gHA) (by omega) (i := 2) (.int .i64 lw)).far' (f := gHA) (by omega) (i := 3) (.int .i64 ls)).far' (f := gHA) (by omega) (i := 4) (.int .i64 lc)).far' (f := gHA) (by omega) (i := 5) (.bool li)).far' (f := gHA) (by omega) (i := 6) (.bool lb))); have nHZ := hI9 (show Blk w2 _ 72 #[.int .i64 D.size, .int .i64 D.load, .int .i64 D.wind, .slice A1 D.ns k1, .int .i64 D.pitch, .int .i64 D.roll, .int .i64 D.heave, .int .i64 D.fire, .slice A2 D.nh k2, .slice A3 D.nu k3, .slice A6 Mo.np k6, .slice A7 Mo.nr k7, .slice A8 Mo.nv k8, .int .i64 a.size, .int .i64 a.weight, .int .i64 a.lw, .int .i64 a.ls, .int .i64 a.lc, .bool a.li, .bool a.lt, .int .i64 a.place, .int .i64 a.lo, .int .i64 a.hi] from by rw [← hWX]; exact (((((HZ.out.far' (f := gHA) (by omega) (i := 2) (.int .i64 lw)).far' (f := gHA) (by omega) (i := 3) (.int .i64 ls)).far' (f := gHA) (by omega) (i := 4) (.int .i64 lc)).far' (f := gHA) (by omega) (i := 5) (.bool li)).far' (f := gHA) (by omega) (i := 6) (.bool lb))); have nHB := hI9 (show RowKit.Below w.heap.size w w2 from by rw [← hWX]; exact (bset (bset (bset (bset (bset HB.out (g := gHA) (by omega) (i := 2) (.int .i64 lw)) (g := gHA) (by omega) (i := 3) (.int .i64 ls)) (g := gHA) (by omega) (i := 4) (.int .i64 lc)) (g := gHA) (by omega) (i := 5) (.bool li)) (g := gHA) (by omega) (i := 6) (.bool lb))); clear hWX HA HX HY HZ HB; have HA := nA; have HX := nHX; have HY := nHY; have HZ := nHZ; have HB := nHB; clear nA nHX nHY nHZ nHB) | (have _t := tokG; refine wpl_midT rfl 26 (.tmp 58) rfl (w.heap.size + 1 + 1) 0 rfl 72 _ 10 HZ.out Tryz.rowDekA (Nat.le_of_ble_eq_true rfl) ?_; simp only [Act.put, tdA, tdB, tdC, tdD]; clear tokG) | (have _t := tokH; refine wpl_midT rfl 34 (.tmp 60) rfl w.heap.size 0 rfl 68 _ 14 HX.out Tryz.rowMet (Nat.le_of_ble_eq_true rfl) ?_; simp only [Act.put, tdA, tdB, tdC, tdD]; clear tokH) | (have _t := tokI; refine wpl_midT rfl 37 (.tmp 62) rfl (w.heap.size + 1 + 1) 10 rfl 72 _ 3 HZ.out Tryz.rowMovA (Nat.le_of_ble_eq_true rfl) ?_; simp only [Act.put, tdA, tdB, tdC, tdD]; clear tokI) | (have _t := tokJ; refine wpl_row rfl 43 (.tmp 8) rfl _ rfl _ 10 HA.out Tryz.rowAppA rfl ?_; simp only [Act.put]; clear tokJ))
 refine (HCA.out _ (HD.out.below HB.out) (HM.out.below HB.out) (HV.out.below HB.out)).mono ?_
 rintro e w3 ⟨E, rfl, hb3, hE⟩
 have nHX := hI9 (HX.out.below hb3)
 have nHY := hI9 (HY.out.below hb3)
 have nHZ := hI9 (HZ.out.below hb3)
 have nHA := hI9 (HA.out.below hb3)
 have nHB := hI9 (bthen HB.out hb3)
 clear HX HY HZ HA HB hb3
 have HX := nHX
 have HY := nHY
 have HZ := nHZ
 have HA := nHA
 have HB := nHB
 clear nHX nHY nHZ nHA nHB
 by_cases h0 : E = 0
 case neg =>
  have hz : (E != 0) = true := by simpa using h0
  clear h0 hE
  go_wp2_with (first | (go_at_call 7; refine (measures_c _).mono ?_; rintro _ w9 ⟨rfl, hb9⟩; have HB9 := hI9 (bthen HB.out hb9); clear hb9))
  go_ret
  exact ⟨rfl, HB9.out⟩
 subst h0
 obtain ⟨hs, ha⟩ := hE rfl
 have HSA := hI9 (And.intro hs ha)
 clear hs ha hE
 go_wp2_with (fail)
 refine wp_region_spec 8 (ta9R w3.heap.size w.heap.size M (.agg #[.int .i64 M.places, .int .i64 M.any.a0, .int .i64 M.any.a1, .int .i64 M.any.a2, .int .i64 M.any.a3, .int .i64 M.any.a4, .int .i64 M.any.a5, .bool M.any.i, .bool M.any.s, .int .i64 M.mw, .int .i64 M.ms, .int .i64 M.mc, .slice A4 M.n k4, .slice A5 M.m k5]) (.slice A n c) n S) (fun i => decide (i = 7)) (by kernel_rfl) (by kernel_rfl) ta9R_below ?hop1 ?htail1
 case hop1 =>
  simp only [List.take_succ_cons, List.take_zero, allOps]
  refine ⟨?_, ?_, ?_, ?_, ?_, ?_, ?_, ?_, trivial⟩
  all_goals intro u A w1 hA hb hd
  all_goals simp only [putAll, dstOf, gtA, gtS, gtZ, Option.bind_some, Option.bind, Act.put, List.setIfInBounds_toArray, List.set_cons_succ, List.set_cons_zero] at hA; subst hA
  all_goals have HB1 := hI9 hb
  ·clear hb hd
   go_wp2
   exact ⟨_, rfl, Below.refl _ _, rfl, fun h => absurd h (by decide)⟩
  ·have d0 : u 0 = _ := hd 0 (by omega) (by kernel_rfl)
   clear hb hd
   rw [d0]
   clear d0
   go_wp2_with (refine wpl_midT rfl 34 _ rfl w.heap.size 0 rfl 68 _ 14 (HX.out.below HB1.out) Tryz.rowMet (Nat.le_of_ble_eq_true rfl) ?_; simp only [Act.put, tdA, tdB, tdC, tdD])
   exact ⟨_, rfl, Below.refl _ _, rfl, fun h => absurd h (by decide)⟩
  ·have d1 : u 1 = _ := hd 1 (by omega) (by kernel_rfl)
   clear hb hd
   rw [d1]
   clear d1
   go_wp2_with (go_at_call 16; (with_reducible refine (yCopy_c M _ _ _ ((HM.out.below HB.out).below HB1.out) HFX.out.2.1).mono ?_); rintro e w2 ⟨v, rfl, ho, hb2⟩)
   exact ⟨_, rfl, hb2, ho, fun h => absurd h (by decide)⟩
  ·clear hb hd
   go_wp2
   exact ⟨_, rfl, bal (RowKit.Below.refl _ _) _, ⟨_, rfl, Blk.new _ _ _⟩, fun h => absurd h (by decide)⟩
  ·clear hb hd
   go_wp2
   exact ⟨_, rfl, Below.refl _ _, rfl, fun h => absurd h (by decide)⟩
  ·have d4 : u 4 = _ := hd 4 (by omega) (by kernel_rfl)
   clear hb hd
   rw [d4]
   clear d4
   have x19 := (HX.out.below HB1.out).cell 19
   go_wp2
   exact ⟨_, rfl, Below.refl _ _, rfl, fun h => absurd h (by decide)⟩
  ·have d2 := hd 2 (by omega) (by kernel_rfl)
   have d3 := hd 3 (by omega) (by kernel_rfl)
   have d5 : u 5 = _ := hd 5 (by omega) (by kernel_rfl)
   clear hb hd
   rw [d5]
   clear d5
   obtain ⟨g, dg, d1⟩ := d3
   rw [dg]
   clear dg
   refine wpl_cpY rfl (.tmp 71) (.tmp 73) Tryz.lgUA Tryz.lgIA (by omega) (nV_oneA S) rfl g rfl d1 A n c rfl ((HL.out.below HB.out).below HB1.out) HFX.out.1 ?_
   intro v' w' hq hbl
   exact ⟨v', rfl, hbl.out, (by obtain ⟨A', c', e, q1, q2, h, -, ho⟩ := hq.out; subst e; exact ⟨A', c', rfl, q1, q2, h, OwnTy.of_owns ho⟩), fun h => absurd h (by decide)⟩
  ·have zz := hb.size
   clear hb hd
   go_wp2
   exact ⟨_, rfl, bal (Below.refl _ _) _, ⟨_, rfl, by omega, Blk.new _ _ _⟩, fun _ => ⟨_, rfl, Nat.le_refl _, by simp⟩⟩
 case htail1 =>
  intro u A w1 hA hb hd hf
  simp only [putAll, dstOf, gtA, gtS, gtZ, Option.bind_some, Option.bind, Act.put, List.setIfInBounds_toArray, List.set_cons_succ, List.set_cons_zero] at hA; subst hA
  have e0 : u 0 = _ := hd 0 (by omega)
  have e1 : u 1 = _ := hd 1 (by omega)
  have p2 := hd 2 (by omega)
  have p3 := hd 3 (by omega)
  have e4 : u 4 = _ := hd 4 (by omega)
  have e5 : u 5 = _ := hd 5 (by omega)
  have p6 := hd 6 (by omega)
  obtain ⟨g7, e7, z7, b7⟩ := hd 7 (by omega)
  first | rw [e0, e1, e4, e5, e7] | simp only [e0, e1, e4, e5, e7]
  clear e0 e1 e4 e5 e7
  clear hd hf
  obtain ⟨vF2, vS2, e2, r2, t2, t3⟩ := p2
  have r2' := r2
  obtain ⟨⟨B4, c4, rfl, -, -, -⟩, ⟨B5, c5, rfl, -, -, -⟩⟩ := r2'
  obtain ⟨A', c', e6, q1, q2, hL2, t6⟩ := p6
  rw [e2, e6]
  clear e2 e6 p3
  refine wpList_store_row rfl 34 _ _ rfl g7 #[.int .i64 M.places, .int .i64 M.any.a0, .int .i64 M.any.a1, .int .i64 M.any.a2, .int .i64 M.any.a3, .int .i64 M.any.a4, .int .i64 M.any.a5, .bool M.any.i, .bool M.any.s, .int .i64 M.mw, .int .i64 M.ms, .int .i64 M.mc, .slice B4 M.n c4, .slice B5 M.m c5] rfl rfl 34 #[.int .i64 0, .int .i64 0, .int .i64 0, .int .i64 0, .int .i64 0, .int .i64 0, .int .i64 0, .bool false, .bool false, .int .i64 0, .int .i64 0, .int .i64 0, .slice none 0 0, .slice none 0 0] b7 Tryz.sizeMet rfl (oneM M B4 B5 M.n c4 M.m c5) ?_
  simp only [Act.put]
  obtain ⟨us, hus⟩ : ∃ us : Array Value, us = #[.int .i64 M.places, .int .i64 M.any.a0, .int .i64 M.any.a1, .int .i64 M.any.a2, .int .i64 M.any.a3, .int .i64 M.any.a4, .int .i64 M.any.a5, .bool M.any.i, .bool M.any.s, .int .i64 M.mw, .int .i64 M.ms, .int .i64 M.mc, .slice B4 M.n c4, .slice B5 M.m c5] := ⟨_, rfl⟩
  rw [← hus]
  have HMC := hI9 (MetAt.row r2 t2 t3 b7 (us := us))
  have HL2 := hI9 (RecsAt.row hL2 t6 (by decide) b7 (us := us))
  have HMB := hI9 (wblk_setRow (cs := us) b7)
  have hbF := below_row hb z7 us
  clear r2 t2 t3 hL2 t6 hb b7 z7
  generalize w1.setRow g7 us = w4 at *
  subst hus
  have nHX := hI9 (HX.out.below hbF)
  have nHY := hI9 (HY.out.below hbF)
  have nHZ := hI9 (HZ.out.below hbF)
  have nHA := hI9 (HA.out.below hbF)
  have nHB := hI9 (bthen HB.out hbF)
  clear HX HY HZ HA HB hbF
  have HX := nHX
  have HY := nHY
  have HZ := nHZ
  have HA := nHA
  have HB := nHB
  clear nHX nHY nHZ nHA nHB
  have tok1 := trivial
  have tok2 := trivial
  have har := fun w1 h1 h2 h3 => rArrive_c M (.slice B4 M.n c4) (.slice B5 M.m c5) A' n c' S F (.slice (some ⟨bR, oR, none⟩) F.m cR) w1 h1 q1 q2 h2 h3
  rw [← HKE.out] at har
  have HAR := hI9 har
  clear har
  go_wp2_with (first | (have _t := tok1; refine wpl_row rfl 34 (.tmp 9) rfl _ rfl _ 14 HMB.out Tryz.rowMet rfl ?_; simp only [Act.put]; clear tok1) | (have _t := tok2; refine wpl_row rfl 70 (.tmp 4) rfl _ rfl _ 5 HY.out Tryz.rowFli rfl ?_; simp only [Act.put]; clear tok2))
  refine (HAR.out _ HMC.out HL2.out (HR.out.below HB.out)).mono ?_
  rintro e w5 ⟨vA5, rfl, hb5, hres⟩
  have nHX := hI9 (HX.out.below hb5)
  have nHY := hI9 (HY.out.below hb5)
  have nHZ := hI9 (HZ.out.below hb5)
  have nHA := hI9 (HA.out.below hb5)
  have nHMB := hI9 (HMB.out.below hb5)
  have nHMC := hI9 (HMC.out.below hb5)
  have nHL2 := hI9 (HL2.out.below hb5)
  have nHB := hI9 (bthen HB.out hb5)
  clear HX HY HZ HA HMB HMC HL2 HB hb5
  have HX := nHX
  have HY := nHY
  have HZ := nHZ
  have HA := nHA
  have HMB := nHMB
  have HMC := nHMC
  have HL2 := nHL2
  have HB := nHB
  clear nHX nHY nHZ nHA nHMB nHMC nHL2 nHB
  obtain ⟨AA, cA, rfl, a1, a2, hA⟩ := hres.1 rfl
  clear hres HAR
  have hm1 : 1 ≤ F.m := by omega
  obtain ⟨bA, oA, rfl, hbA, hcA⟩ := hA (by omega)
  have l0 := hcA j (by omega) 0 (by omega)
  rw [Nat.mul_one, Nat.add_zero] at l0
  simp only [nL] at l0
  rw [← HPL.out.2.2.1] at l0
  have zHY := HY.out.lt
  have cHY0 := HY.out.cell 0
  simp only [gtA, gtS, gtZ] at cHY0
  clear hcA hA
  go_wp2_with (fail)
  clear l0 cHY0
  obtain ⟨wn, hwn⟩ : ∃ k, k = whyN D M Mo ⟨a.size, a.weight, lw, ls, lc, li, lb, pl, a.lo, a.hi⟩ at0 := ⟨_, rfl⟩
  have HWY := hI9 (show ∀ w1 vA vB vC vP vQ vV, DekAt w1 vA vB vC D → MetAt w1 (.slice B4 M.n c4) (.slice B5 M.m c5) M → MovAt w1 vP vQ vV Mo → Calls Tryz.prog 10 #[.agg #[.int .i64 D.size, .int .i64 D.load, .int .i64 D.wind, vA, .int .i64 D.pitch, .int .i64 D.roll, .int .i64 D.heave, .int .i64 D.fire, vB, vC], .agg #[.int .i64 M.places, .int .i64 M.any.a0, .int .i64 M.any.a1, .int .i64 M.any.a2, .int .i64 M.any.a3, .int .i64 M.any.a4, .int .i64 M.any.a5, .bool M.any.i, .bool M.any.s, .int .i64 M.mw, .int .i64 M.ms, .int .i64 M.mc, .slice B4 M.n c4, .slice B5 M.m c5], .agg #[vP, vQ, vV], .agg #[.int .i64 a.size, .int .i64 a.weight, .int .i64 lw, .int .i64 ls, .int .i64 lc, .bool li, .bool lb, .int .i64 pl, .int .i64 a.lo, .int .i64 a.hi], .int .i64 at0] w1 fun e w' => ∃ A c, e = .returned (.tuple #[.slice A wn c, .int .i64 0]) ∧ RowKit.Below w1.heap.size w1 w' from
   fun w1 vA vB vC vP vQ vV h1 h2 h3 => by
    have := dWhy_c D vA vB vC M (.slice B4 M.n c4) (.slice B5 M.m c5) Mo vP vQ vV ⟨a.size, a.weight, lw, ls, lc, li, lb, pl, a.lo, a.hi⟩ at0 w1 h1 h2 h3
    unfold whyV at this
    rw [whyE_zero HSA.out.1 HSA.out.2 HPL.out.2.2.2.2.1.1 HPL.out.2.2.2.2.1.2, if_pos rfl, ← hwn] at this
    exact this)
  have HWN := hI9 hwn
  clear hwn
  refine wp_region_specL 13 [12] (ta14R w5.heap.size w.heap.size D Mo (.agg #[.int .i64 D.size, .int .i64 D.load, .int .i64 D.wind, .slice A1 D.ns k1, .int .i64 D.pitch, .int .i64 D.roll, .int .i64 D.heave, .int .i64 D.fire, .slice A2 D.nh k2, .slice A3 D.nu k3]) (.agg #[.int .i64 M.places, .int .i64 M.any.a0, .int .i64 M.any.a1, .int .i64 M.any.a2, .int .i64 M.any.a3, .int .i64 M.any.a4, .int .i64 M.any.a5, .bool M.any.i, .bool M.any.s, .int .i64 M.mw, .int .i64 M.ms, .int .i64 M.mc, .slice B4 M.n c4, .slice B5 M.m c5]) (.agg #[.slice A6 Mo.np k6, .slice A7 Mo.nr k7, .slice A8 Mo.nv k8]) (.agg #[.int .i64 a.size, .int .i64 a.weight, .int .i64 lw, .int .i64 ls, .int .i64 lc, .bool li, .bool lb, .int .i64 pl, .int .i64 a.lo, .int .i64 a.hi]) at0 wn) (fun i => false) (by kernel_rfl) (by kernel_rfl) (by decide) ta14R_below ?hop2 ?htail2
  case hop2 =>
   simp only [List.take_succ_cons, List.take_zero, allOps]
   refine ⟨?_, ?_, ?_, ?_, ?_, ?_, ?_, ?_, ?_, ?_, ?_, ?_, ?_, trivial⟩
   all_goals intro u A w1 hA hb hd
   all_goals simp only [putAll, dstOf, gtA, gtS, gtZ, Option.bind_some, Option.bind, Act.put, List.setIfInBounds_toArray, List.set_cons_succ, List.set_cons_zero] at hA; subst hA
   all_goals have HB1 := hI9 hb
   ·refine OpOk.now rfl ?_
    clear hb hd
    go_wp2
    exact ⟨_, rfl, Below.refl _ _, rfl, fun h => absurd h (by decide)⟩
   ·refine OpOk.now rfl ?_
    have d0 : u 0 = _ := hd 0 (by omega) (by kernel_rfl)
    clear hb hd
    rw [d0]
    clear d0
    go_wp2_with (refine wpl_midT rfl 26 _ rfl (w.heap.size + 1 + 1) 0 rfl 72 _ 10 (HZ.out.below HB1.out) Tryz.rowDekA (Nat.le_of_ble_eq_true rfl) ?_; simp only [Act.put, tdA, tdB, tdC, tdD])
    exact ⟨_, rfl, Below.refl _ _, rfl, fun h => absurd h (by decide)⟩
   ·refine OpOk.now rfl ?_
    have d1 : u 1 = _ := hd 1 (by omega) (by kernel_rfl)
    clear hb hd
    rw [d1]
    clear d1
    go_wp2_with (go_at_call 18; (with_reducible refine (yDeck_c D _ _ _ _ ((HD.out.below HB.out).below HB1.out) HFX.out.2.2.1.1 HFX.out.2.2.1.2.1 HFX.out.2.2.1.2.2).mono ?_); rintro e w2 ⟨v, rfl, ho, hb2⟩)
    exact ⟨_, rfl, hb2, ho, fun h => absurd h (by decide)⟩
   ·refine OpOk.now rfl ?_
    clear hb hd
    go_wp2_with (refine wpl_row rfl 34 _ rfl _ rfl _ 14 (HMB.out.below HB1.out) Tryz.rowMet rfl ?_; simp only [Act.put])
    exact ⟨_, rfl, Below.refl _ _, rfl, fun h => absurd h (by decide)⟩
   ·refine OpOk.now rfl ?_
    clear hb hd
    go_wp2
    exact ⟨_, rfl, Below.refl _ _, rfl, fun h => absurd h (by decide)⟩
   ·refine OpOk.now rfl ?_
    have d4 : u 4 = _ := hd 4 (by omega) (by kernel_rfl)
    clear hb hd
    rw [d4]
    clear d4
    go_wp2_with (refine wpl_midT rfl 37 _ rfl (w.heap.size + 1 + 1) 10 rfl 72 _ 3 (HZ.out.below HB1.out) Tryz.rowMovA (Nat.le_of_ble_eq_true rfl) ?_; simp only [Act.put, tdA, tdB, tdC, tdD])
    exact ⟨_, rfl, Below.refl _ _, rfl, fun h => absurd h (by decide)⟩
   ·refine OpOk.now rfl ?_
    have d2 := hd 2 (by omega) (by kernel_rfl)
    have d5 : u 5 = _ := hd 5 (by omega) (by kernel_rfl)
    clear hb hd
    rw [d5]
    clear d5
    go_wp2_with (go_at_call 19; (with_reducible refine (yMotion_c Mo _ _ _ _ ((HV.out.below HB.out).below HB1.out) HFX.out.2.2.2.1 HFX.out.2.2.2.2.1 HFX.out.2.2.2.2.2).mono ?_); rintro e w2 ⟨v, rfl, ho, hb2⟩)
    exact ⟨_, rfl, hb2, ho, fun h => absurd h (by decide)⟩
   ·refine OpOk.now rfl ?_
    clear hb hd
    go_wp2_with (refine wpl_row rfl 43 _ rfl _ rfl _ 10 (HA.out.below HB1.out) Tryz.rowAppA rfl ?_; simp only [Act.put])
    exact ⟨_, rfl, Below.refl _ _, rfl, fun h => absurd h (by decide)⟩
   ·refine OpOk.now rfl ?_
    clear hb hd
    go_wp2
    exact ⟨_, rfl, Below.refl _ _, rfl, fun h => absurd h (by decide)⟩
   ·refine OpOk.now rfl ?_
    have d2 := hd 2 (by omega) (by kernel_rfl)
    have d3 : u 3 = _ := hd 3 (by omega) (by kernel_rfl)
    have d6 := hd 6 (by omega) (by kernel_rfl)
    have d7 : u 7 = _ := hd 7 (by omega) (by kernel_rfl)
    have d8 : u 8 = _ := hd 8 (by omega) (by kernel_rfl)
    clear hb hd
    rw [d3, d7, d8]
    clear d3 d7 d8
    obtain ⟨uA, uB, uC, e2, r2⟩ := d2
    obtain ⟨uP, uQ, uV, e6, r6⟩ := d6
    rw [e2, e6]
    clear e2 e6
    go_wp2_with (go_at_call 10; (with_reducible refine (HWY.out _ _ _ _ _ _ _ r2 (HMC.out.below HB1.out) r6).mono ?_); rintro e w2 ⟨A9, c9, rfl, hb2⟩)
    exact ⟨_, rfl, hb2, ⟨A9, c9, rfl⟩, fun h => absurd h (by decide)⟩
   ·refine OpOk.now rfl ?_
    have d9 := hd 9 (by omega) (by kernel_rfl)
    clear hb hd
    obtain ⟨A9, c9, e9⟩ := d9
    rw [e9]
    go_wp2
    exact ⟨_, rfl, RowKit.Below.refl _ _, ⟨A9, c9, rfl⟩, fun h => absurd h (by decide)⟩
   ·refine OpOk.now rfl ?_
    have d10 := hd 10 (by omega) (by kernel_rfl)
    clear hb hd
    obtain ⟨A9, c9, e10⟩ := d10
    rw [e10]
    go_wp2
    exact ⟨_, rfl, RowKit.Below.refl _ _, ⟨A9, c9, rfl⟩, fun h => absurd h (by decide)⟩
   ·have d10 := hd 10 (by omega) (by kernel_rfl)
    clear hb hd
    obtain ⟨A9, c9, e10⟩ := d10
    rw [e10]
    refine OpOk.late rfl ?_
    exact ⟨_, yields_extract rfl _ _ rfl _ rfl _ rfl, rfl⟩
  case htail2 =>
   intro u A w1 hA hb hd hf
   simp only [putAll, dstOf, gtA, gtS, gtZ, Option.bind_some, Option.bind, Act.put, List.setIfInBounds_toArray, List.set_cons_succ, List.set_cons_zero] at hA; subst hA
   have e0 : u 0 = _ := hd 0 (by omega)
   have e1 : u 1 = _ := hd 1 (by omega)
   have p2 := hd 2 (by omega)
   have e3 : u 3 = _ := hd 3 (by omega)
   have e4 : u 4 = _ := hd 4 (by omega)
   have e5 : u 5 = _ := hd 5 (by omega)
   have p6 := hd 6 (by omega)
   have e7 : u 7 = _ := hd 7 (by omega)
   have e8 : u 8 = _ := hd 8 (by omega)
   have p9 := hd 9 (by omega)
   have p10 := hd 10 (by omega)
   have p11 := hd 11 (by omega)
   have e12 : u 12 = _ := hd 12 (by omega)
   first | rw [e0, e1, e3, e4, e5, e7, e8, e12] | simp only [e0, e1, e3, e4, e5, e7, e8, e12]
   clear e0 e1 e3 e4 e5 e7 e8 e12
   clear hd hf
   obtain ⟨A9, c9, e11⟩ := p11
   rw [e11]
   clear p2 p6 p9 p10 e11
   go_wp2_with (fail)
   dsimp only [NoPanic]
   have hbF := hb
   clear hb
   have nHX := hI9 (HX.out.below hbF)
   have nHY := hI9 (HY.out.below hbF)
   have nHZ := hI9 (HZ.out.below hbF)
   have nHA := hI9 (HA.out.below hbF)
   have nHMB := hI9 (HMB.out.below hbF)
   have nHMC := hI9 (HMC.out.below hbF)
   have nHL2 := hI9 (HL2.out.below hbF)
   have nHB := hI9 (bthen HB.out hbF)
   clear HX HY HZ HA HMB HMC HL2 HB hbF
   have HX := nHX
   have HY := nHY
   have HZ := nHZ
   have HA := nHA
   have HMB := nHMB
   have HMC := nHMC
   have HL2 := nHL2
   have HB := nHB
   clear nHX nHY nHZ nHA nHMB nHMC nHL2 nHB
   by_cases hw0 : wn = 0
   case neg =>
    have hwz : (0 : Int) < (wn : Int) := by omega
    go_wp2_with (first | (go_at_call 7; refine (measures_c _).mono ?_; rintro _ w9 ⟨rfl, hb9⟩; have HB9 := hI9 (bthen HB.out hb9); clear hb9))
    go_ret
    exact ⟨rfl, HB9.out⟩
   have hw0' := hw0
   rw [HWN.out] at hw0'
   have HW0 := hI9 hw0'
   clear hw0' HWN HWY
   subst hw0
   have zHY := HY.out.lt
   have cHY1 := HY.out.cell 1
   have cHY2 := HY.out.cell 2
   have cHY3 := HY.out.cell 3
   have cHY4 := HY.out.cell 4
   simp only [gtA, gtS, gtZ] at cHY1 cHY2 cHY3 cHY4
   obtain ⟨n1, n2, n3, n4, n5, n6⟩ := FliD.nums_iff.1 HOK.out.1.1
   have hp0 := HPL.out.2.2.2.1
   have hp1 := HPL.out.2.2.2.2.1
   have hbd := mul_bd (A := 100000) (B := 3000) (a := F.burn) (b := at0 - F.dep) (by omega) (by omega) (by omega) (by omega)
   have hv1 : IntKind.i64.wrap (at0 - F.dep) = at0 - F.dep := by rw [IntKind.wrap_i64]; omega
   have hv2 : IntKind.i64.wrap (F.burn * (at0 - F.dep)) = F.burn * (at0 - F.dep) := by rw [IntKind.wrap_i64]; omega
   have hv3 : IntKind.i64.wrap (F.fuel - F.burn * (at0 - F.dep)) = F.fuel - F.burn * (at0 - F.dep) := by rw [IntKind.wrap_i64]; omega
   clear n1 n2 n3 n4 n5 n6 hp0 hp1 hbd
   by_cases hfu : F.fuel - F.burn * (at0 - F.dep) < F.res
   case pos =>
    go_wp2_with (first | (go_at_call 7; refine (measures_c _).mono ?_; rintro _ w9 ⟨rfl, hb9⟩; have HB9 := hI9 (bthen HB.out hb9); clear hb9))
    go_ret
    exact ⟨rfl, HB9.out⟩
   have hbe : bsE (tkE 0 F (lgT S n) at0) M lw ls lc li lb S n F at0 = (⟨pl.toNat, at0, false⟩, 0) := by
    obtain ⟨hj, hpl, hat, hdp, ha0, hrj⟩ := HPL.out
    have hov := (whyN_zero.1 HW0.out).2.1
    have hfu' : F.res ≤ F.fuel - F.burn * (at0 - F.dep) := Int.not_lt.1 hfu
    dsimp only at hov
    rw [hat, hpl, hj] at hov
    rw [hat, hj] at hfu' hdp
    rw [hat, hpl, hj]
    exact bsE_end HOK.out.2.2.1 HOK.out.1 hdp hov hfu'
   have hnf : nfE (netME M lw ls lc S n) M S n F = 0 := by
    rw [nfM_min, if_pos (appE_min HSA.out.2)]; exact HKE.out.symm
   have hbs := fun w1 h hl hr => rBest_c M (.slice B4 M.n c4) (.slice B5 M.m c5) lw ls lc li lb A' n c' S F (.slice (some ⟨bR, oR, none⟩) F.m cR) at0 w1 h q1 q2 hl hr
   rw [hnf, hbe] at hbs
   dsimp only [hvC] at hbs
   rw [show ((pl.toNat : Nat) : Int) = pl by have := HPL.out.2.2.2.2.2; omega] at hbs
   have HBS := hI9 hbs
   clear hbs hnf hbe
   have tok1 := trivial
   have tok2 := trivial
   have tok3 := trivial
   go_wp2_with (first | (have _t := tok1; refine wpl_row rfl 34 (.tmp 9) rfl _ rfl _ 14 HMB.out Tryz.rowMet rfl ?_; simp only [Act.put]; clear tok1) | (have _t := tok2; refine wpl_midT rfl 41 (.tmp 134) rfl w.heap.size 14 rfl 68 _ 5 HX.out Tryz.rowMin (Nat.le_of_ble_eq_true rfl) ?_; simp only [Act.put, tdA, tdB, tdC, tdD]; clear tok2) | (have _t := tok3; refine wpl_row rfl 70 (.tmp 4) rfl _ rfl _ 5 HY.out Tryz.rowFli rfl ?_; simp only [Act.put]; clear tok3))
   refine (HBS.out _ HMC.out HL2.out (HR.out.below HB.out)).mono ?_
   rintro e wx ⟨rfl, hb6⟩
   clear cHY1 cHY2 cHY3 cHY4 hv1 hv2 hv3 hfu HBS
   have nHX := hI9 (HX.out.below hb6)
   have nHY := hI9 (HY.out.below hb6)
   have nHZ := hI9 (HZ.out.below hb6)
   have nHA := hI9 (HA.out.below hb6)
   have nHMB := hI9 (HMB.out.below hb6)
   have nHMC := hI9 (HMC.out.below hb6)
   have nHL2 := hI9 (HL2.out.below hb6)
   have nHB := hI9 (bthen HB.out hb6)
   clear HX HY HZ HA HMB HMC HL2 HB hb6
   have HX := nHX
   have HY := nHY
   have HZ := nHZ
   have HA := nHA
   have HMB := nHMB
   have HMC := nHMC
   have HL2 := nHL2
   have HB := nHB
   clear nHX nHY nHZ nHA nHMB nHMC nHL2 nHB
   have zHA := HA.out.lt
   have cHA7 := HA.out.cell 7
   simp only [gtA, gtS, gtZ] at cHA7
   have tokS := trivial
   have tokT := trivial
   go_wp2_with (first | (have _t := tokS; refine wpl_store_newR rfl 80 (.tmp 16) (.tmp 140) rfl #[.int .i64 pl, .int .i64 at0, .bool false] _ _ rfl ?_ rfl Tryz.sizeHav rfl (by simp [Value.oneCell']) ?_; (focus (simp; done)); simp only [Act.put]; clear tokS; have bHH := Blk.new wx 80 #[.int .i64 pl, .int .i64 at0, .bool false]; have hbH := bal (RowKit.Below.refl wx.heap.size wx) (.cells #[.int .i64 pl, .int .i64 at0, .bool false] 80); generalize wx.alloc (.cells #[.int .i64 pl, .int .i64 at0, .bool false] 80) = wy at *; have cHA7' := (HA.out.below hbH).cell 7; simp only [gtA, gtS, gtZ] at cHA7'; clear cHA7) | (have _t := tokT; refine wpl_row_g (g := wx.heap.size) (cs := _) (n := 3) ?_ 80 (.tmp 16) rfl rfl bHH Tryz.rowHavA rfl ?_; (focus rfl); simp only [Act.put]; clear tokT))
   have HH := hI9 bHH
   clear bHH
   have nHX := hI9 (HX.out.below hbH)
   have nHY := hI9 (HY.out.below hbH)
   have nHZ := hI9 (HZ.out.below hbH)
   have nHA := hI9 (HA.out.below hbH)
   have nHMB := hI9 (HMB.out.below hbH)
   have nHMC := hI9 (HMC.out.below hbH)
   have nHL2 := hI9 (HL2.out.below hbH)
   have nHB := hI9 (bthen HB.out hbH)
   clear HX HY HZ HA HMB HMC HL2 HB hbH
   have HX := nHX
   have HY := nHY
   have HZ := nHZ
   have HA := nHA
   have HMB := nHMB
   have HMC := nHMC
   have HL2 := nHL2
   have HB := nHB
   clear nHX nHY nHZ nHA nHMB nHMC nHL2 nHB
   generalize wx.heap.size = gHH at *
   clear cHA7'
   have HBK := hI9 (show ∀ w1 vA vB vC vP vQ vV g', DekAt w1 vA vB vC D → MetAt w1 (.slice B4 M.n c4) (.slice B5 M.m c5) M → MovAt w1 vP vQ vV Mo → RecsAt w1 (some ⟨g', 0, none⟩) 1 12 (bkC (t1T at0 ⟨a.size, a.weight, lw, ls, lc, li, lb, pl, a.lo, a.hi⟩) (t1B ⟨a.size, a.weight, lw, ls, lc, li, lb, pl, a.lo, a.hi⟩)) → Calls Tryz.prog 21 #[.agg #[.int .i64 D.size, .int .i64 D.load, .int .i64 D.wind, vA, .int .i64 D.pitch, .int .i64 D.roll, .int .i64 D.heave, .int .i64 D.fire, vB, vC], .agg #[.int .i64 M.places, .int .i64 M.any.a0, .int .i64 M.any.a1, .int .i64 M.any.a2, .int .i64 M.any.a3, .int .i64 M.any.a4, .int .i64 M.any.a5, .bool M.any.i, .bool M.any.s, .int .i64 M.mw, .int .i64 M.ms, .int .i64 M.mc, .slice B4 M.n c4, .slice B5 M.m c5], .agg #[vP, vQ, vV], .slice (some ⟨g', 0, none⟩) 1 1] w1 fun e w' => (∃ v, e = .returned (.tuple #[v, .int .i64 0]) ∧ SlAt w' v 1 1 (lV fun _ => at0)) ∧ RowKit.Below w1.heap.size w1 w' from
    fun w1 vA vB vC vP vQ vV g' h1 h2 h3 h4 => by
     have := dBook_c D vA vB vC M (.slice B4 M.n c4) (.slice B5 M.m c5) Mo vP vQ vV (some ⟨g', 0, none⟩) 1 1 (t1T at0 ⟨a.size, a.weight, lw, ls, lc, li, lb, pl, a.lo, a.hi⟩) (t1B ⟨a.size, a.weight, lw, ls, lc, li, lb, pl, a.lo, a.hi⟩) w1 h1 h2 h3 (Nat.le_refl _) (by decide) h4
     have hp0 := HPL.out.2.2.2.2.1
     rw [book1_E HSA.out.1 HSA.out.2 hp0.1 hp0.2] at this
     refine this.mono ?_
     rintro e w' ⟨v, rfl, hb, h⟩
     obtain ⟨A9, c9, e9, r1, r2, r3⟩ := (h rfl).e
     refine ⟨⟨v, rfl, ⟨A9, c9, e9, r1, r2, fun hp => ?_⟩⟩, hb⟩
     obtain ⟨b, off, e, hl, hc⟩ := r3 hp
     refine ⟨b, off, e, hl, fun i hi q hq => ?_⟩
     obtain rfl : i = 0 := by omega
     rw [hc 0 (by omega) q hq]
     show some (Value.int .i64 (bkO D M Mo (t1T at0 ⟨a.size, a.weight, lw, ls, lc, li, lb, pl, a.lo, a.hi⟩) (t1B ⟨a.size, a.weight, lw, ls, lc, li, lb, pl, a.lo, a.hi⟩) 0)) = some (.int .i64 at0)
     rw [book1_O HW0.out hp0.1 hp0.2])
   refine wp_region_specL 15 [14] (ta22R wy.heap.size w.heap.size D Mo (.agg #[.int .i64 D.size, .int .i64 D.load, .int .i64 D.wind, .slice A1 D.ns k1, .int .i64 D.pitch, .int .i64 D.roll, .int .i64 D.heave, .int .i64 D.fire, .slice A2 D.nh k2, .slice A3 D.nu k3]) (.agg #[.int .i64 M.places, .int .i64 M.any.a0, .int .i64 M.any.a1, .int .i64 M.any.a2, .int .i64 M.any.a3, .int .i64 M.any.a4, .int .i64 M.any.a5, .bool M.any.i, .bool M.any.s, .int .i64 M.mw, .int .i64 M.ms, .int .i64 M.mc, .slice B4 M.n c4, .slice B5 M.m c5]) (.agg #[.slice A6 Mo.np k6, .slice A7 Mo.nr k7, .slice A8 Mo.nv k8]) (.agg #[.int .i64 a.size, .int .i64 a.weight, .int .i64 lw, .int .i64 ls, .int .i64 lc, .bool li, .bool lb, .int .i64 pl, .int .i64 a.lo, .int .i64 a.hi]) (.agg #[.int .i64 at0, .int .i64 1, .int .i64 a.size, .int .i64 a.weight, .int .i64 lw, .int .i64 ls, .int .i64 lc, .bool li, .bool lb, .int .i64 pl, .int .i64 a.lo, .int .i64 a.hi]) at0 ⟨a.size, a.weight, lw, ls, lc, li, lb, pl, a.lo, a.hi⟩) (fun i => false) (by kernel_rfl) (by kernel_rfl) (by decide) ta22R_below ?hop3 ?htail3
   case hop3 =>
    simp only [List.take_succ_cons, List.take_zero, allOps]
    refine ⟨?_, ?_, ?_, ?_, ?_, ?_, ?_, ?_, ?_, ?_, ?_, ?_, ?_, ?_, ?_, trivial⟩
    all_goals intro u A w1 hA hb hd
    all_goals simp only [putAll, dstOf, gtA, gtS, gtZ, Option.bind_some, Option.bind, Act.put, List.setIfInBounds_toArray, List.set_cons_succ, List.set_cons_zero] at hA; subst hA
    all_goals have HB1 := hI9 hb
    ·refine OpOk.now rfl ?_
     clear hb hd
     go_wp2
     exact ⟨_, rfl, Below.refl _ _, rfl, fun h => absurd h (by decide)⟩
    ·refine OpOk.now rfl ?_
     have d0 : u 0 = _ := hd 0 (by omega) (by kernel_rfl)
     clear hb hd
     rw [d0]
     clear d0
     go_wp2_with (refine wpl_midT rfl 26 _ rfl (w.heap.size + 1 + 1) 0 rfl 72 _ 10 (HZ.out.below HB1.out) Tryz.rowDekA (Nat.le_of_ble_eq_true rfl) ?_; simp only [Act.put, tdA, tdB, tdC, tdD])
     exact ⟨_, rfl, Below.refl _ _, rfl, fun h => absurd h (by decide)⟩
    ·refine OpOk.now rfl ?_
     have d1 : u 1 = _ := hd 1 (by omega) (by kernel_rfl)
     clear hb hd
     rw [d1]
     clear d1
     go_wp2_with (go_at_call 18; (with_reducible refine (yDeck_c D _ _ _ _ ((HD.out.below HB.out).below HB1.out) HFX.out.2.2.1.1 HFX.out.2.2.1.2.1 HFX.out.2.2.1.2.2).mono ?_); rintro e w2 ⟨v, rfl, ho, hb2⟩)
     exact ⟨_, rfl, hb2, ho, fun h => absurd h (by decide)⟩
    ·refine OpOk.now rfl ?_
     clear hb hd
     go_wp2_with (refine wpl_row rfl 34 _ rfl _ rfl _ 14 (HMB.out.below HB1.out) Tryz.rowMet rfl ?_; simp only [Act.put])
     exact ⟨_, rfl, Below.refl _ _, rfl, fun h => absurd h (by decide)⟩
    ·refine OpOk.now rfl ?_
     clear hb hd
     go_wp2
     exact ⟨_, rfl, Below.refl _ _, rfl, fun h => absurd h (by decide)⟩
    ·refine OpOk.now rfl ?_
     have d4 : u 4 = _ := hd 4 (by omega) (by kernel_rfl)
     clear hb hd
     rw [d4]
     clear d4
     go_wp2_with (refine wpl_midT rfl 37 _ rfl (w.heap.size + 1 + 1) 10 rfl 72 _ 3 (HZ.out.below HB1.out) Tryz.rowMovA (Nat.le_of_ble_eq_true rfl) ?_; simp only [Act.put, tdA, tdB, tdC, tdD])
     exact ⟨_, rfl, Below.refl _ _, rfl, fun h => absurd h (by decide)⟩
    ·refine OpOk.now rfl ?_
     have d2 := hd 2 (by omega) (by kernel_rfl)
     have d5 : u 5 = _ := hd 5 (by omega) (by kernel_rfl)
     clear hb hd
     rw [d5]
     clear d5
     go_wp2_with (go_at_call 19; (with_reducible refine (yMotion_c Mo _ _ _ _ ((HV.out.below HB.out).below HB1.out) HFX.out.2.2.2.1 HFX.out.2.2.2.2.1 HFX.out.2.2.2.2.2).mono ?_); rintro e w2 ⟨v, rfl, ho, hb2⟩)
     exact ⟨_, rfl, hb2, ho, fun h => absurd h (by decide)⟩
    ·refine OpOk.now rfl ?_
     clear hb hd
     go_wp2
     exact ⟨_, rfl, Below.refl _ _, rfl, fun h => absurd h (by decide)⟩
    ·refine OpOk.now rfl ?_
     clear hb hd
     go_wp2_with (refine wpl_row rfl 43 _ rfl _ rfl _ 10 (HA.out.below HB1.out) Tryz.rowAppA rfl ?_; simp only [Act.put])
     exact ⟨_, rfl, Below.refl _ _, rfl, fun h => absurd h (by decide)⟩
    ·refine OpOk.now rfl ?_
     have d7 : u 7 = _ := hd 7 (by omega) (by kernel_rfl)
     have d8 : u 8 = _ := hd 8 (by omega) (by kernel_rfl)
     clear hb hd
     rw [d7, d8]
     clear d7 d8
     refine wpl_buildr rfl 85 _ rfl #[.int .i64 at0, .int .i64 1, .int .i64 a.size, .int .i64 a.weight, .int .i64 lw, .int .i64 ls, .int .i64 lc, .bool li, .bool lb, .int .i64 pl, .int .i64 a.lo, .int .i64 a.hi] (by kernel_rfl) ?_
     simp only [Act.put, List.setIfInBounds_toArray, List.set_cons_succ, List.set_cons_zero]
     exact ⟨_, rfl, Below.refl _ _, rfl, fun h => absurd h (by decide)⟩
    ·refine OpOk.now rfl ?_
     have d9 : u 9 = _ := hd 9 (by omega) (by kernel_rfl)
     clear hb hd
     rw [d9]
     clear d9
     refine wpl_recr rfl 86 85 1 _ 12 [.agg #[.int .i64 at0, .int .i64 1, .int .i64 a.size, .int .i64 a.weight, .int .i64 lw, .int .i64 ls, .int .i64 lc, .bool li, .bool lb, .int .i64 pl, .int .i64 a.lo, .int .i64 a.hi]] (bkC (t1T at0 ⟨a.size, a.weight, lw, ls, lc, li, lb, pl, a.lo, a.hi⟩) (t1B ⟨a.size, a.weight, lw, ls, lc, li, lb, pl, a.lo, a.hi⟩)) rfl Tryz.bkUA Tryz.bkSA Tryz.bkZA rfl (by omega) (by omega) (by omega) (by intro v hv; rw [List.mem_singleton.1 hv]; rfl) (by rfl) (by rfl) ?_
     intro g' w' h1 h2 h3
     exact ⟨_, rfl, h1, ⟨g', rfl, h3⟩, fun h => absurd h (by decide)⟩
    ·refine OpOk.now rfl ?_
     have d2 := hd 2 (by omega) (by kernel_rfl)
     have d3 : u 3 = _ := hd 3 (by omega) (by kernel_rfl)
     have d6 := hd 6 (by omega) (by kernel_rfl)
     have d10 := hd 10 (by omega) (by kernel_rfl)
     clear hb hd
     rw [d3]
     clear d3
     obtain ⟨uA, uB, uC, e2, r2⟩ := d2
     obtain ⟨uP, uQ, uV, e6, r6⟩ := d6
     obtain ⟨g', e10, r10⟩ := d10
     rw [e2, e6, e10]
     clear e2 e6 e10
     go_wp2_with (go_at_call 21; (with_reducible refine (HBK.out _ _ _ _ _ _ _ _ r2 (HMC.out.below HB1.out) r6 r10).mono ?_); rintro e w2 ⟨⟨v1, rfl, h1⟩, hb2⟩)
     exact ⟨_, rfl, hb2, ⟨v1, rfl, h1⟩, fun h => absurd h (by decide)⟩
    ·refine OpOk.now rfl ?_
     have d11 := hd 11 (by omega) (by kernel_rfl)
     clear hb hd
     obtain ⟨v1, e11, h11⟩ := d11
     rw [e11]
     go_wp2
     exact ⟨_, rfl, RowKit.Below.refl _ _, ⟨v1, rfl, h11⟩, fun h => absurd h (by decide)⟩
    ·refine OpOk.now rfl ?_
     have d12 := hd 12 (by omega) (by kernel_rfl)
     clear hb hd
     obtain ⟨v1, e11, h11⟩ := d12
     rw [e11]
     go_wp2
     exact ⟨_, rfl, RowKit.Below.refl _ _, h11, fun h => absurd h (by decide)⟩
    ·have d12 := hd 12 (by omega) (by kernel_rfl)
     clear hb hd
     obtain ⟨v1, e11, h11⟩ := d12
     rw [e11]
     refine OpOk.late rfl ?_
     exact ⟨_, yields_extract rfl _ _ rfl _ rfl _ rfl, rfl⟩
   case htail3 =>
    intro u A w1 hA hb hd hf
    simp only [putAll, dstOf, gtA, gtS, gtZ, Option.bind_some, Option.bind, Act.put, List.setIfInBounds_toArray, List.set_cons_succ, List.set_cons_zero] at hA; subst hA
    have e0 : u 0 = _ := hd 0 (by omega)
    have e1 : u 1 = _ := hd 1 (by omega)
    have p2 := hd 2 (by omega)
    have e3 : u 3 = _ := hd 3 (by omega)
    have e4 : u 4 = _ := hd 4 (by omega)
    have e5 : u 5 = _ := hd 5 (by omega)
    have p6 := hd 6 (by omega)
    have e7 : u 7 = _ := hd 7 (by omega)
    have e8 : u 8 = _ := hd 8 (by omega)
    have e9 : u 9 = _ := hd 9 (by omega)
    have p10 := hd 10 (by omega)
    have p11 := hd 11 (by omega)
    have p12 := hd 12 (by omega)
    have p13 := hd 13 (by omega)
    have e14 : u 14 = _ := hd 14 (by omega)
    first | rw [e0, e1, e3, e4, e5, e7, e8, e9, e14] | simp only [e0, e1, e3, e4, e5, e7, e8, e9, e14]
    clear e0 e1 e3 e4 e5 e7 e8 e9 e14
    clear hd hf
    obtain ⟨AG, cG, e13, g1, g2, hG⟩ := p13.e
    have hGG := p13
    rw [e13] at hGG
    rw [e13]
    have HGG := hI9 hGG
    clear p2 p6 p10 p11 p12 p13 e13 hG hGG
    go_wp2_with (fail)
    dsimp only [NoPanic]
    have hbG := hb
    clear hb
    have nHX := hI9 (HX.out.below hbG)
    have nHY := hI9 (HY.out.below hbG)
    have nHZ := hI9 (HZ.out.below hbG)
    have nHA := hI9 (HA.out.below hbG)
    have nHB := hI9 (bthen HB.out hbG)
    clear HX HY HZ HA HB hbG
    have HX := nHX
    have HY := nHY
    have HZ := nHZ
    have HA := nHA
    have HB := nHB
    clear nHX nHY nHZ nHA nHB
    have tokU := trivial
    go_wp2_with (first | (have _t := tokU; go_at_call 22; clear tokU; refine (tsame_c (.slice AG 1 cG) _ 1 (fun _ => at0) (fun _ => at0) _ (HGG.out.below (bal (RowKit.Below.refl _ _) _)) ⟨⟨some ⟨w1.heap.size, 0, none⟩, 1, rfl, Nat.le_refl _, by decide, fun _ => ⟨w1.heap.size, 0, rfl, by (simp only [World.size_alloc]; omega), fun i hi q hq => by (obtain rfl : i = 0 := by omega); (obtain rfl : q = 0 := by omega); exact (Blk.new w1 3 #[.int .i64 at0]).cell 0⟩⟩⟩ (by omega) (fun _ _ => rfl)).mono ?_; rintro e w8 ⟨rfl, hb8⟩; have HB8 := hI9 (bthen (bal HB.out _) hb8); clear HB hb8; have HB := HB8; clear HB8) | (go_at_call 7; refine (measures_c _).mono ?_; rintro _ w9 ⟨rfl, hb9⟩; have HB9 := hI9 (bthen HB.out hb9); clear hb9))
    go_ret
    exact ⟨rfl, HB9.out⟩
end Go.Proofs.YtlambeiafdpkgaaGreat
