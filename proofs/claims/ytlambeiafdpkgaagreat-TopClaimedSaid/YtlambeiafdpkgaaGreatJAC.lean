/- Texts joined: JAC. -/
import Derived.Test.YtlambeiafdpkgaaGreatJAB
import Derived.RangeFuncNested
import Derived.RangeFuncBound
import Derived.RangeFuncCalls
import Derived.RangeFuncLeaves
import Derived.Shelf.RegionOpen
import Derived.OwnWalkIn
import Derived.TacticsInMore
import Derived.LoopNIn
import Derived.LoopIn
import Derived.Test.YtlambeiafdpkgaaGreatBas
set_option linter.all false
namespace Go.Proofs.YtlambeiafdpkgaaGreat
open Go Go.RowKit Go.Proofs Go.Shelf
attribute [local go_sem] Oper.semAt_some
def encPt (p : Pt) : Array Value := #[.agg #[.int .i64 p.x, .int .i64 p.y, .int .i64 p.n, .int .i64 p.d]]
def numP (T : Tbl) (x y : Int) : Int := num T (cellP T.X x) (cellP T.Y y) x y
def denP (T : Tbl) (x y : Int) : Int := den T (cellP T.X x) (cellP T.Y y) x y
open Classical in
noncomputable def mkPt (T : Tbl) (x y : Int) : Pt :=
 if h : (-400000000000000 ≤ numP T x y ∧ numP T x y ≤ 400000000000000) ∧ (1 ≤ denP T x y ∧ denP T x y ≤ 400000000) then ⟨x, y, numP T x y, denP T x y, h.1, h.2⟩ else ⟨x, y, 0, 1, by omega, by omega⟩
noncomputable def cornersL (T : Tbl) (sx sy : List Int) : List Pt := sx.flatMap fun x => sy.map (mkPt T x)
def OnT (T : Tbl) (x y : Int) : Prop := nth T.X 0 ≤ x ∧ x ≤ nth T.X (T.X.length - 1) ∧ nth T.Y 0 ≤ y ∧ y ≤ nth T.Y (T.Y.length - 1)
theorem numP_bd {T : Tbl} {x y : Int} (ht : tblB T = true) (h : OnT T x y) : (-400000000000000 ≤ numP T x y ∧ numP T x y ≤ 400000000000000) ∧ (1 ≤ denP T x y ∧ denP T x y ≤ 400000000) := by
 obtain ⟨hx0, hx1, hy0, hy1⟩ := h
 have hX := tblB_X ht
 have hY := tblB_Y ht
 have lV := tblB_len ht
 have ii := cellP_lt hX x
 have kk := cellP_lt hY y
 have pi := cellP_in hX hx0 hx1
 have pk := cellP_in hY hy0 hy1
 have si := axisB_step hX ii
 have sk := axisB_step hY kk
 unfold numP denP num den
 generalize cellP T.X x = i at *
 generalize cellP T.Y y = k at *
 obtain ⟨_, v0⟩ := tblB_row ht (show i < T.V.length by omega)
 obtain ⟨_, v1⟩ := tblB_row ht (show i + 1 < T.V.length by omega)
 have h := (wnum_eq (A := nth T.X (i + 1) - x) (B := x - nth T.X i) (C := nth T.Y (k + 1) - y) (D := y - nth T.Y k) (by omega) (by omega) (by omega) (by omega) (by omega) (by omega) (by omega) (by omega)
  (v0 k (by omega)) (v0 (k + 1) (by omega)) (v1 k (by omega)) (v1 (k + 1) (by omega))).2
 refine ⟨h, ?_⟩
 have e1 : nth T.X (i + 1) - x + (x - nth T.X i) = nth T.X (i + 1) - nth T.X i := by omega
 have e2 : nth T.Y (k + 1) - y + (y - nth T.Y k) = nth T.Y (k + 1) - nth T.Y k := by omega
 rw [e1, e2]
 have m := mul_bd (a := nth T.X (i + 1) - nth T.X i) (b := nth T.Y (k + 1) - nth T.Y k) (A := 10000) (B := 10000) (by omega) (by omega) (by omega) (by omega)
 have p : 1 * 1 ≤ (nth T.X (i + 1) - nth T.X i) * (nth T.Y (k + 1) - nth T.Y k) := Int.mul_le_mul (by omega) (by omega) (by omega) (by omega)
 omega
theorem mkPt_n {T : Tbl} {x y : Int} (ht : tblB T = true) (h : OnT T x y) : (mkPt T x y).n = numP T x y ∧ (mkPt T x y).d = denP T x y := by
 unfold mkPt; rw [dif_pos (numP_bd ht h)]; exact ⟨rfl, rfl⟩
theorem mkPt_x (T : Tbl) (x y : Int) : (mkPt T x y).x = x ∧ (mkPt T x y).y = y := by
 unfold mkPt; split <;> exact ⟨rfl, rfl⟩
def KeepC (S : Nat → Prop) (A B : World) : Prop := A.heap.size ≤ B.heap.size ∧ ∀ k c t f, A.heap[k]? = some (.cells c t f) → ¬ S k → B.heap[k]? = some (.cells c t f)
theorem KeepC.trans {S : Nat → Prop} {A B C : World} (h : KeepC S A B) (k : KeepC S B C) : KeepC S A C :=
 ⟨Nat.le_trans h.1 k.1, fun i c t f hi hs => k.2 i c t f (h.2 i c t f hi hs) hs⟩
theorem KeepC.put {S : Nat → Prop} (W : World) (l : Nat) (o o' : Obj) (h : W.heap[l]? = some o) (ho : o.isCells = false) : KeepC S W (W.putObj l o') :=
 ⟨by simp, fun k c t f hk _ => by
  by_cases e : k = l
  ·subst e; rw [h] at hk; cases hk; simp [Obj.isCells] at ho
  ·exact (World.putObj_heap_other e).trans hk⟩
theorem KeepC.of_below {S : Nat → Prop} {A B : World} (h : Below A.heap.size A B) : KeepC S A B :=
 ⟨h.size, fun k c t f hk _ => (h.block k (Array.getElem?_eq_some_iff.1 hk).1).trans hk⟩
theorem KeepC.cell {S : Nat → Prop} {A B : World} (h : KeepC S A B) {b o : Nat} {v : Value} (hc : A.cell? ⟨b, o, none⟩ = some v) (hs : ¬ S b) : B.cell? ⟨b, o, none⟩ = some v := by
 unfold World.cell? at hc ⊢
 split at hc
 ·rename_i c e f hb
  rw [show B.heap[(⟨b, o, none⟩ : Addr).block]? = some (.cells c e f) from h.2 b c e f hb hs]
  exact hc
 ·simp at hc
theorem grownBy_of_below {A B : World} (h : Below A.heap.size A B) : A.grownBy B none :=
 ⟨h.os, h.tape, h.output, h.size, fun k hk _ => h.block k hk⟩
theorem CellsAt.keep {S : Nat → Prop} {w w' : World} {A : Option Addr} {n : Nat} {f : Nat → Value} (h : CellsAt w A n f) (hk : KeepC S w w') (hS : ∀ k, S k → w.heap.size ≤ k) : CellsAt w' A n f := by
 intro hn
 obtain ⟨b, off, hA, hlt, hc⟩ := h hn
 exact ⟨b, off, hA, Nat.lt_of_lt_of_le hlt hk.1, fun k hkn => hk.cell (hc k hkn) (fun hs => by have := hS b hs; omega)⟩
theorem Ints.keep {S : Nat → Prop} {w w' : World} {v : Value} {xs : List Int} (h : Ints w v xs) (hk : KeepC S w w') (hS : ∀ k, S k → w.heap.size ≤ k) : Ints w' v xs := by
 obtain ⟨A, c, rfl, h1, h2, h3, h4⟩ := h
 exact ⟨A, c, rfl, h1, h2, h3, h4.keep hk hS⟩
theorem TblAt.keep {S : Nat → Prop} {w w' : World} {x y v : Value} {T : Tbl} (h : TblAt w x y v T) (hk : KeepC S w w') (hS : ∀ k, S k → w.heap.size ≤ k) : TblAt w' x y v T := by
 refine ⟨h.x.keep hk hS, h.y.keep hk hS, ?_⟩
 obtain ⟨A, c, vs, e, h1, h2, h3, h4⟩ := h.v
 exact ⟨A, c, vs, e, h1, h2, h3.keep hk hS, fun k hkn => (h4 k hkn).keep hk hS⟩
theorem row_form {w : World} {base : Nat} {e : TypeId} {v : Value} {xs : List Int} (h : w.ownsRow base e 1 v xs.length (xs.map (Value.int .i64))) (h0 : 0 < xs.length) :
  ∃ g c, v = .slice (some ⟨g, 0, none⟩) xs.length c ∧ base ≤ g ∧ g < w.heap.size ∧ ∀ k, k < xs.length → w.cell? ⟨g, k, none⟩ = some (.int .i64 (nth xs k)) := by
 obtain ⟨hl, h2⟩ := id h
 rcases h2 with ⟨_, hz⟩ | ⟨g, cap, cur, rfl, hg, _⟩
 ·omega
 ·refine ⟨g, cap, rfl, hg, (h.lt g rfl).2, fun k hk => ?_⟩
  have := h.cells (g := g) rfl k (.int .i64 (nth xs k)) (by rw [List.getElem?_map, List.getElem?_eq_getElem hk, nth_getElem xs k hk]; rfl)
  rw [Addr.add_lit] at this
  simpa using this
end Go.Proofs.YtlambeiafdpkgaaGreat
namespace Go.Proofs.YtlambeiafdpkgaaGreat
open Go Go.RowKit Go.Proofs Go.Shelf
attribute [local go_sem] Oper.semAt_some
noncomputable def preL (T : Tbl) (sx sy : List Int) (i k : Nat) : List Pt := cornersL T (sx.take i) sy ++ (sy.take k).map (mkPt T (nth sx i))
theorem preL_zero (T : Tbl) (sx sy : List Int) : preL T sx sy 0 0 = [] := by simp [preL, cornersL]
theorem preL_k (T : Tbl) (sx sy : List Int) (i k : Nat) (hk : k < sy.length) : preL T sx sy i (k + 1) = preL T sx sy i k ++ [mkPt T (nth sx i) (nth sy k)] := by
 unfold preL; rw [take_snoc sy k hk]; simp
theorem preL_i (T : Tbl) (sx sy : List Int) (i : Nat) (hi : i < sx.length) : preL T sx sy (i + 1) 0 = preL T sx sy i sy.length := by
 unfold preL; rw [take_snoc sx i hi]; simp [cornersL]
theorem preL_end (T : Tbl) (sx sy : List Int) : preL T sx sy sx.length 0 = cornersL T sx sy := by simp [preL]
theorem cornersL_len (T : Tbl) (sx sy : List Int) : (cornersL T sx sy).length = sx.length * sy.length := by
 induction sx with
 | nil => simp [cornersL]
 | cons a l ih =>
  have : cornersL T (a :: l) sy = sy.map (mkPt T a) ++ cornersL T l sy := by simp [cornersL]
  rw [this, List.length_append, ih]; simp [Nat.add_mul, Nat.add_comm]
theorem preL_lt (T : Tbl) (sx sy : List Int) (i k : Nat) (hi : i < sx.length) (hk : k < sy.length) : (preL T sx sy i k).length < (cornersL T sx sy).length := by
 have h1 : (preL T sx sy i k).length = i * sy.length + k := by
  unfold preL
  rw [List.length_append, cornersL_len, List.length_map, List.length_take, List.length_take, Nat.min_eq_left (by omega), Nat.min_eq_left (by omega)]
 rw [h1, cornersL_len]
 have h2 : (i + 1) * sy.length ≤ sx.length * sy.length := Nat.mul_le_mul_right _ (by omega)
 rw [Nat.add_mul] at h2
 omega
theorem stopsL_pos (xs : List Int) (lo hi : Int) : 0 < (stopsL xs lo hi).length := by simp [stopsL, stopsF]
theorem stopsL_le (xs : List Int) (lo hi : Int) (h : xs.length ≤ 12) : (stopsL xs lo hi).length ≤ 14 := by
 have := stopsF_len xs lo hi xs.length
 unfold stopsL; rw [List.length_append]; split <;> simp <;> omega
theorem stopsL_in {xs : List Int} {lo hi : Int} (hlh : lo ≤ hi) {k : Nat} (hk : k < (stopsL xs lo hi).length) : lo ≤ nth (stopsL xs lo hi) k ∧ nth (stopsL xs lo hi) k ≤ hi := by
 have hm := nth_mem _ k hk
 generalize nth (stopsL xs lo hi) k = z at *
 unfold stopsL stopsF at hm
 simp only [List.mem_append, List.mem_cons, List.mem_filter, Bool.and_eq_true, decide_eq_true_eq] at hm
 rcases hm with (rfl | ⟨_, h1, h2⟩) | h
 ·omega
 ·omega
 ·split at h
  ·simp at h; omega
  ·simp at h
set_option maxRecDepth 100000 in
set_option maxHeartbeats 4000000 in
theorem corners1_in (n : Nat) (hn : 1 ≤ n) (l bt bx by_ n₀ : Nat) (S : Nat → Prop) (hS : ∀ k, S k → n₀ ≤ k) (x y v : Value) (T : Tbl) (xl xh yl yh : Int) (J Jx : List Pt → World → Prop)
  (ht : tblB T = true) (hvx : xl ≤ xh) (hvy : yl ≤ yh) (hlx : liesB T.X xl xh = true) (hly : liesB T.Y yl yh = true)
  (W : World) (hn₀ : n₀ ≤ W.heap.size) (hSW : ∀ k, S k → k < W.heap.size)
  (hJ : AbidesFrom W.heap.size J)
  (hY : ∀ pre p W1, J pre W1 → pre.length < (cornersL T (stopsL T.X xl xh) (stopsL T.Y yl yh)).length → YieldAt Fence.wide (n - 1) Tryz.prog l (encPt p) W1 fun e W' =>
   (e = .returned (.bool true) ∧ J (pre ++ [p]) W' ∧ KeepC S W1 W') ∨ (e = .returned (.bool false) ∧ Jx (pre ++ [p]) W'))
  (t0 : W.cell? ⟨bt, 0, none⟩ = some x) (t1 : W.cell? ⟨bt, 1, none⟩ = some y) (t2 : W.cell? ⟨bt, 2, none⟩ = some v) (hbt : ¬ S bt)
  (x0 : W.cell? ⟨bx, 0, none⟩ = some (.int .i64 xl)) (x1 : W.cell? ⟨bx, 1, none⟩ = some (.int .i64 xh)) (hbx : ¬ S bx)
  (y0 : W.cell? ⟨by_, 0, none⟩ = some (.int .i64 yl)) (y1 : W.cell? ⟨by_, 1, none⟩ = some (.int .i64 yh)) (hby : ¬ S by_)
  (W₀ : World) (hW₀ : W₀.heap.size = n₀) (hT : TblAt W₀ x y v T) (hTB : Below n₀ W₀ W) (h0 : J [] W) :
  CallsIn Fence.wide n Tryz.prog 155 #[.func (.yield l) #[] #[], .pointer (some ⟨bt, 0, none⟩), .pointer (some ⟨bx, 0, none⟩), .pointer (some ⟨by_, 0, none⟩)] W fun e W' => (∃ v, e = .returned v) ∧
   ((∃ ys, ys = cornersL T (stopsL T.X xl xh) (stopsL T.Y yl yh) ∧ J ys W') ∨ (∃ pre, True ∧ Jx pre W')) := by
 have hX := tblB_X ht
 have hYY := tblB_Y ht
 have lX := axisB_len hX
 have lY := axisB_len hYY
 have HT := hI9 ht
 have hTK : ∀ w', KeepC S W w' → TblAt w' x y v T := fun w' hk => hT.keep (KeepC.trans (⟨by rw [hW₀]; exact hn₀, fun k c t f hk _ => (hTB.block k (by rw [← hW₀]; exact (Array.getElem?_eq_some_iff.1 hk).1)).trans hk⟩ : KeepC S W₀ W) hk) (fun k hs => by rw [hW₀]; exact hS k hs)
 clear hT hTB hW₀
 generalize hsx : stopsL T.X xl xh = sx at *
 generalize hsy : stopsL T.Y yl yh = sy at *
 have px : 0 < sx.length := by rw [← hsx]; exact stopsL_pos _ _ _
 have py : 0 < sy.length := by rw [← hsy]; exact stopsL_pos _ _ _
 have qx : sx.length ≤ 14 := by rw [← hsx]; exact stopsL_le _ _ _ (by omega)
 have qy : sy.length ≤ 14 := by rw [← hsy]; exact stopsL_le _ _ _ (by omega)
 have hon : ∀ i k, i < sx.length → k < sy.length → OnT T (nth sx i) (nth sy k) := by
  intro i k hi hk
  subst hsx; subst hsy
  have a := stopsL_in hvx hi
  have b := stopsL_in hvy hk
  simp only [liesB, Bool.and_eq_true, decide_eq_true_eq] at hlx hly
  exact ⟨by omega, by omega, by omega, by omega⟩
 have HSX := hI9 hsx
 have HSY := hI9 hsy
 clear hsx hsy ht hvx hvy hlx hly hX hYY
 have hHY := hI9 hY
 have hHJ := hI9 hJ
 have hHT := hI9 hTK
 have hHon := hI9 hon
 clear hY hJ hTK hon
 refine callsIn_of_wp Tryz.func155 rfl trivial ?_ rfl
 simp only [Tryz.ntmps155, List.size_toArray, List.length_cons, List.length_nil, Nat.reduceAdd, Nat.reduceSub, Array.replicate_succ, Array.replicate_zero, List.push_toArray, List.append_toArray, List.nil_append, List.cons_append]
 gi_wp2_with (refine ⟨trivial, ?_⟩; gi_at_call 156; refine (callsIn_wide.2 (stops_c _ T.X _ _ _ (hHT.out _ (KeepC.of_below (Below.refl _ _))).x (by omega))).mono ?_; rintro e w1 ⟨r1, rfl, hown1, hb1⟩; rw [HSX.out] at hown1; obtain ⟨g1, c1, rfl, hg1, hg1', hr1⟩ := row_form hown1 px)
 have k1 : KeepC S W w1 := KeepC.of_below hb1
 have j1 : J [] w1 := hHJ.out [] W w1 none h0 (grownBy_of_below hb1) (fun r e => by cases e)
 have hg1S : ¬ S g1 := fun h => by have := hSW g1 h; omega
 have HR1 := hI9 hr1
 clear hr1 h0 hown1
 gi_loopw [6, 14] (fun _ s wr => ∃ i : Nat, i ≤ sx.length ∧ s = .int .i64 i ∧ Hid (J (preL T sx sy i 0) wr) ∧ Hid (KeepC S w1 wr)) (fun _ s _ => sx.length - (intOf s).toNat)
 case atStart => exact ⟨0, by omega, rfl, by rw [preL_zero]; exact j1, ⟨Nat.le_refl _, fun _ _ _ _ h _ => h⟩⟩
 case round =>
  obtain ⟨i, hi, rfl, hJi, hKi⟩ := hrel
  have kW := k1.trans hKi.out
  by_cases hlt : i < sx.length
  ·have ci := hKi.out.cell (HR1.out i hlt) hg1S
   have a1 := kW.cell t1 hbt
   have b0 := kW.cell y0 hby
   have b1 := kW.cell y1 hby
   gi_wp2_with (refine ⟨trivial, ?_⟩; gi_at_call 156; refine (callsIn_wide.2 (stops_c _ T.Y _ _ _ (hHT.out _ kW).y (by omega))).mono ?_; rintro e w2 ⟨r2, rfl, hown2, hb2⟩; rw [HSY.out] at hown2; obtain ⟨g2, c2, rfl, hg2, hg2', hr2⟩ := row_form hown2 py)
   have HR2 := hI9 hr2
   have k2 : KeepC S wr w2 := KeepC.of_below hb2
   have j2 : J (preL T sx sy i 0) w2 := hHJ.out _ wr w2 none hJi.out (grownBy_of_below hb2) (fun r e => by cases e)
   have hg2S : ¬ S g2 := fun h => by have := hSW g2 h; have := kW.1; omega
   have hw1 := kW.1
   clear hr2 hown2 ci a1 b0 b1
   obtain ⟨wo, rfl⟩ : ∃ wo : World, wo = wr := ⟨_, rfl⟩
   gi_loopw [8, 23, 30, 33, 34, 35, 36] (fun _ s _ _ _ _ _ wr => ∃ k : Nat, k ≤ sy.length ∧ s = .int .i64 k ∧ Hid (J (preL T sx sy i k) wr) ∧ Hid (KeepC S w2 wr)) (fun _ s _ _ _ _ _ _ => sy.length - (intOf s).toNat)
   case atStart => exact ⟨0, by omega, rfl, j2, ⟨Nat.le_refl _, fun _ _ _ _ h _ => h⟩⟩
   case round =>
    obtain ⟨k, hk, rfl, hJk, hKk⟩ := hrel
    have kW2 := (kW.trans k2).trans hKk.out
    by_cases hlt2 : k < sy.length
    ·have ck := hKk.out.cell (HR2.out k hlt2) hg2S
     have a0 := kW2.cell t0 hbt
     have a1 := kW2.cell t1 hbt
     have a2 := kW2.cell t2 hbt
     have hP := hHon.out i k hlt hlt2
     gi_wp2_with (refine ⟨trivial, ?_⟩; gi_at_call 157; refine (callsIn_wide.2 (at_c _ _ _ T _ _ _ (hHT.out _ kW2) HT.out hP.1 hP.2.1 hP.2.2.1 hP.2.2.2)).mono ?_; rintro e w3 ⟨rfl, hb3⟩; have j3 : J (preL T sx sy i k) w3 := hHJ.out _ _ w3 none hJk.out (grownBy_of_below hb3) (fun r e => by cases e); have k3 : KeepC S wr w3 := KeepC.of_below hb3; obtain ⟨fn, tmps, assign, body, hy, hR⟩ := hHY.out _ (mkPt T (nth sx i) (nth sy k)) w3 j3 (preL_lt T sx sy i k hlt hlt2); have mx := mkPt_x T (nth sx i) (nth sy k); have mn := mkPt_n HT.out hP; simp only [encPt, mx.1, mx.2, mn.1, mn.2, numP, denP] at hy; clear mx mn)
     refine hR.mono ?_
     rintro e W3 (⟨rfl, hJ3, hk3⟩ | ⟨rfl, hJx3⟩)
     ·have hpk := preL_k T sx sy i k hlt2
      have HPK := hI9 hpk
      clear hpk hy
      gi_wp2
      go_roundw
      case rel => exact ⟨k + 1, by omega, by go_num, by rw [HPK.out]; exact hJ3, (hKk.out.trans k3).trans hk3⟩
      case measure => simp [intOf]; omega
     ·clear hy
      gi_wp2
      refine bodyPost_ret (results_none rfl _ _ _) rfl ?_
      exact ⟨⟨_, rfl⟩, .inr ⟨_, trivial, hJx3⟩⟩
    ·obtain rfl : k = sy.length := by omega
     have hpi := preL_i T sx sy i hlt
     have HPI := hI9 hpi
     clear hpi
     gi_wp2
     go_roundw
     case rel => exact ⟨i + 1, by omega, by go_num, by rw [HPI.out]; exact hJk.out, (hKi.out.trans k2).trans hKk.out⟩
     case measure => simp [intOf]; omega
  ·obtain rfl : i = sx.length := by omega
   gi_wp2
   go_end0
   exact ⟨⟨_, rfl⟩, .inl ⟨_, rfl, by rw [← preL_end]; exact hJi.out⟩⟩
end Go.Proofs.YtlambeiafdpkgaaGreat

namespace Go.Proofs.YtlambeiafdpkgaaGreat
open Go Go.RowKit Go.Proofs
section
variable {P : Program} {ops : Array Oper}
theorem any_of_specsH (G : Nat → World → World → Prop) (J : World → Prop) (I : Nat → World → Prop) (hGs : ∀ i a b, G i a b → a.heap.size ≤ b.heap.size) (hJ : ∀ i a b, G i a b → J a → J b) (hI : ∀ k j a b, k ≠ j → k ∉ depsOf ops j → G j a b → I k a → I k b) {Q : Exit → Act → World → Prop} {R : Nat → Value → World → Prop} {fresh : Nat → Bool} {n : Nat} {a : Act} {w : World} {tail : List Oper}
  (hB : specB ops n = true) (hR : ∀ k j v a b, k ≠ j → G j a b → R k v a → R k v b)
  (hop : ∀ i oi, i < n → ops[i]? = some oi → ∀ (u : Nat → Value) (w1 : World), J w1 → I i w1 → (∀ k ∈ depsOf ops i, k < n → R k (u k) w1) → wpList P ops (EndOpG G Q R fresh ops i (putAll ops a u n) w1) [oi] (putAll ops a u n) w1)
  (htl : ∀ j, tail[j]? = ops[n + j]?) (htn : tail.length = ops.size - n)
  (htail : ∀ (u : Nat → Value) (w1 : World), J w1 → (∀ k, k < n → R k (u k) w1) → (∀ i j, i < n → j < n → i ≠ j → fresh i = true → fresh j = true → u i ≠ u j) → wpList P ops Q tail (putAll ops a u n) w1) :
  ∀ (m : Nat) (listed : Array Bool) (u : Nat → Value) (w1 : World), HeadInv .any ops n listed → ((List.range n).filter fun i => !listed.getD i false).length = m →
   SpecInvG I ops R fresh n listed u w1 → J w1 → wpAny P .any ops Q (m + (ops.size - n)) listed (putAll ops a u n) w1 := by
 simp only [specB, Bool.and_eq_true, decide_eq_true_eq] at hB
 obtain ⟨⟨⟨⟨⟨hn, hdist⟩, hforw⟩, hs⟩, hc⟩, hseq⟩ := hB
 intro m
 induction m with
 | zero =>
  intro listed u w1 inv hm sinv hb
  have all : ∀ i, i < n → listed.getD i false = true := by
   intro i hi
   have h0 := List.eq_nil_of_length_eq_zero hm
   rw [List.filter_eq_nil_iff] at h0
   have := h0 i (List.mem_range.2 hi)
   simpa using this
  have e := headDone_eq inv.size (by omega) all inv.tail
  subst e
  have := wpAny_of_seq (md := .any) (Q' := Q) tail n (headDone ops.size n) (putAll ops a u n) w1 htl (by rw [htn]; exact hseq)
   (htail u w1 hb (fun k hk => sinv.r k hk (all k hk)) (fun i j hi hj hij => sinv.d i j hi hj hij (all i hi) (all j hj)))
  rw [htn] at this
  rw [Nat.zero_add]
  exact this
 | succ m ih =>
  intro listed u w1 inv hm sinv hb
  obtain ⟨i0, hi0⟩ : ∃ i0, i0 ∈ (List.range n).filter fun i => !listed.getD i false := by
   cases hl : (List.range n).filter fun i => !listed.getD i false with
   | nil => rw [hl] at hm; simp at hm
   | cons x xs => exact ⟨x, by simp⟩
  obtain ⟨hi0n, hi0l⟩ := List.mem_filter.1 hi0
  have hi0n := List.mem_range.1 hi0n
  have hun : listed.getD i0 true = false := getD_in (by rw [inv.size]; omega) (by simpa using hi0l)
  have key : ∀ i ∈ Region.ready .any ops listed, i < n := fun i hi => Nat.lt_of_not_le fun h => tail_waits hs hc hn inv _ i0 rfl hi0n hun i h hi
  rw [show m + 1 + (ops.size - n) = (m + (ops.size - n)) + 1 by omega]
  refine ⟨fun h0 => ?_, fun i hi => ?_⟩
  ·exfalso
   have low : ∀ i, i < n → listed.getD i false = false → False := by
    intro i
    induction i using Nat.strongRecOn with
    | _ i ih =>
     intro hin hl
     have hoi : ops[i]? = some ops[i] := Array.getElem?_eq_getElem (by omega)
     by_cases hall : ∀ e ∈ (ops[i]'(by omega)).after, Region.binds .any e = true → listed.getD e.on false = true
     ·have : i ∈ Region.ready .any ops listed := mem_ready.2 ⟨getD_in (by rw [inv.size]; omega) hl, ops[i], hoi, hall⟩
      rw [h0] at this; cases this
     ·have hex : ∃ e ∈ (ops[i]'(by omega)).after, Region.binds .any e = true ∧ listed.getD e.on false = false := by
       refine Classical.byContradiction fun hne => hall fun e he hbe => ?_
       cases hx : listed.getD e.on false with
       | true => rfl
       | false => exact absurd ⟨e, he, hbe, hx⟩ hne
      obtain ⟨e, he, hbe, hx⟩ := hex
      have hlt := forwB_lt hforw hin hoi (List.mem_map.2 ⟨e, List.mem_filter.2 ⟨by simpa using he, hbe⟩, rfl⟩)
      exact ih e.on hlt (by omega) hx
   exact low i0 hi0n (by simpa using hi0l)
  ·have hin := key i hi
   obtain ⟨hil, oi, hoi, hall⟩ := mem_ready.1 hi
   refine wpOp_of_endG hoi (hop i oi hin hoi u w1 hb (sinv.o i hin (getD_both hil)) fun k hk hkn => ?_) fun v w' hb' hv hf => ?_
   ·have : ∃ e ∈ oi.after.toList, Region.binds .any e = true ∧ e.on = k := by
     unfold depsOf at hk; rw [hoi] at hk
     simp only [List.mem_map, List.mem_filter] at hk
     obtain ⟨e, ⟨he, hbe⟩, rfl⟩ := hk
     exact ⟨e, he, hbe, rfl⟩
    obtain ⟨e, he, hbe, rfl⟩ := this
    exact sinv.r _ hkn (hall e (by simpa using he) hbe)
   ·rw [← putAll_upd n hin hdist]
    have hl' : ∀ k, k ≠ i → (listed.setIfInBounds i true).getD k false = listed.getD k false := fun k hk => getD_set_ne false (Ne.symm hk)
    refine ih (listed.setIfInBounds i true) (upd u i v) w' (inv.set hi hin) ?_ ⟨?_, ?_, ?_, ?_⟩ (hJ i _ _ hb' hb)
    ·have := cnt_set (n := n) (p := fun k => !listed.getD k false) (q := fun k => !(listed.setIfInBounds i true).getD k false) hin (by simpa using getD_both hil) (by rw [getD_set_self (by rw [inv.size]; omega)]; rfl) (fun k hk => by rw [hl' k hk])
     omega
    ·intro k hk hkl
     by_cases e : k = i
     ·subst e; rw [getD_set_self (by rw [inv.size]; omega)] at hkl; cases hkl
     ·rw [hl' k e] at hkl; exact hI k i _ _ e (fun hc => by
       have : ∃ e ∈ oi.after.toList, Region.binds .any e = true ∧ e.on = k := by
        unfold depsOf at hc; rw [hoi] at hc
        simp only [List.mem_map, List.mem_filter] at hc
        obtain ⟨e2, ⟨he, hbe⟩, hk2⟩ := hc
        exact ⟨e2, he, hbe, hk2⟩
       obtain ⟨e3, he', hbe', hk3⟩ := this
       have h3 := hall e3 (by simpa using he') hbe'
       rw [hk3] at h3
       rw [hkl] at h3; cases h3) hb' (sinv.o k hk hkl)
    ·intro k hk hkl
     by_cases e : k = i
     ·subst e; rw [upd_same]; exact hv
     ·rw [upd_ne e]; rw [hl' k e] at hkl; exact hR _ i _ _ _ e hb' (sinv.r k hk hkl)
    ·intro k hk hkl hfk
     by_cases e : k = i
     ·subst e; rw [upd_same]; obtain ⟨g, g1, g2, g3⟩ := hf hfk; exact ⟨g, g1, g3⟩
     ·rw [upd_ne e]; rw [hl' k e] at hkl; obtain ⟨g, g1, g2⟩ := sinv.f k hk hkl hfk; exact ⟨g, g1, Nat.lt_of_lt_of_le g2 (hGs i _ _ hb')⟩
    ·intro j k hj hk hjk hjl hkl hfj hfk
     by_cases e : j = i
     ·subst e
      have e2 : k ≠ j := fun h => hjk h.symm
      rw [upd_same, upd_ne e2]; rw [hl' k e2] at hkl
      obtain ⟨g, g1, g2, g3⟩ := hf hfj
      obtain ⟨g', g1', g2'⟩ := sinv.f k hk hkl hfk
      rw [g1, g1']; intro h; injection h with h; injection h with h; injection h with h; omega
     ·by_cases e2 : k = i
      ·subst e2
       rw [upd_same, upd_ne e]; rw [hl' j e] at hjl
       obtain ⟨g, g1, g2, g3⟩ := hf hfk
       obtain ⟨g', g1', g2'⟩ := sinv.f j hj hjl hfj
       rw [g1, g1']; intro h; injection h with h; injection h with h; injection h with h; omega
      ·rw [upd_ne e, upd_ne e2]; rw [hl' j e] at hjl; rw [hl' k e2] at hkl
       exact sinv.d j k hj hk hjk hjl hkl hfj hfk
theorem wp_region_specsH {id : Nat} {Q : Exit → Act → World → Prop} {a : Act} {w : World} {l : List Oper} (G : Nat → World → World → Prop) (J : World → Prop) (I : Nat → World → Prop) (hGs : ∀ i a b, G i a b → a.heap.size ≤ b.heap.size) (hJ : ∀ i a b, G i a b → J a → J b) (hI : ∀ k j a b, k ≠ j → k ∉ depsOf l.toArray j → G j a b → I k a → I k b) (hJ0 : J w.drew) (hI0 : ∀ i, I i w.drew) (n : Nat) (R : Nat → Value → World → Prop) (fresh : Nat → Bool)
  (hm : P.follows .mixedOrders = true) (hB : specB l.toArray n = true) (hR : ∀ k j v a b, k ≠ j → G j a b → R k v a → R k v b)
  (hop : ∀ i oi, i < n → l.toArray[i]? = some oi → ∀ (u : Nat → Value) (w1 : World), J w1 → I i w1 → (∀ k ∈ depsOf l.toArray i, k < n → R k (u k) w1) → wpList P l.toArray (EndOpG G Q R fresh l.toArray i (putAll l.toArray a u n) w1) [oi] (putAll l.toArray a u n) w1)
  (htail : ∀ (u : Nat → Value) (w1 : World), J w1 → (∀ k, k < n → R k (u k) w1) → (∀ i j, i < n → j < n → i ≠ j → fresh i = true → fresh j = true → u i ≠ u j) → wpList P l.toArray Q (l.drop n) (putAll l.toArray a u n) w1) :
  (Code.region id l.toArray true).wp P Q a w := by
 have hn : n < l.toArray.size := by simp only [specB, Bool.and_eq_true, decide_eq_true_eq] at hB; exact hB.1.1.1.1.1
 have hn' : n < l.length := by simpa using hn
 refine wp_region_any hm ?_
 have inv0 : HeadInv .any l.toArray n (Array.replicate l.toArray.size false) :=
  ⟨by simp, fun j oj _ hl => (by rw [getD_replicate_false] at hl; cases hl), fun t _ ht => getD_in (by simpa using ht) (getD_replicate_false _ _)⟩
 have hcnt : ((List.range n).filter fun i => !(Array.replicate l.toArray.size false).getD i false).length = n := by
  rw [List.filter_eq_self.2 (fun i _ => by rw [getD_replicate_false]; rfl), List.length_range]
 have := any_of_specsH G J I hGs hJ hI (P := P) (Q := Q) (R := R) (fresh := fresh) (n := n) (a := a) (w := w) (tail := l.drop n) hB hR hop (fun j => by simp [List.getElem?_drop]) (by simp) htail n
  (Array.replicate l.toArray.size false) (slotOf l.toArray a) w.drew inv0 hcnt ⟨fun k _ _ => hI0 k, fun k _ hl => (by rw [getD_replicate_false] at hl; cases hl), fun k _ hl => (by rw [getD_replicate_false] at hl; cases hl), fun j k _ _ _ hl => (by rw [getD_replicate_false] at hl; cases hl)⟩ hJ0
 rw [putAll_slot, show n + (l.toArray.size - n) = l.toArray.size by omega] at this
 exact this
theorem wp_region_specH {id : Nat} {Q : Exit → Act → World → Prop} {a : Act} {w : World} {l : List Oper} (G : Nat → World → World → Prop) (J : World → Prop) (I : Nat → World → Prop) (hGs : ∀ i a b, G i a b → a.heap.size ≤ b.heap.size) (hJ : ∀ i a b, G i a b → J a → J b) (hI : ∀ k j a b, k ≠ j → k ∉ depsOf l.toArray j → G j a b → I k a → I k b) (hJ0 : J w.drew) (hI0 : ∀ i, I i w.drew) (n : Nat) (R : Nat → Value → World → Prop) (fresh : Nat → Bool)
  (hm : P.follows .mixedOrders = true) (hB : specB l.toArray n = true) (hR : ∀ k j v a b, k ≠ j → G j a b → R k v a → R k v b)
  (hop : allOps (fun i oi => ∀ (u : Nat → Value) (A : Act) (w1 : World), A = putAll l.toArray a u n → J w1 → I i w1 → (∀ k, k < n → (depsOf l.toArray i).contains k = true → R k (u k) w1) → wpList P l.toArray (EndOpG G Q R fresh l.toArray i A w1) [oi] A w1) 0 (l.take n))
  (htail : ∀ (u : Nat → Value) (A : Act) (w1 : World), A = putAll l.toArray a u n → J w1 → (∀ k, k < n → R k (u k) w1) → (∀ i j, i < n → j < n → i ≠ j → fresh i = true → fresh j = true → u i ≠ u j) → wpList P l.toArray Q (l.drop n) A w1) :
  (Code.region id l.toArray true).wp P Q a w :=
 wp_region_specsH G J I hGs hJ hI hJ0 hI0 n R fresh hm hB hR (fun i oi hi ho u w1 hb hi0 hd => by
  have := allOps_get _ _ hop i oi (by simpa [List.getElem?_take, hi] using ho) u (putAll l.toArray a u n) w1 rfl hb (by rw [Nat.zero_add]; exact hi0) (fun k hk hc => hd k (by simpa using hc) hk)
  rw [Nat.zero_add] at this
  exact this) (fun u w1 => htail u _ w1 rfl)
end
end Go.Proofs.YtlambeiafdpkgaaGreat
