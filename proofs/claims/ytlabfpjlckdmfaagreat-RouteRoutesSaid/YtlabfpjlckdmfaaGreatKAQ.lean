/- Texts joined: KAQ. -/
import Derived.Test.YtlabfpjlckdmfaaGreatKAP
set_option linter.all false
namespace Go.Proofs.YtlabfpjlckdmfaaGreat
open Go Go.RowKit Go.Proofs
set_option maxRecDepth 100000
set_option maxHeartbeats 8000000
theorem r5CheckNet_c (M : MetD) (vF vS : Value) (A : Option Addr) (n c : Nat) (S : Tab) (w : World) (hM : MetAt w vF vS M) (hc1 : n ≤ c) (hc2 : c ≤ 9223372036854775807) (hL : RecsAt w A n 3 (nV S)) :
  Calls Tryz.prog 6 #[.agg #[.int .i64 M.places, .int .i64 M.any.a0, .int .i64 M.any.a1, .int .i64 M.any.a2, .int .i64 M.any.a3, .int .i64 M.any.a4, .int .i64 M.any.a5, .bool M.any.i, .bool M.any.s, .int .i64 M.mw, .int .i64 M.ms, .int .i64 M.mc, vF, vS], .slice A n c] w fun e w' => e = .returned (.int .i64 (netE M S n)) ∧ RowKit.Below w.heap.size w w' := by
 have HM := hI9 hM
 have HL := hI9 hL
 clear hM hL
 have hck := fun w1 h => rw_Check_c M vF vS w1 h
 obtain ⟨NE, hNE⟩ : ∃ q, q = netE M S n := ⟨_, rfl⟩
 rw [← hNE]
 unfold netE at hNE
 cases hb : M.bad
 case true =>
  have he : M.err = 40 := by unfold MetD.err; rw [hb]; rfl
  rw [he] at hck hNE
  rw [if_neg (by decide)] at hNE
  have HCK := hI9 hck
  have HNE := hI9 hNE
  clear hck he hb hNE
  go_enter Tryz.func6, Tryz.ntmps6
  go_wp2_with (fail)
  have _x := frm1 w #[.int .i64 M.places, .int .i64 M.any.a0, .int .i64 M.any.a1, .int .i64 M.any.a2, .int .i64 M.any.a3, .int .i64 M.any.a4, .int .i64 M.any.a5, .bool M.any.i, .bool M.any.s, .int .i64 M.mw, .int .i64 M.ms, .int .i64 M.mc, vF, vS] 29
  have HX := hI9 _x.1
  have HB := hI9 _x.2.1
  have zW := _x.2.2
  clear _x
  generalize World.alloc w _ = W at *
  have tok : True := trivial
  go_wp2_with (first | (have _t := tok; refine wpl_row rfl 29 _ rfl _ rfl _ 14 HX.out Tryz.rowMet rfl ?_; simp only [Act.put]; clear tok) | (go_at_call 19; (with_reducible refine (HCK.out _ (HM.out.below HB.out)).mono ?_); rintro e w1 ⟨rfl, hb1⟩; have nHX := hI9 (HX.out.below hb1); have nHB := hI9 (bthen HB.out hb1); have zz1 := hb1.size; clear HX HB hb1; have HX := nHX; have HB := nHB; clear nHX nHB))
  go_ret
  exact ⟨by rw [HNE.out]; rfl, HB.out⟩
 have he : M.err = 0 := by unfold MetD.err; rw [hb]; rfl
 rw [he] at hck hNE
 rw [if_pos rfl] at hNE
 have HCK := hI9 hck
 have HPL := hI9 (MetD.ok_of hb).places
 have HN0 := hI9 hNE
 clear hck he hb hNE
 by_cases h20 : 20 < n
 ·have z20 : (20 : Int) < (n : Int) := by omega
  have HNE := hI9 (show NE = 50 from HN0.out.trans (if_pos (by unfold legsBad; rw [decide_eq_true h20]; rfl)))
  clear h20
  go_enter Tryz.func6, Tryz.ntmps6
  go_wp2_with (fail)
  have _x := frm1 w #[.int .i64 M.places, .int .i64 M.any.a0, .int .i64 M.any.a1, .int .i64 M.any.a2, .int .i64 M.any.a3, .int .i64 M.any.a4, .int .i64 M.any.a5, .bool M.any.i, .bool M.any.s, .int .i64 M.mw, .int .i64 M.ms, .int .i64 M.mc, vF, vS] 29
  have HX := hI9 _x.1
  have HB := hI9 _x.2.1
  have zW := _x.2.2
  clear _x
  generalize World.alloc w _ = W at *
  have tok : True := trivial
  go_wp2_with (first | (have _t := tok; refine wpl_row rfl 29 _ rfl _ rfl _ 14 HX.out Tryz.rowMet rfl ?_; simp only [Act.put]; clear tok) | (go_at_call 19; (with_reducible refine (HCK.out _ (HM.out.below HB.out)).mono ?_); rintro e w1 ⟨rfl, hb1⟩; have nHX := hI9 (HX.out.below hb1); have nHB := hI9 (bthen HB.out hb1); have zz1 := hb1.size; clear HX HB hb1; have HX := nHX; have HB := nHB; clear nHX nHB))
  go_ret
  exact ⟨by rw [HNE.out]; rfl, HB.out⟩
 have z20 : ¬ (20 : Int) < (n : Int) := by omega
 have H20 := hI9 h20
 clear h20
 go_enter Tryz.func6, Tryz.ntmps6
 go_wp2_with (fail)
 have _x := frm1 w #[.int .i64 M.places, .int .i64 M.any.a0, .int .i64 M.any.a1, .int .i64 M.any.a2, .int .i64 M.any.a3, .int .i64 M.any.a4, .int .i64 M.any.a5, .bool M.any.i, .bool M.any.s, .int .i64 M.mw, .int .i64 M.ms, .int .i64 M.mc, vF, vS] 29
 have HX := hI9 _x.1
 have HB := hI9 _x.2.1
 have zW := _x.2.2
 clear _x
 generalize World.alloc w _ = W at *
 have tok : True := trivial
 go_wp2_with (first | (have _t := tok; refine wpl_row rfl 29 _ rfl _ rfl _ 14 HX.out Tryz.rowMet rfl ?_; simp only [Act.put]; clear tok) | (go_at_call 19; (with_reducible refine (HCK.out _ (HM.out.below HB.out)).mono ?_); rintro e w1 ⟨rfl, hb1⟩; have nHX := hI9 (HX.out.below hb1); have nHB := hI9 (bthen HB.out hb1); have zz1 := hb1.size; clear HX HB hb1; have HX := nHX; have HB := nHB; clear nHX nHB))
 go_wp2_with (fail)
 go_loopg [6] n (fun gy iv wr => ∃ k : Nat, iv = .int .i64 k ∧ k ≤ n ∧ n - k ≤ gy ∧ Hid (RowKit.Below w.heap.size w wr) ∧ Hid (Blk wr w.heap.size 29 #[.int .i64 M.places, .int .i64 M.any.a0, .int .i64 M.any.a1, .int .i64 M.any.a2, .int .i64 M.any.a3, .int .i64 M.any.a4, .int .i64 M.any.a5, .bool M.any.i, .bool M.any.s, .int .i64 M.mw, .int .i64 M.ms, .int .i64 M.mc, vF, vS]) ∧ Hid (∀ j, j < k → lgBad M.places (S j 0) (S j 1) (S j 2) = false))
 case atStart => exact ⟨0, rfl, Nat.zero_le _, Nat.le_refl _, HB, HX, hI9 (fun j h => by omega)⟩
 case round =>
  clear HB HX
  obtain ⟨k, rfl, hk, hgy, HB, HX, HA⟩ := hrel
  by_cases hlt : k < n
  case neg =>
   obtain rfl : n = k := by omega
   have HNE := hI9 (show NE = 0 from HN0.out.trans (if_neg (by
    unfold legsBad
    rw [decide_eq_false H20.out, Bool.false_or, Bool.not_eq_true]
    exact List.any_eq_false.2 (fun j hj => by rw [HA.out j (List.mem_range.1 hj)]; decide))))
   go_wp2_with (fail)
   go_ret
   exact ⟨by rw [HNE.out]; rfl, HB.out⟩
  have hltz : (k : Int) < (n : Int) := by omega
  obtain ⟨bs, os, rfl, hbs, hcs⟩ := HL.out (by omega)
  have c0 : wr.cell? ⟨bs, os + k * 3, none⟩ = some (.int .i64 (S k 0)) := (HB.out.cell (p := ⟨bs, os + k * 3 + 0, none⟩) hbs).trans (hcs k hlt 0 (by omega))
  have c1 : wr.cell? ⟨bs, os + k * 3 + 1, none⟩ = some (.int .i64 (S k 1)) := (HB.out.cell (p := ⟨bs, os + k * 3 + 1, none⟩) hbs).trans (hcs k hlt 1 (by omega))
  have c2 : wr.cell? ⟨bs, os + k * 3 + 2, none⟩ = some (.int .i64 (S k 2)) := (HB.out.cell (p := ⟨bs, os + k * 3 + 2, none⟩) hbs).trans (hcs k hlt 2 (by omega))
  clear hcs
  obtain ⟨x0, e0⟩ : ∃ x, x = S k 0 := ⟨_, rfl⟩
  obtain ⟨x1, e1⟩ : ∃ x, x = S k 1 := ⟨_, rfl⟩
  obtain ⟨x2, e2⟩ : ∃ x, x = S k 2 := ⟨_, rfl⟩
  rw [← e0] at c0
  rw [← e1] at c1
  rw [← e2] at c2
  have HQ := hI9 (And.intro e0.symm (And.intro e1.symm e2.symm))
  clear e0 e1 e2
  have hp0 := (HX.out.alloc (.cells #[.int .i64 x0, .int .i64 x1, .int .i64 x2] 45)).cell 0
  simp only [List.getElem?_toArray, List.getElem?_cons_zero] at hp0
  have hpl := HPL.out
  cases q0 : inB x0 0 (M.places - 1)
  case false =>
   have HBd := hI9 (show legsBad M S n = true by unfold legsBad; rw [List.any_eq_true.2 ⟨k, List.mem_range.2 hlt, (by rw [HQ.out.1, HQ.out.2.1, HQ.out.2.2]; simp [lgBad, q0])⟩, Bool.or_true])
   have HNE := hI9 (show NE = 50 by rw [HN0.out, HBd.out]; rfl)
   go_wp2_with (first | (go_at_call 20; (with_reducible refine (r5within_c _ _ _ _).mono ?_); rintro e w1 ⟨rfl, rfl⟩))
   go_ret
   exact ⟨by rw [HNE.out]; rfl, bal HB.out _⟩
  cases q1 : inB x1 0 (M.places - 1)
  case false =>
   have HBd := hI9 (show legsBad M S n = true by unfold legsBad; rw [List.any_eq_true.2 ⟨k, List.mem_range.2 hlt, (by rw [HQ.out.1, HQ.out.2.1, HQ.out.2.2]; simp [lgBad, q0, q1])⟩, Bool.or_true])
   have HNE := hI9 (show NE = 50 by rw [HN0.out, HBd.out]; rfl)
   go_wp2_with (first | (go_at_call 20; (with_reducible refine (r5within_c _ _ _ _).mono ?_); rintro e w1 ⟨rfl, rfl⟩))
   go_ret
   exact ⟨by rw [HNE.out]; rfl, bal HB.out _⟩
  cases q2 : (x0 == x1)
  case true =>
   have q2d : decide (x0 = x1) = true := by simpa using q2
   have Q2 := hI9 q2d
   clear q2d
   have HBd := hI9 (show legsBad M S n = true by unfold legsBad; rw [List.any_eq_true.2 ⟨k, List.mem_range.2 hlt, (by rw [HQ.out.1, HQ.out.2.1, HQ.out.2.2]; simp [lgBad, q0, q1, Q2.out])⟩, Bool.or_true])
   have HNE := hI9 (show NE = 50 by rw [HN0.out, HBd.out]; rfl)
   go_wp2_with (first | (go_at_call 20; (with_reducible refine (r5within_c _ _ _ _).mono ?_); rintro e w1 ⟨rfl, rfl⟩))
   go_ret
   exact ⟨by rw [HNE.out]; rfl, bal HB.out _⟩
  have q2d : decide (x0 = x1) = false := by simpa using q2
  have Q2 := hI9 q2d
  clear q2d
  cases q3 : inB x2 1 200
  case false =>
   have HBd := hI9 (show legsBad M S n = true by unfold legsBad; rw [List.any_eq_true.2 ⟨k, List.mem_range.2 hlt, (by rw [HQ.out.1, HQ.out.2.1, HQ.out.2.2]; simp [lgBad, q0, q1, Q2.out, q3])⟩, Bool.or_true])
   have HNE := hI9 (show NE = 50 by rw [HN0.out, HBd.out]; rfl)
   go_wp2_with (first | (go_at_call 20; (with_reducible refine (r5within_c _ _ _ _).mono ?_); rintro e w1 ⟨rfl, rfl⟩))
   go_ret
   exact ⟨by rw [HNE.out]; rfl, bal HB.out _⟩
  have HG := hI9 (show lgBad M.places (S k 0) (S k 1) (S k 2) = false by rw [HQ.out.1, HQ.out.2.1, HQ.out.2.2]; simp [lgBad, q0, q1, Q2.out, q3])
  go_wp2_with (first | (go_at_call 20; (with_reducible refine (r5within_c _ _ _ _).mono ?_); rintro e w1 ⟨rfl, rfl⟩))
  go_roundg (n - (k + 1))
  case measure => omega
  case rel => exact ⟨k + 1, by first | rfl | go_num | (congr 1; omega), by omega, Nat.le_refl _, hI9 (bal HB.out _), hI9 (HX.out.alloc _), hI9 (fun j hj => by
   by_cases e : j = k
   ·subst e; exact HG.out
   ·exact HA.out j (by omega))⟩
end Go.Proofs.YtlabfpjlckdmfaaGreat

namespace Go.Proofs.YtlabfpjlckdmfaaGreat
open Go Go.RowKit Go.Proofs
set_option maxRecDepth 100000
set_option maxHeartbeats 8000000
def FliD.legB (F : FliD) (lt : Tab) : Bool := (List.range (F.m - 1)).all (fun j => decide (0 ≤ lt (F.R j).toNat (F.R (j + 1)).toNat))
theorem FliD.legB_iff {F : FliD} {lt : Tab} : F.legB lt = true ↔ ∀ j, j + 1 < F.m → 0 ≤ lt (F.R j).toNat (F.R (j + 1)).toNat := by
 unfold FliD.legB
 simp only [List.all_eq_true, List.mem_range, decide_eq_true_eq]
 exact ⟨fun h j hj => h j (by omega), fun h j hj => h j (by omega)⟩
def flR (gF : Nat) (l vs p1 p2 : Value) (j : Nat) (a b L : Int) : Nat → Value → World → Prop
 | 0, v, _ => v = l
 | 1, v, _ => v = .pointer (some ⟨gF, 0, none⟩)
 | 2, v, _ => v = vs
 | 3, v, _ => v = .int .i64 ((j + 1 : Nat) : Int)
 | 4, v, _ => v = .int .i64 (j : Int)
 | 5, v, _ => v = p1
 | 6, v, _ => v = .int .i64 a
 | 7, v, _ => v = .pointer (some ⟨gF, 0, none⟩)
 | 8, v, _ => v = vs
 | 9, v, _ => v = .int .i64 ((j + 1 : Nat) : Int)
 | 10, v, _ => v = p2
 | 11, v, _ => v = .int .i64 b
 | 12, v, _ => v = .int .i64 L
 | _, _, _ => True
theorem flR_below {gF : Nat} {l vs p1 p2 : Value} {j : Nat} {a b L : Int} (k : Nat) (v : Value) (w w' : World) (hb : Below w.heap.size w w') (h : flR gF l vs p1 p2 j a b L k v w) : flR gF l vs p1 p2 j a b L k v w' := by
 unfold flR at *
 split at h <;> first | exact h
structure FwK (F : FliD) (vR : Value) (lt : Tab) (i : Nat) (vA : Value) (w wr : World) : Prop where
 b : RowKit.Below w.heap.size w wr
 f : Blk wr w.heap.size 37 #[vR, .int .i64 F.dep, .int .i64 F.fuel, .int .i64 F.burn, .int .i64 F.res]
 o : wr.ownsRow w.heap.size 3 1 vA i ((List.range i).map fun j => .int .i64 (F.at_ lt j))
theorem FwK.below {F : FliD} {vR : Value} {lt : Tab} {i : Nat} {vA : Value} {w wr w2 : World} (h : FwK F vR lt i vA w wr) (hb : RowKit.Below wr.heap.size wr w2) : FwK F vR lt i vA w w2 :=
 ⟨bthen h.b hb, h.f.below hb, ownsRow_below h.o hb⟩
theorem FwK.step {F : FliD} {vR : Value} {lt : Tab} {i : Nat} {vA vB : Value} {w wr w1 w2 : World} (h : FwK F vR lt i vA w wr) (hb : RowKit.Below wr.heap.size wr w1) (ho : w2.ownsRow w.heap.size 3 1 vB (i + 1) ((List.range i).map (fun j => .int .i64 (F.at_ lt j)) ++ [.int .i64 (F.at_ lt i)]))
  (hg : w1.grownBy w2 vA.ownBlock) : FwK F vR lt (i + 1) vB w w2 := by
 have h1 := h.below hb
 have hvo : ∀ b, some b = vA.ownBlock → w.heap.size ≤ b := fun b q => (ownLt h1.o q).1
 refine ⟨h1.b.trans (belowGrew hg h1.b.size hvo), h1.f.grew hg (own_blk_ne h1.o h1.f (by decide)), ?_⟩
 rw [show (List.range (i + 1)).map (fun j => Value.int .i64 (F.at_ lt j)) = (List.range i).map (fun j => .int .i64 (F.at_ lt j)) ++ [.int .i64 (F.at_ lt i)] by rw [List.range_succ, List.map_append]; rfl]
 exact ho
theorem FwK.sl {F : FliD} {vR : Value} {lt : Tab} {vA : Value} {w wr : World} {i : Nat} (h : FwK F vR lt i vA w wr) (hi : i = F.m) : SlI wr vA F.m (F.at_ lt) := by
 subst hi
 have ho := h.o
 obtain ⟨A2, c2, e1, e2, e3, e4⟩ := RecsAt.of_owns (V := nL (F.at_ lt)) (by omega) (show wr.ownsRow w.heap.size 3 1 vA F.m ((List.range (F.m * 1)).map fun q => nL (F.at_ lt) (q / 1) (q % 1)) from by
  rw [show ((List.range (F.m * 1)).map fun q => nL (F.at_ lt) (q / 1) (q % 1)) = (List.range F.m).map fun j => Value.int .i64 (F.at_ lt j) by
   rw [Nat.mul_one]
   refine List.map_congr_left fun q _ => ?_
   show Value.int .i64 (F.at_ lt (q / 1)) = _
   rw [Nat.div_one]]
  exact ho)
 exact ⟨A2, c2, e1, e2, e3, e4⟩
theorem owns_one (w : World) (x : Value) (T : TypeId) : (w.alloc (.cells #[x] T)).ownsRow w.heap.size T 1 (.slice (some ⟨w.heap.size, 0, none⟩) 1 1) 1 [x] :=
 ⟨by simp, .inr ⟨w.heap.size, 1, #[x], rfl, Nat.le_refl _, Blk.new w T #[x], Nat.le_refl _, by decide, by simp, by simp⟩⟩
theorem r5flown_c (A : Option Addr) (n c : Nat) (S : Tab) (P : Nat) (F : FliD) (vR : Value) (w : World) (hc1 : n ≤ c) (hc2 : c ≤ 9223372036854775807) (hL : RecsAt w A n 3 (nV S)) (hR : SlI w vR F.m F.R) (hN : NetOk P S n) (hm : 1 ≤ F.m ∧ F.m ≤ 8) (hd : 0 ≤ F.dep ∧ F.dep ≤ 2000) (hP : ∀ j, j < F.m → 0 ≤ F.R j ∧ F.R j < P) :
  Calls Tryz.prog 54 #[.slice A n c, .agg #[vR, .int .i64 F.dep, .int .i64 F.fuel, .int .i64 F.burn, .int .i64 F.res]] w fun e w' => ∃ v, e = .returned (.tuple #[v, .bool (F.legB (lgT S n))]) ∧ RowKit.Below w.heap.size w w' ∧ (F.legB (lgT S n) = true → SlI w' v F.m (F.at_ (lgT S n))) := by
 have HL := hI9 hL
 have HNK := hI9 hN
 obtain ⟨AR, cR, rfl, r1, r2, hR⟩ := hR
 obtain ⟨bR, oR, rfl, hbR, hcR⟩ := hR (by omega)
 have HCR := hI9 hcR
 have hl : LegIn P (lgT S n) := fun i j => by have := lgT_in hN n (Nat.le_refl _) i j; omega
 have HLI := hI9 hl
 clear hL hN hR hcR hl
 obtain ⟨Q, hQ⟩ : ∃ q, q = F.legB (lgT S n) := ⟨_, rfl⟩
 rw [← hQ]
 have HQ := hI9 hQ
 clear hQ
 go_enter Tryz.func54, Tryz.ntmps54
 go_wp2_with (fail)
 have K0 := hI9 (show FwK F (.slice (some ⟨bR, oR, none⟩) F.m cR) (lgT S n) 1 (.slice (some ⟨w.heap.size + 1, 0, none⟩) 1 1) w ((w.alloc (.cells #[.slice (some ⟨bR, oR, none⟩) F.m cR, .int .i64 F.dep, .int .i64 F.fuel, .int .i64 F.burn, .int .i64 F.res] 37)).alloc (.cells #[.int .i64 F.dep] 3)) from ⟨bal (bal (RowKit.Below.refl _ _) _) _, (Blk.new _ _ _).alloc _, by
  have := owns_one (w.alloc (.cells #[.slice (some ⟨bR, oR, none⟩) F.m cR, .int .i64 F.dep, .int .i64 F.fuel, .int .i64 F.burn, .int .i64 F.res] 37)) (.int .i64 F.dep) 3
  rw [World.size_alloc] at this
  exact ownsRow_base this (by omega)⟩)
 generalize (w.alloc (.cells #[.slice (some ⟨bR, oR, none⟩) F.m cR, .int .i64 F.dep, .int .i64 F.fuel, .int .i64 F.burn, .int .i64 F.res] 37)).alloc (.cells #[.int .i64 F.dep] 3) = wX at *
 generalize w.heap.size + 1 = gX at K0 ⊢
 go_loopg [6, 7] F.m (fun gy v iv wr => ∃ j : Nat, iv = .int .i64 ((j + 1 : Nat) : Int) ∧ j + 1 ≤ F.m ∧ F.m - (j + 1) ≤ gy ∧ Hid (F.flown P (lgT S n) (j + 1)) ∧ Hid (FwK F (.slice (some ⟨bR, oR, none⟩) F.m cR) (lgT S n) (j + 1) v w wr))
 case atStart => exact ⟨0, rfl, by omega, by omega, hI9 ⟨fun j hj => hP j (by omega), fun j hj => by omega⟩, K0⟩
 case round =>
  clear K0
  obtain ⟨j, rfl, hj, hgy, HFL, K0⟩ := hrel
  have f0 := K0.out.f.cell 0
  simp only [gtA, gtS, gtZ] at f0
  obtain ⟨kv, cv, rfl⟩ := owns_form K0.out.o
  by_cases hlt : j + 1 < F.m
  case neg =>
   have hjm : F.m = j + 1 := by omega
   have hnl : ¬ ((j + 1 : Nat) : Int) < (F.m : Int) := by omega
   have HSL := hI9 (show SlI wr (.slice (some ⟨kv, 0, none⟩) (j + 1) cv) F.m (F.at_ (lgT S n)) from FwK.sl K0.out hjm.symm)
   have HQT := hI9 (show Q = true from HQ.out.trans (FliD.legB_iff.2 fun k hk => HFL.out.2 k (by omega)))
   have HB := hI9 K0.out.b
   clear K0 hjm
   go_wp2_with (fail)
   go_ret2
   exact ⟨.slice (some ⟨kv, 0, none⟩) (j + 1) cv, by rw [HQT.out]; rfl, HB.out, fun _ => HSL.out⟩
  have hltz : ((j + 1 : Nat) : Int) < (F.m : Int) := by omega
  have hltz2 : (j : Int) + 1 < (F.m : Int) := by omega
  obtain ⟨a, ha⟩ : ∃ a : Nat, F.R j = a := Int.eq_ofNat_of_zero_le (hP j (by omega)).1
  obtain ⟨b, hb⟩ : ∃ b : Nat, F.R (j + 1) = b := Int.eq_ofNat_of_zero_le (hP (j + 1) hlt).1
  have HLE := hI9 (show lgT S n (F.R j).toNat (F.R (j + 1)).toNat = lgT S n a b by rw [ha, hb]; rfl)
  have HLG := hI9 (show legK S a b n = lgT S n a b from (lgT_leg HNK.out a b n (Nat.le_refl _)).symm)
  have HAB := hI9 (And.intro ha hb)
  have hL := HLI.out a b
  have hD := FliD.at_in HLI.out hd j HFL.out
  have HA1 := hI9 (show F.at_ (lgT S n) (j + 1) = F.at_ (lgT S n) j + lgT S n a b from by
   show F.at_ (lgT S n) j + lgT S n (F.R j).toNat (F.R (j + 1)).toNat = _
   rw [ha, hb]; rfl)
  have HC1 := hI9 (fun (w1 : World) (h : RowKit.Below w.heap.size w w1) => show w1.cell? ⟨bR, oR + j, none⟩ = some (.int .i64 (a : Int)) from by
   rw [← ha]
   exact (h.cell (p := ⟨bR, oR + j, none⟩) hbR).trans (by have := HCR.out j (by omega) 0 (by omega); rw [Nat.mul_one, Nat.add_zero] at this; exact this))
  have HC2 := hI9 (fun (w1 : World) (h : RowKit.Below w.heap.size w w1) => show w1.cell? ⟨bR, oR + (j + 1), none⟩ = some (.int .i64 (b : Int)) from by
   rw [← hb]
   exact (h.cell (p := ⟨bR, oR + (j + 1), none⟩) hbR).trans (by have := HCR.out (j + 1) (by omega) 0 (by omega); rw [Nat.mul_one, Nat.add_zero] at this; exact this))
  clear ha hb
  generalize hLv : lgT S n a b = L at *
  clear hLv
  go_wp2_with (fail)
  refine wp_region_spec 13 (flR w.heap.size (.slice A n c) (.slice (some ⟨bR, oR, none⟩) F.m cR) (.pointer (some ⟨bR, oR + j, none⟩)) (.pointer (some ⟨bR, oR + (j + 1), none⟩)) j (a : Int) (b : Int) L) (fun i => false) (by kernel_rfl) (by kernel_rfl) flR_below ?hop1 ?htail1
  case hop1 =>
   simp only [List.take_succ_cons, List.take_zero, allOps]
   refine ⟨?_, ?_, ?_, ?_, ?_, ?_, ?_, ?_, ?_, ?_, ?_, ?_, ?_, trivial⟩
   all_goals intro u A w1 hA hb hd
   all_goals simp only [putAll, dstOf, gtA, gtS, gtZ, Option.bind_some, Option.bind, Act.put, List.setIfInBounds_toArray, List.set_cons_succ, List.set_cons_zero] at hA; subst hA
   all_goals have HB1 := hI9 hb
   ·clear hb hd
    go_wp2
    exact ⟨_, rfl, Below.refl _ _, rfl, fun h => absurd h (by decide)⟩
   ·clear hb hd
    go_wp2
    exact ⟨_, rfl, Below.refl _ _, rfl, fun h => absurd h (by decide)⟩
   ·have d1 : u 1 = _ := hd 1 (by omega) (by kernel_rfl)
    clear hb hd
    rw [d1]
    clear d1
    have f0 := (K0.out.f.below HB1.out).cell 0
    simp only [List.getElem?_toArray, List.getElem?_cons_zero] at f0
    go_wp2
    exact ⟨_, rfl, Below.refl _ _, rfl, fun h => absurd h (by decide)⟩
   ·clear hb hd
    go_wp2
    exact ⟨_, rfl, Below.refl _ _, rfl, fun h => absurd h (by decide)⟩
   ·have d3 : u 3 = _ := hd 3 (by omega) (by kernel_rfl)
    clear hb hd
    rw [d3]
    clear d3
    go_wp2
    exact ⟨_, rfl, RowKit.Below.refl _ _, (by first | rfl | go_num | (congr 1; omega)), fun h => absurd h (by decide)⟩
   ·have d2 : u 2 = _ := hd 2 (by omega) (by kernel_rfl)
    have d4 : u 4 = _ := hd 4 (by omega) (by kernel_rfl)
    clear hb hd
    rw [d2, d4]
    clear d2 d4
    go_wp2
    exact ⟨_, rfl, Below.refl _ _, rfl, fun h => absurd h (by decide)⟩
   ·have d5 : u 5 = _ := hd 5 (by omega) (by kernel_rfl)
    clear hb hd
    rw [d5]
    clear d5
    have cr := HC1.out _ (bthen K0.out.b HB1.out)
    go_wp2
    exact ⟨_, rfl, Below.refl _ _, rfl, fun h => absurd h (by decide)⟩
   ·clear hb hd
    go_wp2
    exact ⟨_, rfl, Below.refl _ _, rfl, fun h => absurd h (by decide)⟩
   ·have d7 : u 7 = _ := hd 7 (by omega) (by kernel_rfl)
    clear hb hd
    rw [d7]
    clear d7
    have f0 := (K0.out.f.below HB1.out).cell 0
    simp only [List.getElem?_toArray, List.getElem?_cons_zero] at f0
    go_wp2
    exact ⟨_, rfl, Below.refl _ _, rfl, fun h => absurd h (by decide)⟩
   ·clear hb hd
    go_wp2
    exact ⟨_, rfl, Below.refl _ _, rfl, fun h => absurd h (by decide)⟩
   ·have d8 : u 8 = _ := hd 8 (by omega) (by kernel_rfl)
    have d9 : u 9 = _ := hd 9 (by omega) (by kernel_rfl)
    clear hb hd
    rw [d8, d9]
    clear d8 d9
    go_wp2
    exact ⟨_, rfl, Below.refl _ _, rfl, fun h => absurd h (by decide)⟩
   ·have d10 : u 10 = _ := hd 10 (by omega) (by kernel_rfl)
    clear hb hd
    rw [d10]
    clear d10
    have cr := HC2.out _ (bthen K0.out.b HB1.out)
    go_wp2
    exact ⟨_, rfl, Below.refl _ _, rfl, fun h => absurd h (by decide)⟩
   ·have d0 : u 0 = _ := hd 0 (by omega) (by kernel_rfl)
    have d6 : u 6 = _ := hd 6 (by omega) (by kernel_rfl)
    have d11 : u 11 = _ := hd 11 (by omega) (by kernel_rfl)
    clear hb hd
    rw [d0, d6, d11]
    clear d0 d6 d11
    go_wp2_with (go_at_call 59; (with_reducible refine (r5leg_c A n c S a b _ hc1 hc2 ((HL.out.below K0.out.b).below HB1.out)).mono ?_); rintro e w2 ⟨rfl, hb2⟩)
    exact ⟨_, rfl, hb2, (by rw [HLG.out]; rfl), fun h => absurd h (by decide)⟩
  case htail1 =>
   intro u A w1 hA hb hd hf
   simp only [putAll, dstOf, gtA, gtS, gtZ, Option.bind_some, Option.bind, Act.put, List.setIfInBounds_toArray, List.set_cons_succ, List.set_cons_zero] at hA; subst hA
   have e0 : u 0 = _ := hd 0 (by omega)
   have e1 : u 1 = _ := hd 1 (by omega)
   have e2 : u 2 = _ := hd 2 (by omega)
   have e3 : u 3 = _ := hd 3 (by omega)
   have e4 : u 4 = _ := hd 4 (by omega)
   have e5 : u 5 = _ := hd 5 (by omega)
   have e6 : u 6 = _ := hd 6 (by omega)
   have e7 : u 7 = _ := hd 7 (by omega)
   have e8 : u 8 = _ := hd 8 (by omega)
   have e9 : u 9 = _ := hd 9 (by omega)
   have e10 : u 10 = _ := hd 10 (by omega)
   have e11 : u 11 = _ := hd 11 (by omega)
   have e12 : u 12 = _ := hd 12 (by omega)
   first | rw [e0, e1, e2, e3, e4, e5, e6, e7, e8, e9, e10, e11, e12] | simp only [e0, e1, e2, e3, e4, e5, e6, e7, e8, e9, e10, e11, e12]
   clear e0 e1 e2 e3 e4 e5 e6 e7 e8 e9 e10 e11 e12
   clear hd hf
   have nK := hI9 (K0.out.below hb)
   clear K0 hb f0
   have K0 := nK
   clear nK
   have cA : w1.cell? ⟨kv, j, none⟩ = some (.int .i64 (F.at_ (lgT S n) j)) := by
    have := K0.out.o.cellAt (g := kv) j (by omega)
    rw [this]
    simp
   by_cases hLn : L < 0
   ·have HQT := hI9 (show Q = false from HQ.out.trans (by
     cases e : F.legB (lgT S n)
     ·rfl
     ·have := FliD.legB_iff.1 e j hlt
      rw [HLE.out] at this
      omega))
    have HB := hI9 K0.out.b
    clear K0 cA
    go_wp2_with (fail)
    (try dsimp only [NoPanic])
    go_wp2_with (fail)
    go_ret2
    exact ⟨.slice none 0 0, by rw [HQT.out]; rfl, HB.out, fun h => by rw [HQT.out] at h; cases h⟩
   have HF1 := hI9 (show F.flown P (lgT S n) (j + 2) from ⟨fun k hk => hP k (by omega), fun k hk => by
    by_cases e : k = j
    ·subst e; rw [HLE.out]; omega
    ·exact HFL.out.2 k (by omega)⟩)
   generalize F.at_ (lgT S n) j = D at *
   go_wp2_with (at_builtin; refine wpl_appT rfl _ _ rfl w.heap.size _ (j + 1) _ rfl (ownsRow_below K0.out.o (bal (RowKit.Below.refl _ _) _)) w1.heap.size (.int .i64 (D + L)) rfl ?a1 rfl (by omega) ?b1 ?_)
   (try case a1 => exact (Blk.new _ _ _).cell 0)
   case b1 => have := K0.out.b.size; simp; omega
   intro v' w3 ho hg
   have nK := hI9 (FwK.step K0.out (bal (RowKit.Below.refl _ _) _) (by rw [HA1.out]; first | exact ho.out | simpa [List.range_succ] using ho.out) hg.out)
   clear K0 ho hg cA
   go_wp2_with (fail)
   (try dsimp only [NoPanic])
   go_wp2_with (fail)
   go_roundg (F.m - (j + 2))
   case measure => omega
   case rel => exact ⟨j + 1, by first | rfl | go_num | (congr 1; omega), by omega, by omega, HF1, nK⟩
end Go.Proofs.YtlabfpjlckdmfaaGreat

namespace Go.Proofs.YtlabfpjlckdmfaaGreat
open Go Go.RowKit Go.Proofs
set_option maxRecDepth 100000
set_option maxHeartbeats 8000000
theorem rw_Meet_c (al ah bl bh : Int) (w : World) (ha : vspan al ah = true) (hb : vspan bl bh = true) :
  Calls Tryz.prog 146 #[.agg #[.int .i64 al, .int .i64 ah], .agg #[.int .i64 bl, .int .i64 bh]] w fun e w' => e = .returned (.tuple #[.agg #[.int .i64 (meL al ah bl bh), .int .i64 (meH al ah bl bh)], .int .i64 (meE al ah bl bh)]) ∧ Below w.heap.size w w' := by
 obtain ⟨v0, v1, v2⟩ := vspan_iff'.1 ha
 obtain ⟨v3, v4, v5⟩ := vspan_iff'.1 hb
 have ht := fun w1 => rf_two_c al ah bl bh w1
 rw [ha, hb] at ht
 have HT := hI9 (show ∀ w1, Calls Tryz.prog 154 #[.agg #[.int .i64 al, .int .i64 ah], .agg #[.int .i64 bl, .int .i64 bh]] w1 fun e w' => e = .returned (.int .i64 0) ∧ Below w1.heap.size w1 w' from fun w1 => by
  have := ht w1
  rw [show (!true || !true) = false from rfl, spanE_f] at this
  exact this)
 clear ha hb ht
 unfold meE meL meH
 by_cases h : max al bl ≤ min ah bh
 ·rw [if_pos h, if_pos h, if_pos h]
  have h2 : ¬ min ah bh < max al bl := by omega
  go_enter Tryz.func146, Tryz.ntmps146
  go_wp2_with (fail)
  have _x := frm3 w #[.int .i64 al, .int .i64 ah] 23 #[.int .i64 bl, .int .i64 bh] 23 #[.int .i64 0, .int .i64 0] 23
  have HX := hI9 _x.1
  have HY := hI9 _x.2.1
  have HR := hI9 _x.2.2.1
  have HB := hI9 _x.2.2.2.1
  have zW := _x.2.2.2.2
  clear _x
  generalize World.alloc (World.alloc (World.alloc w _) _) _ = W at *
  have zHX := HX.out.lt
  have cHX0 := HX.out.cell 0
  have cHX1 := HX.out.cell 1
  have zHY := HY.out.lt
  have cHY0 := HY.out.cell 0
  have cHY1 := HY.out.cell 1
  go_wp2_with (first | (go_at_call 154; (with_reducible refine (HT.out _).mono ?_); rintro e w1 ⟨rfl, hb1⟩; have nHX := hI9 (HX.out.below hb1); have nHY := hI9 (HY.out.below hb1); have nHR := hI9 (HR.out.below hb1); have nHB := hI9 (bthen HB.out hb1); have zz1 := hb1.size; clear HX HY HR HB hb1; have HX := nHX; have HY := nHY; have HR := nHR; have HB := nHB; clear nHX nHY nHR nHB; (try clear zHX); have zHX := HX.out.lt; (try clear cHX0); have cHX0 := HX.out.cell 0; (try clear cHX1); have cHX1 := HX.out.cell 1; (try clear zHY); have zHY := HY.out.lt; (try clear cHY0); have cHY0 := HY.out.cell 0; (try clear cHY1); have cHY1 := HY.out.cell 1; (try clear zHR); have zHR := HR.out.lt; (try clear cHR0); have cHR0 := HR.out.cell 0; (try clear cHR1); have cHR1 := HR.out.cell 1; (try clear fHR); have fHR := fun i => HR.out.frozen i))
  exact bodyPost_ret (res_ct rfl _ _ #[.int .i64 (max al bl), .int .i64 (min ah bh)] 2 rfl (((HR.out.set_ 0 _).set_ 1 _).alloc _) Tryz.rowSpan rfl) rfl ⟨rfl, bal (bset (bset HB.out (g := w.heap.size + 1 + 1) (by omega) (i := 0) _) (g := w.heap.size + 1 + 1) (by omega) (i := 1) _) _⟩
 ·rw [if_neg h, if_neg h, if_neg h]
  have h2 : min ah bh < max al bl := by omega
  go_enter Tryz.func146, Tryz.ntmps146
  go_wp2_with (fail)
  have _x := frm3 w #[.int .i64 al, .int .i64 ah] 23 #[.int .i64 bl, .int .i64 bh] 23 #[.int .i64 0, .int .i64 0] 23
  have HX := hI9 _x.1
  have HY := hI9 _x.2.1
  have HR := hI9 _x.2.2.1
  have HB := hI9 _x.2.2.2.1
  have zW := _x.2.2.2.2
  clear _x
  generalize World.alloc (World.alloc (World.alloc w _) _) _ = W at *
  have zHX := HX.out.lt
  have cHX0 := HX.out.cell 0
  have cHX1 := HX.out.cell 1
  have zHY := HY.out.lt
  have cHY0 := HY.out.cell 0
  have cHY1 := HY.out.cell 1
  go_wp2_with (first | (go_at_call 154; (with_reducible refine (HT.out _).mono ?_); rintro e w1 ⟨rfl, hb1⟩; have nHX := hI9 (HX.out.below hb1); have nHY := hI9 (HY.out.below hb1); have nHR := hI9 (HR.out.below hb1); have nHB := hI9 (bthen HB.out hb1); have zz1 := hb1.size; clear HX HY HR HB hb1; have HX := nHX; have HY := nHY; have HR := nHR; have HB := nHB; clear nHX nHY nHR nHB; (try clear zHX); have zHX := HX.out.lt; (try clear cHX0); have cHX0 := HX.out.cell 0; (try clear cHX1); have cHX1 := HX.out.cell 1; (try clear zHY); have zHY := HY.out.lt; (try clear cHY0); have cHY0 := HY.out.cell 0; (try clear cHY1); have cHY1 := HY.out.cell 1; (try clear zHR); have zHR := HR.out.lt; (try clear cHR0); have cHR0 := HR.out.cell 0; (try clear cHR1); have cHR1 := HR.out.cell 1; (try clear fHR); have fHR := fun i => HR.out.frozen i))
  exact bodyPost_ret (res_ct rfl _ _ #[.int .i64 0, .int .i64 0] 2 rfl (((HR.out.set_ 0 _).set_ 1 _).alloc _) Tryz.rowSpan rfl) rfl ⟨rfl, bal (bset (bset HB.out (g := w.heap.size + 1 + 1) (by omega) (i := 0) _) (g := w.heap.size + 1 + 1) (by omega) (i := 1) _) _⟩
theorem rw_around_c (n d m : Int) (w : World) (h0 : -1000000000 ≤ n) (h1 : n ≤ 1000000000) (h2 : -1000000000 ≤ d) (h3 : d ≤ 1000000000) (hn0 : 0 ≤ n) (hn1 : n ≤ m) (hd : 0 ≤ d) (hm : m ≤ 1000000) :
  Calls Tryz.prog 128 #[.int .i64 n, .int .i64 d, .int .i64 m] w fun e w' => e = .returned (.agg #[.int .i64 (neL n d m), .int .i64 (neH n d m)]) ∧ Below w.heap.size w w' := by
 go_enter Tryz.func128, Tryz.ntmps128
 go_wp2
 all_goals exact bodyPost_ret (res_c rfl _ _ _ 2 rfl (Blk.new _ _ _) Tryz.rowSpan rfl) rfl ⟨ret2 (by unfold neL; omega) (by unfold neH; omega), bal (Below.refl _ _) _⟩
theorem rw_cut_c (al ah bl bh : Int) (w : World) (ha : vspan al ah = true) (hb : vspan bl bh = true) :
  Calls Tryz.prog 127 #[.agg #[.int .i64 al, .int .i64 ah], .agg #[.int .i64 bl, .int .i64 bh]] w fun e w' => e = .returned (.tuple #[.agg #[.int .i64 (cuL al ah bl bh), .int .i64 (cuH al ah bl bh)], .bool (cuF al ah bl bh)]) ∧ Below w.heap.size w w' := by
 have hm := fun w1 => rw_Meet_c al ah bl bh w1 ha hb
 unfold cuL cuH cuF
 clear ha hb
 unfold meL meH meE at hm
 by_cases h : max al bl ≤ min ah bh
 ·rw [if_pos h, if_pos h, if_pos h] at hm
  rw [if_pos h, if_pos h, show (!decide (max al bl ≤ min ah bh)) = false by simp [h]]
  have HM := hI9 hm
  clear hm
  go_enter Tryz.func127, Tryz.ntmps127
  go_wp2_with (fail)
  have _x := frm3 w #[.int .i64 al, .int .i64 ah] 23 #[.int .i64 bl, .int .i64 bh] 23 #[.int .i64 0, .int .i64 0] 23
  have HX := hI9 _x.1
  have HY := hI9 _x.2.1
  have HR := hI9 _x.2.2.1
  have HB := hI9 _x.2.2.2.1
  have zW := _x.2.2.2.2
  clear _x
  generalize World.alloc (World.alloc (World.alloc w _) _) _ = W at *
  have zHX := HX.out.lt
  have cHX0 := HX.out.cell 0
  have cHX1 := HX.out.cell 1
  have zHY := HY.out.lt
  have cHY0 := HY.out.cell 0
  have cHY1 := HY.out.cell 1
  go_wp2_with (first | (go_at_call 146; (with_reducible refine (HM.out _).mono ?_); rintro e w1 ⟨rfl, hb1⟩; have nHX := hI9 (HX.out.below hb1); have nHY := hI9 (HY.out.below hb1); have nHR := hI9 (HR.out.below hb1); have nHB := hI9 (bthen HB.out hb1); have zz1 := hb1.size; clear HX HY HR HB hb1; have HX := nHX; have HY := nHY; have HR := nHR; have HB := nHB; clear nHX nHY nHR nHB; (try clear zHY); have zHY := HY.out.lt; (try clear cHY0); have cHY0 := HY.out.cell 0; (try clear cHY1); have cHY1 := HY.out.cell 1; (try clear zHR); have zHR := HR.out.lt; (try clear cHR0); have cHR0 := HR.out.cell 0; (try clear cHR1); have cHR1 := HR.out.cell 1; (try clear fHR); have fHR := fun i => HR.out.frozen i))
  exact bodyPost_ret (res_ct rfl _ _ #[.int .i64 (max al bl), .int .i64 (min ah bh)] 2 rfl (((HR.out.set_ 0 _).set_ 1 _).alloc _) Tryz.rowSpan rfl) rfl ⟨rfl, bal (bset (bset HB.out (g := w.heap.size + 1 + 1) (by omega) (i := 0) _) (g := w.heap.size + 1 + 1) (by omega) (i := 1) _) _⟩
 ·rw [if_neg h, if_neg h, if_neg h] at hm
  rw [if_neg h, if_neg h, show (!decide (max al bl ≤ min ah bh)) = true by simp [h]]
  have HM := hI9 hm
  clear hm
  go_enter Tryz.func127, Tryz.ntmps127
  go_wp2_with (fail)
  have _x := frm3 w #[.int .i64 al, .int .i64 ah] 23 #[.int .i64 bl, .int .i64 bh] 23 #[.int .i64 0, .int .i64 0] 23
  have HX := hI9 _x.1
  have HY := hI9 _x.2.1
  have HR := hI9 _x.2.2.1
  have HB := hI9 _x.2.2.2.1
  have zW := _x.2.2.2.2
  clear _x
  generalize World.alloc (World.alloc (World.alloc w _) _) _ = W at *
  have zHX := HX.out.lt
  have cHX0 := HX.out.cell 0
  have cHX1 := HX.out.cell 1
  have zHY := HY.out.lt
  have cHY0 := HY.out.cell 0
  have cHY1 := HY.out.cell 1
  go_wp2_with (first | (go_at_call 146; (with_reducible refine (HM.out _).mono ?_); rintro e w1 ⟨rfl, hb1⟩; have nHX := hI9 (HX.out.below hb1); have nHY := hI9 (HY.out.below hb1); have nHR := hI9 (HR.out.below hb1); have nHB := hI9 (bthen HB.out hb1); have zz1 := hb1.size; clear HX HY HR HB hb1; have HX := nHX; have HY := nHY; have HR := nHR; have HB := nHB; clear nHX nHY nHR nHB; (try clear zHY); have zHY := HY.out.lt; (try clear cHY0); have cHY0 := HY.out.cell 0; (try clear cHY1); have cHY1 := HY.out.cell 1; (try clear zHR); have zHR := HR.out.lt; (try clear cHR0); have cHR0 := HR.out.cell 0; (try clear cHR1); have cHR1 := HR.out.cell 1; (try clear fHR); have fHR := fun i => HR.out.frozen i))
  exact bodyPost_ret (res_ct rfl _ _ #[.int .i64 bl, .int .i64 bh] 2 rfl (((HR.out.set_ 0 _).set_ 1 _).alloc _) Tryz.rowSpan rfl) rfl ⟨rfl, bal (bset (bset HB.out (g := w.heap.size + 1 + 1) (by omega) (i := 0) _) (g := w.heap.size + 1 + 1) (by omega) (i := 1) _) _⟩
end Go.Proofs.YtlabfpjlckdmfaaGreat
