/- Texts joined: JAR. -/
import Derived.Test.YtlabfpjlckdmfaaGreatJAQ
set_option linter.all false
namespace Go.Proofs.YtlabfpjlckdmfaaGreat
open Go Go.RowKit Go.Proofs
set_option maxRecDepth 100000
set_option maxHeartbeats 8000000
def ArrRes (E : Int) (w : World) (v : Value) (F : FliD) (lt : Tab) : Prop := (E = 0 → SlI w v F.m (F.at_ lt)) ∧ (E ≠ 0 → v = .slice none 0 0)
theorem rArrive_c (M : MetD) (vF vS : Value) (A : Option Addr) (n c : Nat) (S : Tab) (F : FliD) (vR : Value) (w : World) (hM : MetAt w vF vS M) (hc1 : n ≤ c) (hc2 : c ≤ 9223372036854775807) (hL : RecsAt w A n 3 (nV S)) (hR : SlI w vR F.m F.R) :
  Calls Tryz.prog 9 #[.agg #[.int .i64 M.places, .int .i64 M.any.a0, .int .i64 M.any.a1, .int .i64 M.any.a2, .int .i64 M.any.a3, .int .i64 M.any.a4, .int .i64 M.any.a5, .bool M.any.i, .bool M.any.s, .int .i64 M.mw, .int .i64 M.ms, .int .i64 M.mc, vF, vS], .slice A n c, .agg #[vR, .int .i64 F.dep, .int .i64 F.fuel, .int .i64 F.burn, .int .i64 F.res]] w fun e w' => ∃ v, e = .returned (.tuple #[v, .int .i64 (nfE (netE M S n) M S n F)]) ∧ RowKit.Below w.heap.size w w' ∧ ArrRes (nfE (netE M S n) M S n F) w' v F (lgT S n) := by
 have HM := hI9 hM
 have HL := hI9 hL
 have HR := hI9 hR
 clear hM hL hR
 have HNN := hI9 (fun w1 h1 h2 h3 => newFlightN_c M vF vS A n c S F vR w1 h1 hc1 hc2 h2 h3)
 generalize nfE (netE M S n) M S n F = NE at *
 have tok : True := trivial
 have tok2 : True := trivial
 by_cases h0 : NE = 0
 case neg =>
  have hz : (NE != 0) = true := by simpa using h0
  have H0 := hI9 h0
  clear h0
  go_enter Tryz.func9, Tryz.ntmps9
  go_wp2_with (fail)
  have _x := frm2 w #[.int .i64 M.places, .int .i64 M.any.a0, .int .i64 M.any.a1, .int .i64 M.any.a2, .int .i64 M.any.a3, .int .i64 M.any.a4, .int .i64 M.any.a5, .bool M.any.i, .bool M.any.s, .int .i64 M.mw, .int .i64 M.ms, .int .i64 M.mc, vF, vS] 29 #[vR, .int .i64 F.dep, .int .i64 F.fuel, .int .i64 F.burn, .int .i64 F.res] 37
  have HX := hI9 _x.1
  have HF := hI9 _x.2.1
  have HB := hI9 _x.2.2.1
  have zW := _x.2.2.2
  clear _x
  generalize World.alloc (World.alloc w _) _ = W at *
  go_wp2_with (first | (have _t := tok; refine wpl_row rfl 29 (.tmp 3) rfl _ rfl _ 14 HX.out Tryz.rowMet rfl ?_; simp only [Act.put]; clear tok) | (have _t := tok2; refine wpl_row rfl 37 (.tmp 5) rfl _ rfl _ 5 HF.out Tryz.rowFli rfl ?_; simp only [Act.put]; clear tok2) | (go_at_call 25; (with_reducible refine (HNN.out _ (HM.out.below HB.out) (HL.out.below HB.out) (HR.out.below HB.out)).mono ?_); rintro e w1 ⟨v, rfl, hb1⟩; (obtain ⟨hb1, -⟩ := hb1); have nHX := hI9 (HX.out.below hb1); have nHF := hI9 (HF.out.below hb1); have nHB := hI9 (bthen HB.out hb1); have zz1 := hb1.size; clear HX HF HB hb1; have HX := nHX; have HF := nHF; have HB := nHB; clear nHX nHF nHB))
  go_ret2
  exact ⟨.slice none 0 0, rfl, HB.out, fun h => absurd h H0.out, fun _ => rfl⟩
 subst h0
 go_enter Tryz.func9, Tryz.ntmps9
 go_wp2_with (fail)
 have _x := frm2 w #[.int .i64 M.places, .int .i64 M.any.a0, .int .i64 M.any.a1, .int .i64 M.any.a2, .int .i64 M.any.a3, .int .i64 M.any.a4, .int .i64 M.any.a5, .bool M.any.i, .bool M.any.s, .int .i64 M.mw, .int .i64 M.ms, .int .i64 M.mc, vF, vS] 29 #[vR, .int .i64 F.dep, .int .i64 F.fuel, .int .i64 F.burn, .int .i64 F.res] 37
 have HX := hI9 _x.1
 have HF := hI9 _x.2.1
 have HB := hI9 _x.2.2.1
 have zW := _x.2.2.2
 clear _x
 generalize World.alloc (World.alloc w _) _ = W at *
 go_wp2_with (first | (have _t := tok; refine wpl_row rfl 29 (.tmp 3) rfl _ rfl _ 14 HX.out Tryz.rowMet rfl ?_; simp only [Act.put]; clear tok) | (have _t := tok2; refine wpl_row rfl 37 (.tmp 5) rfl _ rfl _ 5 HF.out Tryz.rowFli rfl ?_; simp only [Act.put]; clear tok2))
 refine (HNN.out _ (HM.out.below HB.out) (HL.out.below HB.out) (HR.out.below HB.out)).mono ?_
 rintro e w2 ⟨v, rfl, hb2, hv⟩
 obtain ⟨vN, gx, vA, rfl, h1, -, -, ⟨A2, c2, rfl, e2, e3, e4⟩, -⟩ := hv (by trivial)
 have HSA := hI9 (show SlI w2 (.slice A2 F.m c2) F.m (F.at_ (lgT S n)) from ⟨A2, c2, rfl, e2, e3, e4⟩)
 have x11 := h1.cell 11
 simp only [gtA, gtS, gtZ] at x11
 have HB2 := hI9 (bthen HB.out hb2)
 clear HB HX HF hb2 h1 e4 hv
 go_wp2_with (fail)
 go_ret2
 exact ⟨.slice A2 F.m c2, rfl, HB2.out, fun _ => HSA.out, fun h => absurd rfl h⟩
def TabV (w : World) (v : Value) (P : Nat) (t : Tab) : Prop := ∃ g c lo hi r, v = .slice (some ⟨g, 0, none⟩) P c ∧ Sq w 3 lo hi g r P t
theorem TabV.below {w w' : World} {v : Value} {P : Nat} {t : Tab} (h : TabV w v P t) (hb : RowKit.Below w.heap.size w w') : TabV w' v P t := by
 obtain ⟨g, c, lo, hi, r, e, h⟩ := h
 exact ⟨g, c, lo, hi, r, e, h.below hb⟩
theorem r5Arrive_c (M : MetD) (vF vS : Value) (A : Option Addr) (n c : Nat) (S : Tab) (F : FliD) (vR : Value) (w : World) (hM : MetAt w vF vS M) (hc1 : n ≤ c) (hc2 : c ≤ 9223372036854775807) (hL : RecsAt w A n 3 (nV S)) (hR : SlI w vR F.m F.R) :
  Calls Tryz.prog 27 #[.agg #[.int .i64 M.places, .int .i64 M.any.a0, .int .i64 M.any.a1, .int .i64 M.any.a2, .int .i64 M.any.a3, .int .i64 M.any.a4, .int .i64 M.any.a5, .bool M.any.i, .bool M.any.s, .int .i64 M.mw, .int .i64 M.ms, .int .i64 M.mc, vF, vS], .slice A n c, .agg #[vR, .int .i64 F.dep, .int .i64 F.fuel, .int .i64 F.burn, .int .i64 F.res]] w fun e w' => ∃ v, e = .returned (.tuple #[v, .int .i64 (nfE (netE M S n) M S n F)]) ∧ RowKit.Below w.heap.size w w' ∧ ArrRes (nfE (netE M S n) M S n F) w' v F (lgT S n) := by
 have HM := hI9 hM
 have HL := hI9 hL
 have HR := hI9 hR
 clear hM hL hR
 have HNN := hI9 (fun w1 h1 h2 h3 => r5Check_c M vF vS A n c S F vR w1 h1 hc1 hc2 h2 h3)
 obtain ⟨NE, hNE⟩ : ∃ q, q = nfE (netE M S n) M S n F := ⟨_, rfl⟩
 rw [← hNE] at HNN ⊢
 have tok : True := trivial
 have tok2 : True := trivial
 by_cases h0 : NE = 0
 case neg =>
  have hz : (NE != 0) = true := by simpa using h0
  have H0 := hI9 h0
  clear h0 hNE
  go_enter Tryz.func27, Tryz.ntmps27
  go_wp2_with (fail)
  have _x := frm2 w #[.int .i64 M.places, .int .i64 M.any.a0, .int .i64 M.any.a1, .int .i64 M.any.a2, .int .i64 M.any.a3, .int .i64 M.any.a4, .int .i64 M.any.a5, .bool M.any.i, .bool M.any.s, .int .i64 M.mw, .int .i64 M.ms, .int .i64 M.mc, vF, vS] 29 #[vR, .int .i64 F.dep, .int .i64 F.fuel, .int .i64 F.burn, .int .i64 F.res] 37
  have HX := hI9 _x.1
  have HF := hI9 _x.2.1
  have HB := hI9 _x.2.2.1
  have zW := _x.2.2.2
  clear _x
  generalize World.alloc (World.alloc w _) _ = W at *
  go_wp2_with (first | (have _t := tok; refine wpl_row rfl 29 (.tmp 3) rfl _ rfl _ 14 HX.out Tryz.rowMet rfl ?_; simp only [Act.put]; clear tok) | (have _t := tok2; refine wpl_row rfl 37 (.tmp 5) rfl _ rfl _ 5 HF.out Tryz.rowFli rfl ?_; simp only [Act.put]; clear tok2) | (go_at_call 10; (with_reducible refine (HNN.out _ (HM.out.below HB.out) (HL.out.below HB.out) (HR.out.below HB.out)).mono ?_); rintro e w1 ⟨rfl, hb1⟩; have nHX := hI9 (HX.out.below hb1); have nHF := hI9 (HF.out.below hb1); have nHB := hI9 (bthen HB.out hb1); have zz1 := hb1.size; clear HX HF HB hb1; have HX := nHX; have HF := nHF; have HB := nHB; clear nHX nHF nHB))
  go_ret2
  exact ⟨.slice none 0 0, rfl, HB.out, fun h => absurd h H0.out, fun _ => rfl⟩
 subst h0
 have hE : netE M S n = 0 ∧ F.okB M.places.toNat (lgT S n) = true := by
  unfold nfE at hNE
  by_cases h : netE M S n = 0
  ·rw [if_pos h] at hNE
   refine ⟨h, ?_⟩
   cases e : F.okB M.places.toNat (lgT S n)
   ·rw [e] at hNE; cases hNE
   ·rfl
  ·rw [if_neg h] at hNE; exact absurd hNE.symm h
 obtain ⟨f1, f2⟩ := netE_ok hE.1
 obtain ⟨f3, f4, f5, f6⟩ := net_facts f1 f2
 have hok := FliD.okB_iff.1 hE.2
 have hnu := FliD.nums_iff.1 hok.1
 have hlb := FliD.legB_iff.2 hok.2.1.2
 have hfl := fun w1 h1 h2 => r5flown_c A n c S M.places.toNat F vR w1 hc1 hc2 h1 h2 f6 hnu.1 hnu.2.1 hok.2.1.1
 rw [hlb] at hfl
 have HFL := hI9 hfl
 clear hfl hlb hnu hok f1 f2 f3 f4 f5 f6 hE hNE
 have tok3 : True := trivial
 go_enter Tryz.func27, Tryz.ntmps27
 go_wp2_with (fail)
 have _x := frm2 w #[.int .i64 M.places, .int .i64 M.any.a0, .int .i64 M.any.a1, .int .i64 M.any.a2, .int .i64 M.any.a3, .int .i64 M.any.a4, .int .i64 M.any.a5, .bool M.any.i, .bool M.any.s, .int .i64 M.mw, .int .i64 M.ms, .int .i64 M.mc, vF, vS] 29 #[vR, .int .i64 F.dep, .int .i64 F.fuel, .int .i64 F.burn, .int .i64 F.res] 37
 have HX := hI9 _x.1
 have HF := hI9 _x.2.1
 have HB := hI9 _x.2.2.1
 have zW := _x.2.2.2
 clear _x
 generalize World.alloc (World.alloc w _) _ = W at *
 go_wp2_with (first | (have _t := tok; refine wpl_row rfl 29 (.tmp 3) rfl _ rfl _ 14 HX.out Tryz.rowMet rfl ?_; simp only [Act.put]; clear tok) | (have _t := tok2; refine wpl_row rfl 37 (.tmp 5) rfl _ rfl _ 5 HF.out Tryz.rowFli rfl ?_; simp only [Act.put]; clear tok2) | (have _t := tok3; refine wpl_row rfl 37 (.tmp 5) rfl _ rfl _ 5 HF.out Tryz.rowFli rfl ?_; simp only [Act.put]; clear tok3) | (go_at_call 10; (with_reducible refine (HNN.out _ (HM.out.below HB.out) (HL.out.below HB.out) (HR.out.below HB.out)).mono ?_); rintro e w1 ⟨rfl, hb1⟩; have nHX := hI9 (HX.out.below hb1); have nHF := hI9 (HF.out.below hb1); have nHB := hI9 (bthen HB.out hb1); have zz1 := hb1.size; clear HX HF HB hb1; have HX := nHX; have HF := nHF; have HB := nHB; clear nHX nHF nHB))
 refine (HFL.out _ (HL.out.below HB.out) (HR.out.below HB.out)).mono ?_
 rintro e w2 ⟨v, rfl, hb2, hv⟩
 have hs := hv (by trivial)
 have HSA := hI9 hs
 obtain ⟨A2, c2, rfl, -⟩ := hs
 have HB2 := hI9 (bthen HB.out hb2)
 clear HB HX HF hb2 hv
 go_wp2_with (fail)
 go_ret2
 exact ⟨.slice A2 F.m c2, rfl, HB2.out, fun _ => HSA.out, fun h => absurd rfl h⟩
end Go.Proofs.YtlabfpjlckdmfaaGreat

namespace Go.Proofs.YtlabfpjlckdmfaaGreat
open Go Go.RowKit Go.Proofs
set_option maxRecDepth 100000
set_option maxHeartbeats 8000000
theorem owns_row {w : World} {base n : Nat} {T : TypeId} {v : Value} {xs : List Value} (h : w.ownsRow base T 1 v n xs) (hn : 1 ≤ n) : ∃ k c cs, v = .slice (some ⟨k, 0, none⟩) n c ∧ n ≤ c ∧ c ≤ 9223372036854775807 ∧ base ≤ k ∧ Blk w k T cs ∧ ∀ j, j < n → cs[j]? = xs[j]? := by
 rcases h.2 with ⟨-, h⟩ | ⟨k, cap, cur, e, h1, h2, h3, h4, h5, h6⟩
 ·omega
 ·refine ⟨k, cap, cur, e, h3, by unfold maxLen at h4; omega, h1, h2, fun j hj => ?_⟩
  rw [← h6, List.getElem?_take, if_pos (by omega), ← Array.getElem?_toList]
structure SqG (w0 w : World) (v : Value) (i n : Nat) (t : Tab) (r cp : Nat → Nat) : Prop where
 b : Below w0.heap.size w0 w
 o : w.ownsRow w0.heap.size 35 1 v i ((List.range i).map fun k => .slice (some ⟨r k, 0, none⟩) n (cp k))
 rk : ∀ k, k < i → w0.heap.size ≤ r k ∧ (n ≤ cp k ∧ cp k ≤ 9223372036854775807) ∧ ∃ cs, Blk w (r k) 3 cs ∧ ∀ j, j < n → cs[j]? = some (.int .i64 (t k j))
 d : ∀ j, j < i → ∀ k, k < i → r j = r k → j = k
theorem SqG.below {w0 w w' : World} {v : Value} {i n : Nat} {t : Tab} {r cp : Nat → Nat} (h : SqG w0 w v i n t r cp) (hb : Below w.heap.size w w') : SqG w0 w' v i n t r cp :=
 ⟨bthen h.b hb, ownsRow_below h.o hb, fun k hk => ⟨(h.rk k hk).1, (h.rk k hk).2.1, (h.rk k hk).2.2.imp fun cs q => ⟨q.1.below hb, q.2⟩⟩, h.d⟩
theorem SqG.step {w0 w w1 w2 : World} {v v' : Value} {i n g cg : Nat} {t : Tab} {r cp : Nat → Nat} {cs : Array Value} (h : SqG w0 w v i n t r cp) (hb : Below w.heap.size w w1) (hg : w.heap.size ≤ g) (hcg : n ≤ cg ∧ cg ≤ 9223372036854775807) (hB : Blk w1 g 3 cs) (hcs : ∀ j, j < n → cs[j]? = some (.int .i64 (t i j)))
  (ho : w2.ownsRow w0.heap.size 35 1 v' (i + 1) ((List.range i).map (fun k => .slice (some ⟨r k, 0, none⟩) n (cp k)) ++ [.slice (some ⟨g, 0, none⟩) n cg])) (hgr : w1.grownBy w2 v.ownBlock) :
  SqG w0 w2 v' (i + 1) n t (fun k => if k = i then g else r k) (fun k => if k = i then cg else cp k) := by
 have h1 := h.below hb
 have hvo : ∀ b, some b = v.ownBlock → w0.heap.size ≤ b := fun b q => (ownLt h1.o q).1
 have hbs := h.b.size
 have hold : ∀ k, k < i → r k < w.heap.size := fun k hk => by obtain ⟨cs, q, -⟩ := (h.rk k hk).2.2; exact q.lt
 refine ⟨h1.b.trans (belowGrew hgr h1.b.size hvo), ?_, fun k hk => ?_, fun j hj k hk e => ?_⟩
 ·have e : (List.range (i + 1)).map (fun k => Value.slice (some ⟨(if k = i then g else r k), 0, none⟩) n (if k = i then cg else cp k)) = (List.range i).map (fun k => .slice (some ⟨r k, 0, none⟩) n (cp k)) ++ [.slice (some ⟨g, 0, none⟩) n cg] := by
   rw [List.range_succ, List.map_append]
   congr 1
   ·refine List.map_congr_left fun k hk => ?_
    rw [if_neg (by have := List.mem_range.1 hk; omega), if_neg (by have := List.mem_range.1 hk; omega)]
   ·simp
  rw [e]; exact ho
 ·show w0.heap.size ≤ (if k = i then g else r k) ∧ (n ≤ (if k = i then cg else cp k) ∧ (if k = i then cg else cp k) ≤ _) ∧ ∃ cs, Blk w2 (if k = i then g else r k) 3 cs ∧ _
  by_cases e : k = i
  ·rw [if_pos e, if_pos e, e]
   exact ⟨by omega, hcg, cs, hB.grew hgr (own_blk_ne h1.o hB (by decide)), hcs⟩
  ·rw [if_neg e, if_neg e]
   obtain ⟨q1, q2, cs', q3, q4⟩ := h1.rk k (by omega)
   exact ⟨q1, q2, cs', q3.grew hgr (own_blk_ne h1.o q3 (by decide)), q4⟩
 ·by_cases e1 : j = i
  ·by_cases e2 : k = i
   ·omega
   ·rw [if_pos e1, if_neg e2] at e; have := hold k (by omega); omega
  ·by_cases e2 : k = i
   ·rw [if_neg e1, if_pos e2] at e; have := hold j (by omega); omega
   ·rw [if_neg e1, if_neg e2] at e; exact h.d j (by omega) k (by omega) e
theorem SqG.sq {w0 w : World} {v : Value} {n : Nat} {t : Tab} {r cp : Nat → Nat} (h : SqG w0 w v n n t r cp) (hn : 1 ≤ n) : ∃ g c, v = .slice (some ⟨g, 0, none⟩) n c ∧ Sq w 3 w0.heap.size w.heap.size g r n t := by
 have ho := h.o
 obtain ⟨g, c, cs, rfl, h1, h2, h3, h4, -⟩ := owns_row ho hn
 refine ⟨g, c, rfl, ⟨⟨h3, h4.lt, Nat.le_refl _⟩, fun i hi => ?_, h.d, fun i hi => ?_, fun i hi => (h.rk i hi).2.2⟩⟩
 ·obtain ⟨q1, -, cs', q3, -⟩ := h.rk i hi
  exact ⟨q1, q3.lt, fun e => blk_ne q3 h4 (by decide) e⟩
 ·refine ⟨cp i, (h.rk i hi).2.1.1, (h.rk i hi).2.1.2, ?_⟩
  have := ho.cellAt (g := g) i (by omega)
  rw [this]
  simp [hi]
structure TmK (M : MetD) (vF vS : Value) (P : Nat) (t : Tab) (i : Nat) (v : Value) (r cp : Nat → Nat) (w wr : World) : Prop where
 x : Blk wr w.heap.size 29 #[.int .i64 M.places, .int .i64 M.any.a0, .int .i64 M.any.a1, .int .i64 M.any.a2, .int .i64 M.any.a3, .int .i64 M.any.a4, .int .i64 M.any.a5, .bool M.any.i, .bool M.any.s, .int .i64 M.mw, .int .i64 M.ms, .int .i64 M.mc, vF, vS]
 g : SqG w wr v i P t r cp
theorem TmK.below {M : MetD} {vF vS : Value} {P : Nat} {t : Tab} {i : Nat} {v : Value} {r cp : Nat → Nat} {w wr w2 : World} (h : TmK M vF vS P t i v r cp w wr) (hb : RowKit.Below wr.heap.size wr w2) : TmK M vF vS P t i v r cp w w2 := ⟨h.x.below hb, h.g.below hb⟩
structure TiK (M : MetD) (vF vS : Value) (P gT : Nat) (rT : Nat → Nat) (lo hi : Nat) (tt : Tab) (w wr : World) : Prop where
 b : RowKit.Below w.heap.size w wr
 x : Blk wr w.heap.size 29 #[.int .i64 M.places, .int .i64 M.any.a0, .int .i64 M.any.a1, .int .i64 M.any.a2, .int .i64 M.any.a3, .int .i64 M.any.a4, .int .i64 M.any.a5, .bool M.any.i, .bool M.any.s, .int .i64 M.mw, .int .i64 M.ms, .int .i64 M.mc, vF, vS]
 t : Sq wr 3 lo hi gT rT P tt
theorem TiK.below {M : MetD} {vF vS : Value} {P gT lo hi : Nat} {rT : Nat → Nat} {tt : Tab} {w wr w2 : World} (h : TiK M vF vS P gT rT lo hi tt w wr) (hb : RowKit.Below wr.heap.size wr w2) : TiK M vF vS P gT rT lo hi tt w w2 := ⟨bthen h.b hb, h.x.below hb, h.t.below hb⟩
theorem TiK.set_ {M : MetD} {vF vS : Value} {P gT lo hi : Nat} {rT : Nat → Nat} {tt : Tab} {w wr : World} (h : TiK M vF vS P gT rT lo hi tt w wr) (hlo : w.heap.size ≤ lo) {a b : Nat} (ha : a < P) {x : Int} (hx : tt a b < 0 ∨ x < tt a b) : TiK M vF vS P gT rT lo hi (stpT tt a b x) w (wr.setCell ⟨rT a, b, none⟩ (.int .i64 x)) := by
 have q := h.t.rl a ha
 refine ⟨bset h.b (by omega) _, h.x.far' (h.t.ne h.x ha (by decide)) _, ?_⟩
 have := h.t.set_ (b := b) ha x
 rw [show (fun i j => if i = a ∧ j = b then x else tt i j) = stpT tt a b x by funext i j; unfold stpT; rw [if_pos hx]] at this
 exact this
end Go.Proofs.YtlabfpjlckdmfaaGreat

namespace Go.Proofs.YtlabfpjlckdmfaaGreat
open Go Go.RowKit Go.Proofs
set_option maxRecDepth 100000
set_option maxHeartbeats 8000000
end Go.Proofs.YtlabfpjlckdmfaaGreat

namespace Go.Proofs.YtlabfpjlckdmfaaGreat
open Go Go.RowKit Go.Proofs
set_option maxRecDepth 100000
set_option maxHeartbeats 8000000
def FliD.lasts (F : FliD) (t : Int) : Bool := decide (F.res ≤ F.fuel - F.burn * (t - F.dep))
theorem arrival_c (M : MetD) (vF vS v vN : Value) (P : Nat) (lt tt : Tab) (F : FliD) (vR : Value) (lw ls lc : Int) (li lb : Bool) (w : World) (h : FliAt w v vN M vF vS P lt tt F vR lw ls lc li lb) (hm : 1 ≤ F.m) :
  Calls Tryz.prog 31 #[v] w fun e w' => e = .returned (.int .i64 (F.at_ lt (F.m - 1))) ∧ RowKit.Below w.heap.size w w' := by
 obtain ⟨gx, vA, rfl, h1, -, -, ⟨A2, c2, rfl, e2, e3, e4⟩, -⟩ := h
 obtain ⟨b2, o2, rfl, hb2, hc2⟩ := e4 (by omega)
 obtain ⟨m, hme⟩ : ∃ m, m = F.m - 1 := ⟨_, rfl⟩
 rw [← hme]
 have cl : w.cell? ⟨b2, o2 + m, none⟩ = some (.int .i64 (F.at_ lt m)) := by have := hc2 m (by omega) 0 (by omega); rw [Nat.mul_one, Nat.add_zero] at this; exact this
 have x11 := h1.cell 11
 simp only [gtA, gtS, gtZ] at x11
 have hmz : IntKind.i64.wrap ((F.m : Int) - 1) = (m : Int) := by rw [IntKind.wrap_i64]; omega
 have hmz2 : (m : Int) < (F.m : Int) := by omega
 clear hc2 e4 h1 hme
 generalize F.at_ lt m = D at *
 go_enter Tryz.func31, Tryz.ntmps31
 go_wp2_with (fail)
 (refine wp_region_drawnt 12 (by kernel_rfl) (by kernel_rfl) ?_; simp only [List.take_succ_cons, List.take_zero, List.drop_succ_cons, List.drop_zero]; (repeat (go_big_quiet_step ( fail))); refine wpQuiet_nil ?_; rintro _ ⟨nq, rfl⟩)
 go_wp2_with (fail)
 go_ret
 exact ⟨rfl, bdn (RowKit.Below.refl _ _) _⟩
theorem lasts_c (M : MetD) (vF vS v vN : Value) (P : Nat) (lt tt : Tab) (F : FliD) (vR : Value) (lw ls lc : Int) (li lb : Bool) (t : Int) (w : World) (h : FliAt w v vN M vF vS P lt tt F vR lw ls lc li lb) (hn : F.nums = true) (ht : -1000000 ≤ t ∧ t ≤ 1000000) :
  Calls Tryz.prog 67 #[v, .int .i64 t] w fun e w' => e = .returned (.bool (F.lasts t)) ∧ RowKit.Below w.heap.size w w' := by
 obtain ⟨gx, vA, rfl, h1, -, -, -, -⟩ := h
 obtain ⟨hm, hd, hf, hr, hb⟩ := FliD.nums_iff.1 hn
 have x2 := h1.cell 2
 have x3 := h1.cell 3
 have x4 := h1.cell 4
 have x5 := h1.cell 5
 simp only [gtA, gtS, gtZ] at x2 x3 x4 x5
 unfold FliD.lasts
 generalize F.dep = dp at *
 generalize F.fuel = fu at *
 generalize F.burn = bu at *
 generalize F.res = re at *
 have hw1 : IntKind.i64.wrap (t - dp) = t - dp := by rw [IntKind.wrap_i64]; omega
 have hD : -1002000 ≤ t - dp ∧ t - dp ≤ 1002000 := by omega
 have hbd := mul_bd (A := 100000) (B := 1002000) (a := bu) (b := t - dp) (by omega) (by omega) hD.1 hD.2
 have hw2 : IntKind.i64.wrap (bu * (t - dp)) = bu * (t - dp) := by rw [IntKind.wrap_i64]; omega
 have hw3 : IntKind.i64.wrap (fu - bu * (t - dp)) = fu - bu * (t - dp) := by rw [IntKind.wrap_i64]; omega
 clear hbd hD hm hd hf hr hb ht hn h1
 go_enter Tryz.func67, Tryz.ntmps67
 go_wp2_with (fail)
 (refine wp_region_drawnt 25 (by kernel_rfl) (by kernel_rfl) ?_; simp only [List.take_succ_cons, List.take_zero, List.drop_succ_cons, List.drop_zero]; (repeat (go_big_quiet_step ( fail))); refine wpQuiet_nil ?_; rintro _ ⟨nq, rfl⟩)
 go_wp2_with (fail)
 go_ret
 exact ⟨ret_bool (by simp), bdn (RowKit.Below.refl _ _) _⟩
end Go.Proofs.YtlabfpjlckdmfaaGreat

namespace Go.Proofs.YtlabfpjlckdmfaaGreat
open Go Go.RowKit Go.Proofs
def rlxV (u v x : Int) : Int := if 0 ≤ u ∧ 0 ≤ v then (if x < 0 ∨ u + v < x then u + v else x) else x
theorem rlxV_r (x : Int) : rlxV x 0 x = x := by unfold rlxV; split <;> (try split) <;> omega
theorem rlxV_l (x : Int) : rlxV 0 x x = x := by unfold rlxV; split <;> (try split) <;> omega
theorem flB_at {t : Tab} {y a : Nat} (h0 : t y y = 0) : ∀ b i j, flB y a b t i j = if i = a ∧ j < b then rlxV (t a y) (t y j) (t a j) else t i j
 | 0, i, j => by rw [if_neg (by omega)]; rfl
 | b + 1, i, j => by
  have e1 : flB y a b t a y = t a y := by
   rw [flB_at h0 b a y]
   split
   ·rw [h0]; exact rlxV_r _
   ·rfl
  have e2 : flB y a b t y b = t y b := by rw [flB_at h0 b y b, if_neg (by omega)]
  have e3 : flB y a b t a b = t a b := by rw [flB_at h0 b a b, if_neg (by omega)]
  have hs : flS (flB y a b t) y a b i j = if i = a ∧ j = b then rlxV (t a y) (t y b) (t a b) else flB y a b t i j := by
   unfold flS stpT rlxV
   rw [e1, e2]
   by_cases q : i = a ∧ j = b
   ·obtain ⟨rfl, rfl⟩ := q
    rw [if_pos (show i = i ∧ j = j from ⟨rfl, rfl⟩)]
    split
    ·show (if i = i ∧ j = j then _ else _) = _
     rw [if_pos (show i = i ∧ j = j from ⟨rfl, rfl⟩), e3]
    ·exact e3
   ·rw [if_neg q]
    split
    ·show (if i = a ∧ j = b then _ else _) = _
     rw [if_neg q]
    ·rfl
  refine hs.trans ?_
  by_cases q : i = a ∧ j = b
  ·rw [if_pos q, if_pos (show i = a ∧ j < b + 1 by omega), q.2]
  ·rw [if_neg q, flB_at h0 b i j]
   by_cases q2 : i = a ∧ j < b
   ·rw [if_pos q2, if_pos (show i = a ∧ j < b + 1 by omega)]
   ·rw [if_neg q2, if_neg (show ¬ (i = a ∧ j < b + 1) by omega)]
theorem flA_at {t : Tab} {y n : Nat} (hy : y < n) (h0 : t y y = 0) : ∀ a i j, j < n → flA n y a t i j = if i < a then rlxV (t i y) (t y j) (t i j) else t i j
 | 0, i, j, _ => by rw [if_neg (by omega)]; rfl
 | a + 1, i, j, hj => by
  have row : ∀ j, j < n → flA n y a t y j = t y j := fun j hj => by
   rw [flA_at hy h0 a y j hj]
   split
   ·rw [h0]; exact rlxV_l _
   ·rfl
  have e1 : flA n y a t a y = t a y := by rw [flA_at hy h0 a a y hy, if_neg (by omega)]
  show flB y a n (flA n y a t) i j = _
  rw [flB_at (by rw [row y hy]; exact h0) n i j, e1, row j hj]
  by_cases q : i = a
  ·subst q
   rw [if_pos ⟨rfl, hj⟩, if_pos (by omega), flA_at hy h0 i i j hj, if_neg (by omega)]
  ·rw [if_neg (fun h => q h.1), flA_at hy h0 a i j hj]
   by_cases q2 : i < a
   ·rw [if_pos q2, if_pos (by omega)]
   ·rw [if_neg q2, if_neg (by omega)]
structure TriT (n k : Nat) (t0 t : Tab) : Prop where
 lo : ∀ i j, i < n → j < n → -1 ≤ t i j
 dg : ∀ i, i < n → t i i = 0
 off : ∀ i j, i < n → j < n → i ≠ j → t i j ≠ 0
 sym : ∀ i j, i < n → j < n → t i j = t j i
 tri : ∀ i j c, i < n → j < n → c < k → c < n → 0 ≤ t i c → 0 ≤ t c j → 0 ≤ t i j ∧ t i j ≤ t i c + t c j
 leg : ∀ i j, i < n → j < n → 0 ≤ t0 i j → 0 ≤ t i j ∧ t i j ≤ t0 i j
theorem rlxV_cases (u v x : Int) (hx : -1 ≤ x) : (0 ≤ u ∧ 0 ≤ v ∧ (x < 0 ∨ u + v < x) ∧ rlxV u v x = u + v) ∨ ((u < 0 ∨ v < 0 ∨ 0 ≤ x ∧ x ≤ u + v) ∧ rlxV u v x = x) := by
 unfold rlxV
 split
 ·split
  ·left; omega
  ·right; omega
 ·right; omega
theorem TriT.step {n k : Nat} {t0 t : Tab} (h : TriT n k t0 t) (hk : k < n) : TriT n (k + 1) t0 (flA n k n t) := by
 have hA : ∀ i j, i < n → j < n → flA n k n t i j = rlxV (t i k) (t k j) (t i j) := fun i j hi hj => by
  rw [flA_at hk (h.dg k hk) n i j hj, if_pos hi]
 have hC := fun i j (hi : i < n) (hj : j < n) => rlxV_cases (t i k) (t k j) (t i j) (h.lo i j hi hj)
 refine ⟨fun i j hi hj => ?_, fun i hi => ?_, fun i j hi hj hne => ?_, fun i j hi hj => ?_, fun i j c hi hj hc hcn => ?_, fun i j hi hj h0 => ?_⟩
 ·rw [hA i j hi hj]
  have := h.lo i j hi hj
  rcases hC i j hi hj with q | q <;> omega
 ·rw [hA i i hi hi]
  have := h.dg i hi
  have := h.lo i k hi hk
  have := h.lo k i hk hi
  rcases hC i i hi hi with q | q <;> omega
 ·rw [hA i j hi hj]
  have h1 := h.off i j hi hj hne
  by_cases q1 : i = k
  ·subst q1
   have := h.dg i hi
   rcases hC i j hi hj with q | q <;> omega
  ·have h2 := h.off i k hi hk q1
   rcases hC i j hi hj with q | q <;> omega
 ·rw [hA i j hi hj, hA j i hj hi, h.sym i k hi hk, h.sym k j hk hj, h.sym i j hi hj]
  have d1 := h.lo j i hj hi
  rcases rlxV_cases (t k i) (t j k) (t j i) d1 with q | q <;> rcases rlxV_cases (t j k) (t k i) (t j i) d1 with p | p <;> omega
 ·rw [hA i j hi hj, hA i c hi hcn, hA c j hcn hj]
  have d1 := h.lo i j hi hj
  have d2 := h.dg k hk
  have l1 := h.lo i c hi hcn
  have l2 := h.lo c j hcn hj
  by_cases q1 : c = k
  ·subst q1
   have e1 : rlxV (t i c) (t c c) (t i c) = t i c := by rw [d2]; exact rlxV_r _
   have e2 : rlxV (t c c) (t c j) (t c j) = t c j := by rw [d2]; exact rlxV_l _
   rw [e1, e2]
   rcases hC i j hi hj with q | q <;> omega
  ·have k1 := h.tri i j c hi hj (by omega) hcn
   have k2 := h.tri i k c hi hk (by omega) hcn
   have k3 := h.tri k j c hk hj (by omega) hcn
   rcases hC i j hi hj with q | q <;> rcases hC i c hi hcn with p | p <;> rcases hC c j hcn hj with r | r <;> omega
 ·rw [hA i j hi hj]
  have h1 := h.leg i j hi hj h0
  rcases hC i j hi hj with q | q <;> omega
theorem TriT.all {n : Nat} {t0 : Tab} (h : TriT n 0 t0 t0) : ∀ k, k ≤ n → TriT n k t0 (flO n k t0)
 | 0, _ => h
 | k + 1, hk => TriT.step (TriT.all h k (by omega)) (by omega)
end Go.Proofs.YtlabfpjlckdmfaaGreat
