/- Texts joined: JAQ. -/
import Derived.Test.YtlabfpjlckdmfaaGreatJAP
set_option linter.all false
namespace Go.Proofs.YtlabfpjlckdmfaaGreat
open Go Go.RowKit Go.Proofs
set_option maxRecDepth 100000
set_option maxHeartbeats 8000000
def FliD.legB (F : FliD) (lt : Tab) : Bool := (List.range (F.m - 1)).all (fun j => decide (0 ≤ lt (F.R j).toNat (F.R (j + 1)).toNat))
theorem FliD.legB_iff {F : FliD} {lt : Tab} : F.legB lt = true ↔ ∀ j, j + 1 < F.m → 0 ≤ lt (F.R j).toNat (F.R (j + 1)).toNat := by
 unfold FliD.legB
 simp only [List.all_eq_true, List.mem_range, decide_eq_true_eq]
 exact ⟨fun h j hj => h j (by omega), fun h j hj => h j (by omega)⟩
def flR (gF : Nat) (l vs p1 p2 : Value) (j : Nat) (a b L : Int) : Nat → Value → World → Prop
 | 0, v, _ => v = l
 | 1, v, _ => v = .pointer (some ⟨gF, 0, none⟩)
 | 2, v, _ => v = vs
 | 3, v, _ => v = .int .i64 ((j + 1 : Nat) : Int)
 | 4, v, _ => v = .int .i64 (j : Int)
 | 5, v, _ => v = p1
 | 6, v, _ => v = .int .i64 a
 | 7, v, _ => v = .pointer (some ⟨gF, 0, none⟩)
 | 8, v, _ => v = vs
 | 9, v, _ => v = .int .i64 ((j + 1 : Nat) : Int)
 | 10, v, _ => v = p2
 | 11, v, _ => v = .int .i64 b
 | 12, v, _ => v = .int .i64 L
 | _, _, _ => True
theorem flR_below {gF : Nat} {l vs p1 p2 : Value} {j : Nat} {a b L : Int} (k : Nat) (v : Value) (w w' : World) (hb : Below w.heap.size w w') (h : flR gF l vs p1 p2 j a b L k v w) : flR gF l vs p1 p2 j a b L k v w' := by
 unfold flR at *
 split at h <;> first | exact h
structure FwK (F : FliD) (vR : Value) (lt : Tab) (i : Nat) (vA : Value) (w wr : World) : Prop where
 b : RowKit.Below w.heap.size w wr
 f : Blk wr w.heap.size 37 #[vR, .int .i64 F.dep, .int .i64 F.fuel, .int .i64 F.burn, .int .i64 F.res]
 o : wr.ownsRow w.heap.size 3 1 vA i ((List.range i).map fun j => .int .i64 (F.at_ lt j))
theorem FwK.below {F : FliD} {vR : Value} {lt : Tab} {i : Nat} {vA : Value} {w wr w2 : World} (h : FwK F vR lt i vA w wr) (hb : RowKit.Below wr.heap.size wr w2) : FwK F vR lt i vA w w2 :=
 ⟨bthen h.b hb, h.f.below hb, ownsRow_below h.o hb⟩
theorem FwK.step {F : FliD} {vR : Value} {lt : Tab} {i : Nat} {vA vB : Value} {w wr w1 w2 : World} (h : FwK F vR lt i vA w wr) (hb : RowKit.Below wr.heap.size wr w1) (ho : w2.ownsRow w.heap.size 3 1 vB (i + 1) ((List.range i).map (fun j => .int .i64 (F.at_ lt j)) ++ [.int .i64 (F.at_ lt i)]))
  (hg : w1.grownBy w2 vA.ownBlock) : FwK F vR lt (i + 1) vB w w2 := by
 have h1 := h.below hb
 have hvo : ∀ b, some b = vA.ownBlock → w.heap.size ≤ b := fun b q => (ownLt h1.o q).1
 refine ⟨h1.b.trans (belowGrew hg h1.b.size hvo), h1.f.grew hg (own_blk_ne h1.o h1.f (by decide)), ?_⟩
 rw [show (List.range (i + 1)).map (fun j => Value.int .i64 (F.at_ lt j)) = (List.range i).map (fun j => .int .i64 (F.at_ lt j)) ++ [.int .i64 (F.at_ lt i)] by rw [List.range_succ, List.map_append]; rfl]
 exact ho
theorem FwK.sl {F : FliD} {vR : Value} {lt : Tab} {vA : Value} {w wr : World} {i : Nat} (h : FwK F vR lt i vA w wr) (hi : i = F.m) : SlI wr vA F.m (F.at_ lt) := by
 subst hi
 have ho := h.o
 obtain ⟨A2, c2, e1, e2, e3, e4⟩ := RecsAt.of_owns (V := nL (F.at_ lt)) (by omega) (show wr.ownsRow w.heap.size 3 1 vA F.m ((List.range (F.m * 1)).map fun q => nL (F.at_ lt) (q / 1) (q % 1)) from by
  rw [show ((List.range (F.m * 1)).map fun q => nL (F.at_ lt) (q / 1) (q % 1)) = (List.range F.m).map fun j => Value.int .i64 (F.at_ lt j) by
   rw [Nat.mul_one]
   refine List.map_congr_left fun q _ => ?_
   show Value.int .i64 (F.at_ lt (q / 1)) = _
   rw [Nat.div_one]]
  exact ho)
 exact ⟨A2, c2, e1, e2, e3, e4⟩
theorem owns_one (w : World) (x : Value) (T : TypeId) : (w.alloc (.cells #[x] T)).ownsRow w.heap.size T 1 (.slice (some ⟨w.heap.size, 0, none⟩) 1 1) 1 [x] :=
 ⟨by simp, .inr ⟨w.heap.size, 1, #[x], rfl, Nat.le_refl _, Blk.new w T #[x], Nat.le_refl _, by decide, by simp, by simp⟩⟩
theorem r5flown_c (A : Option Addr) (n c : Nat) (S : Tab) (P : Nat) (F : FliD) (vR : Value) (w : World) (hc1 : n ≤ c) (hc2 : c ≤ 9223372036854775807) (hL : RecsAt w A n 3 (nV S)) (hR : SlI w vR F.m F.R) (hN : NetOk P S n) (hm : 1 ≤ F.m ∧ F.m ≤ 8) (hd : 0 ≤ F.dep ∧ F.dep ≤ 2000) (hP : ∀ j, j < F.m → 0 ≤ F.R j ∧ F.R j < P) :
  Calls Tryz.prog 54 #[.slice A n c, .agg #[vR, .int .i64 F.dep, .int .i64 F.fuel, .int .i64 F.burn, .int .i64 F.res]] w fun e w' => ∃ v, e = .returned (.tuple #[v, .bool (F.legB (lgT S n))]) ∧ RowKit.Below w.heap.size w w' ∧ (F.legB (lgT S n) = true → SlI w' v F.m (F.at_ (lgT S n))) := by
 have HL := hI9 hL
 have HNK := hI9 hN
 obtain ⟨AR, cR, rfl, r1, r2, hR⟩ := hR
 obtain ⟨bR, oR, rfl, hbR, hcR⟩ := hR (by omega)
 have HCR := hI9 hcR
 have hl : LegIn P (lgT S n) := fun i j => by have := lgT_in hN n (Nat.le_refl _) i j; omega
 have HLI := hI9 hl
 clear hL hN hR hcR hl
 obtain ⟨Q, hQ⟩ : ∃ q, q = F.legB (lgT S n) := ⟨_, rfl⟩
 rw [← hQ]
 have HQ := hI9 hQ
 clear hQ
 go_enter Tryz.func54, Tryz.ntmps54
 go_wp2_with (fail)
 have K0 := hI9 (show FwK F (.slice (some ⟨bR, oR, none⟩) F.m cR) (lgT S n) 1 (.slice (some ⟨w.heap.size + 1, 0, none⟩) 1 1) w ((w.alloc (.cells #[.slice (some ⟨bR, oR, none⟩) F.m cR, .int .i64 F.dep, .int .i64 F.fuel, .int .i64 F.burn, .int .i64 F.res] 37)).alloc (.cells #[.int .i64 F.dep] 3)) from ⟨bal (bal (RowKit.Below.refl _ _) _) _, (Blk.new _ _ _).alloc _, by
  have := owns_one (w.alloc (.cells #[.slice (some ⟨bR, oR, none⟩) F.m cR, .int .i64 F.dep, .int .i64 F.fuel, .int .i64 F.burn, .int .i64 F.res] 37)) (.int .i64 F.dep) 3
  rw [World.size_alloc] at this
  exact ownsRow_base this (by omega)⟩)
 generalize (w.alloc (.cells #[.slice (some ⟨bR, oR, none⟩) F.m cR, .int .i64 F.dep, .int .i64 F.fuel, .int .i64 F.burn, .int .i64 F.res] 37)).alloc (.cells #[.int .i64 F.dep] 3) = wX at *
 generalize w.heap.size + 1 = gX at K0 ⊢
 go_loopg [6, 7] F.m (fun gy v iv wr => ∃ j : Nat, iv = .int .i64 ((j + 1 : Nat) : Int) ∧ j + 1 ≤ F.m ∧ F.m - (j + 1) ≤ gy ∧ Hid (F.flown P (lgT S n) (j + 1)) ∧ Hid (FwK F (.slice (some ⟨bR, oR, none⟩) F.m cR) (lgT S n) (j + 1) v w wr))
 case atStart => exact ⟨0, rfl, by omega, by omega, hI9 ⟨fun j hj => hP j (by omega), fun j hj => by omega⟩, K0⟩
 case round =>
  clear K0
  obtain ⟨j, rfl, hj, hgy, HFL, K0⟩ := hrel
  have f0 := K0.out.f.cell 0
  simp only [gtA, gtS, gtZ] at f0
  obtain ⟨kv, cv, rfl⟩ := owns_form K0.out.o
  by_cases hlt : j + 1 < F.m
  case neg =>
   have hjm : F.m = j + 1 := by omega
   have hnl : ¬ ((j + 1 : Nat) : Int) < (F.m : Int) := by omega
   have HSL := hI9 (show SlI wr (.slice (some ⟨kv, 0, none⟩) (j + 1) cv) F.m (F.at_ (lgT S n)) from FwK.sl K0.out hjm.symm)
   have HQT := hI9 (show Q = true from HQ.out.trans (FliD.legB_iff.2 fun k hk => HFL.out.2 k (by omega)))
   have HB := hI9 K0.out.b
   clear K0 hjm
   go_wp2_with (fail)
   go_ret2
   exact ⟨.slice (some ⟨kv, 0, none⟩) (j + 1) cv, by rw [HQT.out]; rfl, HB.out, fun _ => HSL.out⟩
  have hltz : ((j + 1 : Nat) : Int) < (F.m : Int) := by omega
  have hltz2 : (j : Int) + 1 < (F.m : Int) := by omega
  obtain ⟨a, ha⟩ : ∃ a : Nat, F.R j = a := Int.eq_ofNat_of_zero_le (hP j (by omega)).1
  obtain ⟨b, hb⟩ : ∃ b : Nat, F.R (j + 1) = b := Int.eq_ofNat_of_zero_le (hP (j + 1) hlt).1
  have HLE := hI9 (show lgT S n (F.R j).toNat (F.R (j + 1)).toNat = lgT S n a b by rw [ha, hb]; rfl)
  have HLG := hI9 (show legK S a b n = lgT S n a b from (lgT_leg HNK.out a b n (Nat.le_refl _)).symm)
  have HAB := hI9 (And.intro ha hb)
  have hL := HLI.out a b
  have hD := FliD.at_in HLI.out hd j HFL.out
  have HA1 := hI9 (show F.at_ (lgT S n) (j + 1) = F.at_ (lgT S n) j + lgT S n a b from by
   show F.at_ (lgT S n) j + lgT S n (F.R j).toNat (F.R (j + 1)).toNat = _
   rw [ha, hb]; rfl)
  have HC1 := hI9 (fun (w1 : World) (h : RowKit.Below w.heap.size w w1) => show w1.cell? ⟨bR, oR + j, none⟩ = some (.int .i64 (a : Int)) from by
   rw [← ha]
   exact (h.cell (p := ⟨bR, oR + j, none⟩) hbR).trans (by have := HCR.out j (by omega) 0 (by omega); rw [Nat.mul_one, Nat.add_zero] at this; exact this))
  have HC2 := hI9 (fun (w1 : World) (h : RowKit.Below w.heap.size w w1) => show w1.cell? ⟨bR, oR + (j + 1), none⟩ = some (.int .i64 (b : Int)) from by
   rw [← hb]
   exact (h.cell (p := ⟨bR, oR + (j + 1), none⟩) hbR).trans (by have := HCR.out (j + 1) (by omega) 0 (by omega); rw [Nat.mul_one, Nat.add_zero] at this; exact this))
  clear ha hb
  generalize hLv : lgT S n a b = L at *
  clear hLv
  go_wp2_with (fail)
  refine wp_region_spec 13 (flR w.heap.size (.slice A n c) (.slice (some ⟨bR, oR, none⟩) F.m cR) (.pointer (some ⟨bR, oR + j, none⟩)) (.pointer (some ⟨bR, oR + (j + 1), none⟩)) j (a : Int) (b : Int) L) (fun i => false) (by kernel_rfl) (by kernel_rfl) flR_below ?hop1 ?htail1
  case hop1 =>
   simp only [List.take_succ_cons, List.take_zero, allOps]
   refine ⟨?_, ?_, ?_, ?_, ?_, ?_, ?_, ?_, ?_, ?_, ?_, ?_, ?_, trivial⟩
   all_goals intro u A w1 hA hb hd
   all_goals simp only [putAll, dstOf, gtA, gtS, gtZ, Option.bind_some, Option.bind, Act.put, List.setIfInBounds_toArray, List.set_cons_succ, List.set_cons_zero] at hA; subst hA
   all_goals have HB1 := hI9 hb
   ·clear hb hd
    go_wp2
    exact ⟨_, rfl, Below.refl _ _, rfl, fun h => absurd h (by decide)⟩
   ·clear hb hd
    go_wp2
    exact ⟨_, rfl, Below.refl _ _, rfl, fun h => absurd h (by decide)⟩
   ·have d1 : u 1 = _ := hd 1 (by omega) (by kernel_rfl)
    clear hb hd
    rw [d1]
    clear d1
    have f0 := (K0.out.f.below HB1.out).cell 0
    simp only [List.getElem?_toArray, List.getElem?_cons_zero] at f0
    go_wp2
    exact ⟨_, rfl, Below.refl _ _, rfl, fun h => absurd h (by decide)⟩
   ·clear hb hd
    go_wp2
    exact ⟨_, rfl, Below.refl _ _, rfl, fun h => absurd h (by decide)⟩
   ·have d3 : u 3 = _ := hd 3 (by omega) (by kernel_rfl)
    clear hb hd
    rw [d3]
    clear d3
    go_wp2
    exact ⟨_, rfl, RowKit.Below.refl _ _, (by first | rfl | go_num | (congr 1; omega)), fun h => absurd h (by decide)⟩
   ·have d2 : u 2 = _ := hd 2 (by omega) (by kernel_rfl)
    have d4 : u 4 = _ := hd 4 (by omega) (by kernel_rfl)
    clear hb hd
    rw [d2, d4]
    clear d2 d4
    go_wp2
    exact ⟨_, rfl, Below.refl _ _, rfl, fun h => absurd h (by decide)⟩
   ·have d5 : u 5 = _ := hd 5 (by omega) (by kernel_rfl)
    clear hb hd
    rw [d5]
    clear d5
    have cr := HC1.out _ (bthen K0.out.b HB1.out)
    go_wp2
    exact ⟨_, rfl, Below.refl _ _, rfl, fun h => absurd h (by decide)⟩
   ·clear hb hd
    go_wp2
    exact ⟨_, rfl, Below.refl _ _, rfl, fun h => absurd h (by decide)⟩
   ·have d7 : u 7 = _ := hd 7 (by omega) (by kernel_rfl)
    clear hb hd
    rw [d7]
    clear d7
    have f0 := (K0.out.f.below HB1.out).cell 0
    simp only [List.getElem?_toArray, List.getElem?_cons_zero] at f0
    go_wp2
    exact ⟨_, rfl, Below.refl _ _, rfl, fun h => absurd h (by decide)⟩
   ·clear hb hd
    go_wp2
    exact ⟨_, rfl, Below.refl _ _, rfl, fun h => absurd h (by decide)⟩
   ·have d8 : u 8 = _ := hd 8 (by omega) (by kernel_rfl)
    have d9 : u 9 = _ := hd 9 (by omega) (by kernel_rfl)
    clear hb hd
    rw [d8, d9]
    clear d8 d9
    go_wp2
    exact ⟨_, rfl, Below.refl _ _, rfl, fun h => absurd h (by decide)⟩
   ·have d10 : u 10 = _ := hd 10 (by omega) (by kernel_rfl)
    clear hb hd
    rw [d10]
    clear d10
    have cr := HC2.out _ (bthen K0.out.b HB1.out)
    go_wp2
    exact ⟨_, rfl, Below.refl _ _, rfl, fun h => absurd h (by decide)⟩
   ·have d0 : u 0 = _ := hd 0 (by omega) (by kernel_rfl)
    have d6 : u 6 = _ := hd 6 (by omega) (by kernel_rfl)
    have d11 : u 11 = _ := hd 11 (by omega) (by kernel_rfl)
    clear hb hd
    rw [d0, d6, d11]
    clear d0 d6 d11
    go_wp2_with (go_at_call 59; (with_reducible refine (r5leg_c A n c S a b _ hc1 hc2 ((HL.out.below K0.out.b).below HB1.out)).mono ?_); rintro e w2 ⟨rfl, hb2⟩)
    exact ⟨_, rfl, hb2, (by rw [HLG.out]; rfl), fun h => absurd h (by decide)⟩
  case htail1 =>
   intro u A w1 hA hb hd hf
   simp only [putAll, dstOf, gtA, gtS, gtZ, Option.bind_some, Option.bind, Act.put, List.setIfInBounds_toArray, List.set_cons_succ, List.set_cons_zero] at hA; subst hA
   have e0 : u 0 = _ := hd 0 (by omega)
   have e1 : u 1 = _ := hd 1 (by omega)
   have e2 : u 2 = _ := hd 2 (by omega)
   have e3 : u 3 = _ := hd 3 (by omega)
   have e4 : u 4 = _ := hd 4 (by omega)
   have e5 : u 5 = _ := hd 5 (by omega)
   have e6 : u 6 = _ := hd 6 (by omega)
   have e7 : u 7 = _ := hd 7 (by omega)
   have e8 : u 8 = _ := hd 8 (by omega)
   have e9 : u 9 = _ := hd 9 (by omega)
   have e10 : u 10 = _ := hd 10 (by omega)
   have e11 : u 11 = _ := hd 11 (by omega)
   have e12 : u 12 = _ := hd 12 (by omega)
   first | rw [e0, e1, e2, e3, e4, e5, e6, e7, e8, e9, e10, e11, e12] | simp only [e0, e1, e2, e3, e4, e5, e6, e7, e8, e9, e10, e11, e12]
   clear e0 e1 e2 e3 e4 e5 e6 e7 e8 e9 e10 e11 e12
   clear hd hf
   have nK := hI9 (K0.out.below hb)
   clear K0 hb f0
   have K0 := nK
   clear nK
   have cA : w1.cell? ⟨kv, j, none⟩ = some (.int .i64 (F.at_ (lgT S n) j)) := by
    have := K0.out.o.cellAt (g := kv) j (by omega)
    rw [this]
    simp
   by_cases hLn : L < 0
   ·have HQT := hI9 (show Q = false from HQ.out.trans (by
     cases e : F.legB (lgT S n)
     ·rfl
     ·have := FliD.legB_iff.1 e j hlt
      rw [HLE.out] at this
      omega))
    have HB := hI9 K0.out.b
    clear K0 cA
    go_wp2_with (fail)
    (try dsimp only [NoPanic])
    go_wp2_with (fail)
    go_ret2
    exact ⟨.slice none 0 0, by rw [HQT.out]; rfl, HB.out, fun h => by rw [HQT.out] at h; cases h⟩
   have HF1 := hI9 (show F.flown P (lgT S n) (j + 2) from ⟨fun k hk => hP k (by omega), fun k hk => by
    by_cases e : k = j
    ·subst e; rw [HLE.out]; omega
    ·exact HFL.out.2 k (by omega)⟩)
   generalize F.at_ (lgT S n) j = D at *
   go_wp2_with (at_builtin; refine wpl_appT rfl _ _ rfl w.heap.size _ (j + 1) _ rfl (ownsRow_below K0.out.o (bal (RowKit.Below.refl _ _) _)) w1.heap.size (.int .i64 (D + L)) rfl ?a1 rfl (by omega) ?b1 ?_)
   (try case a1 => exact (Blk.new _ _ _).cell 0)
   case b1 => have := K0.out.b.size; simp; omega
   intro v' w3 ho hg
   have nK := hI9 (FwK.step K0.out (bal (RowKit.Below.refl _ _) _) (by rw [HA1.out]; first | exact ho.out | simpa [List.range_succ] using ho.out) hg.out)
   clear K0 ho hg cA
   go_wp2_with (fail)
   (try dsimp only [NoPanic])
   go_wp2_with (fail)
   go_roundg (F.m - (j + 2))
   case measure => omega
   case rel => exact ⟨j + 1, by first | rfl | go_num | (congr 1; omega), by omega, by omega, HF1, nK⟩
end Go.Proofs.YtlabfpjlckdmfaaGreat

namespace Go.Proofs.YtlabfpjlckdmfaaGreat
open Go Go.RowKit Go.Proofs
set_option maxRecDepth 100000
set_option maxHeartbeats 8000000
theorem r5right_c (M : MetD) (vF vS : Value) (A : Option Addr) (n c : Nat) (S : Tab) (P : Nat) (F : FliD) (vR : Value) (w : World) (hc1 : n ≤ c) (hc2 : c ≤ 9223372036854775807) (hL : RecsAt w A n 3 (nV S)) (hR : SlI w vR F.m F.R) (hN : NetOk P S n) (hP : M.places = P) (hp8 : 1 ≤ P ∧ P ≤ 8) :
  Calls Tryz.prog 26 #[.agg #[.int .i64 M.places, .int .i64 M.any.a0, .int .i64 M.any.a1, .int .i64 M.any.a2, .int .i64 M.any.a3, .int .i64 M.any.a4, .int .i64 M.any.a5, .bool M.any.i, .bool M.any.s, .int .i64 M.mw, .int .i64 M.ms, .int .i64 M.mc, vF, vS], .slice A n c, .agg #[vR, .int .i64 F.dep, .int .i64 F.fuel, .int .i64 F.burn, .int .i64 F.res]] w fun e w' => e = .returned (.bool (F.okB P (lgT S n))) ∧ RowKit.Below w.heap.size w w' := by
 have HL := hI9 hL
 have HR0 := hI9 hR
 have HNK := hI9 hN
 have HP := hI9 hP
 obtain ⟨AR, cR, rfl, r1, r2, hR⟩ := hR
 have HR := hI9 hR
 clear hL hN hR hP
 obtain ⟨Q, hQ⟩ : ∃ q, q = F.okB P (lgT S n) := ⟨_, rfl⟩
 rw [← hQ]
 have HQ := hI9 hQ
 clear hQ
 cases b1 : inB (F.m : Int) 1 8
 case false =>
  have HNO := hI9 (show Q = false from HQ.out.trans (by
   cases e : F.okB P (lgT S n)
   ·rfl
   ·have := (FliD.okB_iff.1 e).1; unfold FliD.nums at this; simp [b1] at this))
  go_enter Tryz.func26, Tryz.ntmps26
  go_wp2_with (fail)
  have _x := frm2 w #[.int .i64 M.places, .int .i64 M.any.a0, .int .i64 M.any.a1, .int .i64 M.any.a2, .int .i64 M.any.a3, .int .i64 M.any.a4, .int .i64 M.any.a5, .bool M.any.i, .bool M.any.s, .int .i64 M.mw, .int .i64 M.ms, .int .i64 M.mc, vF, vS] 29 #[(.slice AR F.m cR), .int .i64 F.dep, .int .i64 F.fuel, .int .i64 F.burn, .int .i64 F.res] 37
  have HX := hI9 _x.1
  have HF := hI9 _x.2.1
  have HB := hI9 _x.2.2.1
  have zW := _x.2.2.2
  clear _x
  generalize World.alloc (World.alloc w _) _ = W at *
  have hx0 := HF.out.cell 0
  have hx1 := HF.out.cell 1
  have hx2 := HF.out.cell 2
  have hx3 := HF.out.cell 3
  have hx4 := HF.out.cell 4
  simp only [gtA, gtS, gtZ] at hx0 hx1 hx2 hx3 hx4
  go_wp2_with (first | (go_at_call 20; (with_reducible refine (r5within_c _ _ _ _).mono ?_); rintro e w1 ⟨rfl, rfl⟩))
  go_ret
  exact ⟨by rw [HNO.out]; rfl, HB.out⟩
 cases b2 : inB F.dep 0 2000
 case false =>
  have HNO := hI9 (show Q = false from HQ.out.trans (by
   cases e : F.okB P (lgT S n)
   ·rfl
   ·have := (FliD.okB_iff.1 e).1; unfold FliD.nums at this; simp [b2] at this))
  go_enter Tryz.func26, Tryz.ntmps26
  go_wp2_with (fail)
  have _x := frm2 w #[.int .i64 M.places, .int .i64 M.any.a0, .int .i64 M.any.a1, .int .i64 M.any.a2, .int .i64 M.any.a3, .int .i64 M.any.a4, .int .i64 M.any.a5, .bool M.any.i, .bool M.any.s, .int .i64 M.mw, .int .i64 M.ms, .int .i64 M.mc, vF, vS] 29 #[(.slice AR F.m cR), .int .i64 F.dep, .int .i64 F.fuel, .int .i64 F.burn, .int .i64 F.res] 37
  have HX := hI9 _x.1
  have HF := hI9 _x.2.1
  have HB := hI9 _x.2.2.1
  have zW := _x.2.2.2
  clear _x
  generalize World.alloc (World.alloc w _) _ = W at *
  have hx0 := HF.out.cell 0
  have hx1 := HF.out.cell 1
  have hx2 := HF.out.cell 2
  have hx3 := HF.out.cell 3
  have hx4 := HF.out.cell 4
  simp only [gtA, gtS, gtZ] at hx0 hx1 hx2 hx3 hx4
  go_wp2_with (first | (go_at_call 20; (with_reducible refine (r5within_c _ _ _ _).mono ?_); rintro e w1 ⟨rfl, rfl⟩))
  go_ret
  exact ⟨by rw [HNO.out]; rfl, HB.out⟩
 cases b3 : inB F.fuel 0 100000
 case false =>
  have HNO := hI9 (show Q = false from HQ.out.trans (by
   cases e : F.okB P (lgT S n)
   ·rfl
   ·have := (FliD.okB_iff.1 e).1; unfold FliD.nums at this; simp [b3] at this))
  go_enter Tryz.func26, Tryz.ntmps26
  go_wp2_with (fail)
  have _x := frm2 w #[.int .i64 M.places, .int .i64 M.any.a0, .int .i64 M.any.a1, .int .i64 M.any.a2, .int .i64 M.any.a3, .int .i64 M.any.a4, .int .i64 M.any.a5, .bool M.any.i, .bool M.any.s, .int .i64 M.mw, .int .i64 M.ms, .int .i64 M.mc, vF, vS] 29 #[(.slice AR F.m cR), .int .i64 F.dep, .int .i64 F.fuel, .int .i64 F.burn, .int .i64 F.res] 37
  have HX := hI9 _x.1
  have HF := hI9 _x.2.1
  have HB := hI9 _x.2.2.1
  have zW := _x.2.2.2
  clear _x
  generalize World.alloc (World.alloc w _) _ = W at *
  have hx0 := HF.out.cell 0
  have hx1 := HF.out.cell 1
  have hx2 := HF.out.cell 2
  have hx3 := HF.out.cell 3
  have hx4 := HF.out.cell 4
  simp only [gtA, gtS, gtZ] at hx0 hx1 hx2 hx3 hx4
  go_wp2_with (first | (go_at_call 20; (with_reducible refine (r5within_c _ _ _ _).mono ?_); rintro e w1 ⟨rfl, rfl⟩))
  go_ret
  exact ⟨by rw [HNO.out]; rfl, HB.out⟩
 cases b4 : inB F.res 0 100000
 case false =>
  have HNO := hI9 (show Q = false from HQ.out.trans (by
   cases e : F.okB P (lgT S n)
   ·rfl
   ·have := (FliD.okB_iff.1 e).1; unfold FliD.nums at this; simp [b4] at this))
  go_enter Tryz.func26, Tryz.ntmps26
  go_wp2_with (fail)
  have _x := frm2 w #[.int .i64 M.places, .int .i64 M.any.a0, .int .i64 M.any.a1, .int .i64 M.any.a2, .int .i64 M.any.a3, .int .i64 M.any.a4, .int .i64 M.any.a5, .bool M.any.i, .bool M.any.s, .int .i64 M.mw, .int .i64 M.ms, .int .i64 M.mc, vF, vS] 29 #[(.slice AR F.m cR), .int .i64 F.dep, .int .i64 F.fuel, .int .i64 F.burn, .int .i64 F.res] 37
  have HX := hI9 _x.1
  have HF := hI9 _x.2.1
  have HB := hI9 _x.2.2.1
  have zW := _x.2.2.2
  clear _x
  generalize World.alloc (World.alloc w _) _ = W at *
  have hx0 := HF.out.cell 0
  have hx1 := HF.out.cell 1
  have hx2 := HF.out.cell 2
  have hx3 := HF.out.cell 3
  have hx4 := HF.out.cell 4
  simp only [gtA, gtS, gtZ] at hx0 hx1 hx2 hx3 hx4
  go_wp2_with (first | (go_at_call 20; (with_reducible refine (r5within_c _ _ _ _).mono ?_); rintro e w1 ⟨rfl, rfl⟩))
  go_ret
  exact ⟨by rw [HNO.out]; rfl, HB.out⟩
 cases b5 : inB F.burn 1 100000
 case false =>
  have HNO := hI9 (show Q = false from HQ.out.trans (by
   cases e : F.okB P (lgT S n)
   ·rfl
   ·have := (FliD.okB_iff.1 e).1; unfold FliD.nums at this; simp [b5] at this))
  go_enter Tryz.func26, Tryz.ntmps26
  go_wp2_with (fail)
  have _x := frm2 w #[.int .i64 M.places, .int .i64 M.any.a0, .int .i64 M.any.a1, .int .i64 M.any.a2, .int .i64 M.any.a3, .int .i64 M.any.a4, .int .i64 M.any.a5, .bool M.any.i, .bool M.any.s, .int .i64 M.mw, .int .i64 M.ms, .int .i64 M.mc, vF, vS] 29 #[(.slice AR F.m cR), .int .i64 F.dep, .int .i64 F.fuel, .int .i64 F.burn, .int .i64 F.res] 37
  have HX := hI9 _x.1
  have HF := hI9 _x.2.1
  have HB := hI9 _x.2.2.1
  have zW := _x.2.2.2
  clear _x
  generalize World.alloc (World.alloc w _) _ = W at *
  have hx0 := HF.out.cell 0
  have hx1 := HF.out.cell 1
  have hx2 := HF.out.cell 2
  have hx3 := HF.out.cell 3
  have hx4 := HF.out.cell 4
  simp only [gtA, gtS, gtZ] at hx0 hx1 hx2 hx3 hx4
  go_wp2_with (first | (go_at_call 20; (with_reducible refine (r5within_c _ _ _ _).mono ?_); rintro e w1 ⟨rfl, rfl⟩))
  go_ret
  exact ⟨by rw [HNO.out]; rfl, HB.out⟩
 have HNU := hI9 (show F.nums = true by unfold FliD.nums; rw [b1, b2, b3, b4, b5]; rfl)
 go_enter Tryz.func26, Tryz.ntmps26
 go_wp2_with (fail)
 have _x := frm2 w #[.int .i64 M.places, .int .i64 M.any.a0, .int .i64 M.any.a1, .int .i64 M.any.a2, .int .i64 M.any.a3, .int .i64 M.any.a4, .int .i64 M.any.a5, .bool M.any.i, .bool M.any.s, .int .i64 M.mw, .int .i64 M.ms, .int .i64 M.mc, vF, vS] 29 #[(.slice AR F.m cR), .int .i64 F.dep, .int .i64 F.fuel, .int .i64 F.burn, .int .i64 F.res] 37
 have HX := hI9 _x.1
 have HF := hI9 _x.2.1
 have HB := hI9 _x.2.2.1
 have zW := _x.2.2.2
 clear _x
 generalize World.alloc (World.alloc w _) _ = W at *
 have hx0 := HF.out.cell 0
 have hx1 := HF.out.cell 1
 have hx2 := HF.out.cell 2
 have hx3 := HF.out.cell 3
 have hx4 := HF.out.cell 4
 simp only [gtA, gtS, gtZ] at hx0 hx1 hx2 hx3 hx4
 go_wp2_with (first | (go_at_call 20; (with_reducible refine (r5within_c _ _ _ _).mono ?_); rintro e w1 ⟨rfl, rfl⟩))
 have hnu := FliD.nums_iff.1 HNU.out
 clear b1 b2 b3 b4 b5 hx0 hx1 hx2 hx3 hx4
 go_loopg [7] F.m (fun gy iv wr => ∃ i : Nat, iv = .int .i64 i ∧ i ≤ F.m ∧ F.m - i ≤ gy ∧ Hid (∀ j, j < i → 0 ≤ F.R j ∧ F.R j < P) ∧ Hid (RowKit.Below w.heap.size w wr) ∧ Hid (Blk wr w.heap.size 29 #[.int .i64 M.places, .int .i64 M.any.a0, .int .i64 M.any.a1, .int .i64 M.any.a2, .int .i64 M.any.a3, .int .i64 M.any.a4, .int .i64 M.any.a5, .bool M.any.i, .bool M.any.s, .int .i64 M.mw, .int .i64 M.ms, .int .i64 M.mc, vF, vS]) ∧ Hid (Blk wr (w.heap.size + 1) 37 #[.slice AR F.m cR, .int .i64 F.dep, .int .i64 F.fuel, .int .i64 F.burn, .int .i64 F.res]))
 case atStart => exact ⟨0, rfl, Nat.zero_le _, Nat.le_refl _, hI9 (fun j hj => by omega), HB, HX, HF⟩
 case round =>
  clear HB HX HF
  obtain ⟨i, rfl, hi, hgy, HA, HB, HX, HF⟩ := hrel
  have hx0 := HF.out.cell 0
  have hm0 := HX.out.cell 0
  simp only [List.getElem?_toArray, List.getElem?_cons_zero] at hx0 hm0
  by_cases hlt : i < F.m
  case pos =>
   have hltz : (i : Int) < (F.m : Int) := by omega
   obtain ⟨bR, oR, rfl, hbR, hcR⟩ := HR.out (by omega)
   have cr : wr.cell? ⟨bR, oR + i, none⟩ = some (.int .i64 (F.R i)) := (HB.out.cell (p := ⟨bR, oR + i, none⟩) hbR).trans (by have := hcR i hlt 0 (by omega); rw [Nat.mul_one, Nat.add_zero] at this; exact this)
   rw [HP.out] at hm0
   have hpw : IntKind.i64.wrap ((P : Int) - 1) = (P : Int) - 1 := by rw [IntKind.wrap_i64]; omega
   clear hcR
   cases q1 : inB (F.R i) 0 ((P : Int) - 1)
   case false =>
    have HNO := hI9 (show Q = false from HQ.out.trans (by
     cases e : F.okB P (lgT S n)
     ·rfl
     ·have := (FliD.okB_iff.1 e).2.1.1 i hlt
      have q2 : ¬ inB (F.R i) 0 ((P : Int) - 1) = true := by rw [q1]; decide
      rw [inB_iff] at q2
      omega))
    go_wp2
    go_quiet ((go_at_call 20; (with_reducible refine qsame (r5within_c _ _ _ _))))
    have HB2 := hI9 (bdn HB.out nq)
    clear HB HX HF hx0 hm0 cr
    generalize wr.drewN nq = wr at *
    go_wp2_with (fail)
    go_ret
    exact ⟨by rw [HNO.out]; rfl, HB2.out⟩
   have q2 := inB_iff.1 q1
   go_wp2
   go_quiet ((go_at_call 20; (with_reducible refine qsame (r5within_c _ _ _ _))))
   have nB := hI9 (bdn HB.out nq)
   have nX := hI9 (HX.out.below (bdn (RowKit.Below.refl _ _) nq))
   have nF := hI9 (HF.out.below (bdn (RowKit.Below.refl _ _) nq))
   clear HB HX HF hx0 hm0 cr
   generalize wr.drewN nq = wr at *
   have HA2 := hI9 (show ∀ j, j < i + 1 → 0 ≤ F.R j ∧ F.R j < P from fun j hj => by
    by_cases e : j = i
    ·subst e; omega
    ·exact HA.out j (by omega))
   go_wp2_with (fail)
   go_roundg (F.m - (i + 1))
   case measure => omega
   case rel => exact ⟨i + 1, by first | rfl | go_num | (congr 1; omega), by omega, Nat.le_refl _, HA2, nB, nX, nF⟩
  have him : i = F.m := by omega
  have hnl : ¬ (i : Int) < (F.m : Int) := by omega
  have HAM := hI9 (show ∀ j, j < F.m → 0 ≤ F.R j ∧ F.R j < P from him ▸ HA.out)
  clear HA him
  go_wp2_with (refine wpl_row rfl 37 (.tmp 5) rfl _ rfl _ 5 HF.out Tryz.rowFli rfl ?_; simp only [Act.put])
  refine (r5flown_c A n c S P F (.slice AR F.m cR) _ hc1 hc2 (HL.out.below HB.out) (HR0.out.below HB.out) HNK.out hnu.1 hnu.2.1 HAM.out).mono ?_
  rintro e w2 ⟨v, rfl, hb2, hsl⟩
  have HB2 := hI9 (bthen HB.out hb2)
  clear HB HX HF hx0 hm0 hb2
  cases hlb : F.legB (lgT S n)
  case false =>
   have HNO := hI9 (show Q = false from HQ.out.trans (by
    cases e : F.okB P (lgT S n)
    ·rfl
    ·have := FliD.legB_iff.2 (FliD.okB_iff.1 e).2.1.2
     rw [hlb] at this; cases this))
   clear hlb hsl
   go_wp2_with (fail)
   go_ret
   exact ⟨by rw [HNO.out]; rfl, HB2.out⟩
  obtain ⟨A2, c2, rfl, e2, e3, e4⟩ := hsl hlb
  obtain ⟨b2, o2, rfl, hb2, hc2'⟩ := e4 (by omega)
  have HFW := hI9 (FliD.legB_iff.1 hlb)
  clear hlb hsl e4
  obtain ⟨m, hm⟩ : ∃ m, F.m = m + 1 := ⟨F.m - 1, by omega⟩
  have cl : w2.cell? ⟨b2, o2 + m, none⟩ = some (.int .i64 (F.at_ (lgT S n) m)) := by have := hc2' m (by omega) 0 (by omega); rw [Nat.mul_one, Nat.add_zero] at this; exact this
  have HO := hI9 (show Q = decide (F.at_ (lgT S n) m ≤ 2000) from HQ.out.trans (by
   by_cases h : F.at_ (lgT S n) m ≤ 2000
   ·rw [decide_eq_true h]
    exact FliD.okB_iff.2 ⟨HNU.out, ⟨HAM.out, HFW.out⟩, by rw [show F.m - 1 = m by omega]; exact h⟩
   ·rw [decide_eq_false h]
    cases e : F.okB P (lgT S n)
    ·rfl
    ·have := (FliD.okB_iff.1 e).2.2
     rw [show F.m - 1 = m by omega] at this
     exact absurd this h))
  have hmz : IntKind.i64.wrap ((F.m : Int) - 1) = (m : Int) := by rw [IntKind.wrap_i64]; omega
  have hmz2 : (m : Int) < (F.m : Int) := by omega
  clear hc2' hm
  generalize F.at_ (lgT S n) m = D at *
  by_cases h : D ≤ 2000
  ·have HNO := hI9 (HO.out.trans (decide_eq_true h))
   go_wp2_with (fail)
   go_ret
   exact ⟨by rw [HNO.out]; rfl, HB2.out⟩
  ·go_wp2_with (fail)
   go_ret
   exact ⟨by rw [HO.out]; rfl, HB2.out⟩
theorem r5Check_c (M : MetD) (vF vS : Value) (A : Option Addr) (n c : Nat) (S : Tab) (F : FliD) (vR : Value) (w : World) (hM : MetAt w vF vS M) (hc1 : n ≤ c) (hc2 : c ≤ 9223372036854775807) (hL : RecsAt w A n 3 (nV S)) (hR : SlI w vR F.m F.R) :
  Calls Tryz.prog 10 #[.agg #[.int .i64 M.places, .int .i64 M.any.a0, .int .i64 M.any.a1, .int .i64 M.any.a2, .int .i64 M.any.a3, .int .i64 M.any.a4, .int .i64 M.any.a5, .bool M.any.i, .bool M.any.s, .int .i64 M.mw, .int .i64 M.ms, .int .i64 M.mc, vF, vS], .slice A n c, .agg #[vR, .int .i64 F.dep, .int .i64 F.fuel, .int .i64 F.burn, .int .i64 F.res]] w fun e w' => e = .returned (.int .i64 (nfE (netE M S n) M S n F)) ∧ RowKit.Below w.heap.size w w' := by
 have HM := hI9 hM
 have HL := hI9 hL
 have HR := hI9 hR
 clear hM hL hR
 have hnn := fun w1 h1 h2 => r5CheckNet_c M vF vS A n c S w1 h1 hc1 hc2 h2
 obtain ⟨E, hE⟩ : ∃ q, q = netE M S n := ⟨_, rfl⟩
 obtain ⟨NE, hNE⟩ : ∃ q, q = nfE E M S n F := ⟨_, rfl⟩
 rw [← hE] at hnn ⊢
 rw [← hNE]
 have HNN := hI9 hnn
 clear hnn
 unfold nfE at hNE
 have tok : True := trivial
 by_cases h0 : E = 0
 case neg =>
  rw [if_neg h0] at hNE
  have hz : (E != 0) = true := by simpa using h0
  have HH := hI9 hNE
  clear hNE h0 hE
  go_enter Tryz.func10, Tryz.ntmps10
  go_wp2_with (fail)
  have _x := frm2 w #[.int .i64 M.places, .int .i64 M.any.a0, .int .i64 M.any.a1, .int .i64 M.any.a2, .int .i64 M.any.a3, .int .i64 M.any.a4, .int .i64 M.any.a5, .bool M.any.i, .bool M.any.s, .int .i64 M.mw, .int .i64 M.ms, .int .i64 M.mc, vF, vS] 29 #[vR, .int .i64 F.dep, .int .i64 F.fuel, .int .i64 F.burn, .int .i64 F.res] 37
  have HX := hI9 _x.1
  have HF := hI9 _x.2.1
  have HB := hI9 _x.2.2.1
  have zW := _x.2.2.2
  clear _x
  generalize World.alloc (World.alloc w _) _ = W at *
  go_wp2_with (first | (have _t := tok; refine wpl_row rfl 29 _ rfl _ rfl _ 14 HX.out Tryz.rowMet rfl ?_; simp only [Act.put]; clear tok) | (go_at_call 6; (with_reducible refine (HNN.out _ (HM.out.below HB.out) (HL.out.below HB.out)).mono ?_); rintro e w1 ⟨rfl, hb1⟩; have nHX := hI9 (HX.out.below hb1); have nHF := hI9 (HF.out.below hb1); have nHB := hI9 (bthen HB.out hb1); have zz1 := hb1.size; clear HX HF HB hb1; have HX := nHX; have HF := nHF; have HB := nHB; clear nHX nHF nHB))
  go_ret
  exact ⟨by rw [HH.out]; rfl, HB.out⟩
 rw [if_pos h0] at hNE
 subst h0
 obtain ⟨f1, f2⟩ := netE_ok hE.symm
 obtain ⟨f3, f4, f5, f6⟩ := net_facts f1 f2
 have HRI := hI9 (fun w1 h1 h2 => r5right_c M vF vS A n c S M.places.toNat F vR w1 hc1 hc2 h1 h2 f6 f3 f4)
 clear hE f1 f2 f3 f4 f5 f6
 have tok2 : True := trivial
 cases hok : F.okB M.places.toNat (lgT S n)
 all_goals
  rw [hok] at hNE HRI
  have HH := hI9 hNE
  clear hNE hok
  go_enter Tryz.func10, Tryz.ntmps10
  go_wp2_with (fail)
  have _x := frm2 w #[.int .i64 M.places, .int .i64 M.any.a0, .int .i64 M.any.a1, .int .i64 M.any.a2, .int .i64 M.any.a3, .int .i64 M.any.a4, .int .i64 M.any.a5, .bool M.any.i, .bool M.any.s, .int .i64 M.mw, .int .i64 M.ms, .int .i64 M.mc, vF, vS] 29 #[vR, .int .i64 F.dep, .int .i64 F.fuel, .int .i64 F.burn, .int .i64 F.res] 37
  have HX := hI9 _x.1
  have HF := hI9 _x.2.1
  have HB := hI9 _x.2.2.1
  have zW := _x.2.2.2
  clear _x
  generalize World.alloc (World.alloc w _) _ = W at *
  have tok3 : True := trivial
  go_wp2_with (first | (have _t := tok; refine wpl_row rfl 29 _ rfl _ rfl _ 14 HX.out Tryz.rowMet rfl ?_; simp only [Act.put]; clear tok) | (have _t := tok3; refine wpl_row rfl 29 _ rfl _ rfl _ 14 HX.out Tryz.rowMet rfl ?_; simp only [Act.put]; clear tok3) | (have _t := tok2; refine wpl_row rfl 37 (.tmp 5) rfl _ rfl _ 5 HF.out Tryz.rowFli rfl ?_; simp only [Act.put]; clear tok2) | (go_at_call 6; (with_reducible refine (HNN.out _ (HM.out.below HB.out) (HL.out.below HB.out)).mono ?_); rintro e w1 ⟨rfl, hb1⟩; have nHX := hI9 (HX.out.below hb1); have nHF := hI9 (HF.out.below hb1); have nHB := hI9 (bthen HB.out hb1); have zz1 := hb1.size; clear HX HF HB hb1; have HX := nHX; have HF := nHF; have HB := nHB; clear nHX nHF nHB) | (go_at_call 26; (with_reducible refine (HRI.out _ (HL.out.below HB.out) (HR.out.below HB.out)).mono ?_); rintro e w1 ⟨rfl, hb1⟩; have nHX := hI9 (HX.out.below hb1); have nHF := hI9 (HF.out.below hb1); have nHB := hI9 (bthen HB.out hb1); have zz1 := hb1.size; clear HX HF HB hb1; have HX := nHX; have HF := nHF; have HB := nHB; clear nHX nHF nHB))
  go_ret
  exact ⟨by rw [HH.out]; rfl, HB.out⟩
end Go.Proofs.YtlabfpjlckdmfaaGreat
