import Derived.Test.YtlabfpjlckdmfaaGreatNgJ
import Derived.Test.YtlabfpjlckdmfaaGreatJAU
import Derived.Test.YtlabfpjlckdmfaaGreatJAT
import Derived.Test.YtlabfpjlckdmfaaGreatJAW
import Derived.Test.YtlabfpjlckdmfaaGreatJAA
import Derived.Test.YtlabfpjlckdmfaaGreatJAV
import Derived.Test.YtlabfpjlckdmfaaGreatNbE
import Derived.Test.YtlabfpjlckdmfaaGreatJAN
import Derived.Test.YtlabfpjlckdmfaaGreatNgX
set_option linter.all false
namespace Go.Proofs.YtlabfpjlckdmfaaGreat
open Go Go.RowKit Go.Proofs
set_option maxRecDepth 100000
set_option maxHeartbeats 80000000
theorem chk_51 {M : MetD} {S : Tab} {n : Nat} {G : FliD} {CE : Int} (h : netE M S n = 0) (he : CE = nfE (netE M S n) M S n G) (h0 : CE ≠ 0) : CE = 51 := by
 unfold nfE at he
 rw [if_pos h] at he
 split at he
 ·exact absurd he h0
 ·exact he
theorem chk_ok {M : MetD} {S : Tab} {n : Nat} {G : FliD} (h : netE M S n = 0) (he : 0 = nfE (netE M S n) M S n G) : G.okB M.places.toNat (lgT S n) = true := by
 unfold nfE at he
 rw [if_pos h] at he
 split at he
 ·assumption
 ·cases he
theorem netE_of {M : MetD} {S : Tab} {n : Nat} {F : FliD} (h : nfE (netE M S n) M S n F = 0) : netE M S n = 0 := by
 unfold nfE at h
 by_cases h1 : netE M S n = 0
 ·exact h1
 ·rw [if_neg h1] at h; exact absurd h h1
theorem way_cells {w : World} {A : Option Addr} {m : Nat} {R : Nat → Int} (h : RecsAt w A m 1 (nL R)) : ∃ b o, (0 < m → A = some ⟨b, o, none⟩ ∧ b < w.heap.size ∧ ∀ i, i < m → w.cell? ⟨b, o + i, none⟩ = some (.int .i64 (R i))) := by
 by_cases h0 : 0 < m
 ·obtain ⟨b, o, e, hb, hc⟩ := h h0
  exact ⟨b, o, fun _ => ⟨e, hb, fun i hi => by have := hc i hi 0 (by omega); simpa [nL] using this⟩⟩
 ·exact ⟨0, 0, fun q => absurd q h0⟩
def tsR (gZ bW oW m cW : Nat) (AW : Option Addr) (R : Nat → Int) (fr tg : Int) (e1 : Nat) (zA zB zC zD z1 z2 : Bool) : Nat → Value → World → Prop := fun k v _ => (([fun v => v = .pointer (some ⟨gZ, 1, none⟩), fun v => v = .slice AW m cW, fun v => v = .int .i64 (m : Int), fun v => v = .bool zA, fun v => v = .bool zA, fun v => (zA = false → v = .pointer (some ⟨gZ, 1, none⟩)), fun v => (zA = false → v = .slice (some ⟨bW, oW, none⟩) m cW), fun v => (zA = false → v = .pointer (some ⟨bW, oW, none⟩)), fun v => (zA = false → v = .int .i64 (R 0)), fun v => (zA = false → v = .int .i64 fr), fun v => (zA = false → v = .bool zB), fun v => v = .bool z1, fun v => v = .bool z1, fun v => (z1 = false → v = .pointer (some ⟨gZ, 1, none⟩)), fun v => (z1 = false → v = .slice (some ⟨bW, oW, none⟩) m cW), fun v => (z1 = false → v = .pointer (some ⟨gZ, 1, none⟩)), fun v => (z1 = false → v = .slice AW m cW), fun v => (z1 = false → v = .int .i64 (m : Int)), fun v => (z1 = false → v = .int .i64 (e1 : Int)), fun v => (z1 = false → v = .pointer (some ⟨bW, oW + e1, none⟩)), fun v => (z1 = false → v = .int .i64 (R e1)), fun v => (z1 = false → v = .pointer (some ⟨gZ, 0, none⟩)), fun v => (z1 = false → v = .int .i64 tg), fun v => (z1 = false → v = .bool zC), fun v => v = .bool z2, fun v => v = .bool z2, fun v => (z2 = false → v = .pointer (some ⟨gZ, 1, none⟩)), fun v => (z2 = false → v = .slice AW m cW), fun v => (z2 = false → v = .bool zD)] : List (Value → Prop))[k]?.getD (fun _ => True)) v
theorem tsR_below {gZ bW oW m cW : Nat} {AW : Option Addr} {R : Nat → Int} {fr tg : Int} {e1 : Nat} {zA zB zC zD z1 z2 : Bool} (k : Nat) (v : Value) (w w' : World) (_ : Below w.heap.size w w') (h : tsR gZ bW oW m cW AW R fr tg e1 zA zB zC zD z1 z2 k v w) : tsR gZ bW oW m cW AW R fr tg e1 zA zB zC zD z1 z2 k v w' := h
def tbR (gZ bB oB kq cB cL fr tg e2 : Nat) (AL : Option Addr) : Nat → Value → World → Prop := fun k v _ => (([fun v => v = .int .i64 0, fun v => v = .bool false, fun v => v = .bool false, fun v => v = .bool true, fun v => v = .bool false, fun v => v = .bool false, fun v => v = .bool false, fun v => v = .int .i64 0, fun v => v = .bool false, fun v => v = .bool false, fun v => v = .bool false, fun v => v = .slice AL kq cL, fun v => v = .int .i64 (kq : Int), fun v => v = .slice (some ⟨bB, oB, none⟩) kq cB, fun v => v = .int .i64 (kq : Int), fun v => v = .bool false, fun v => v = .bool false, fun v => v = .bool false, fun v => v = .slice (some ⟨bB, oB, none⟩) kq cB, fun v => v = .int .i64 (kq : Int), fun v => v = .bool false, fun v => v = .bool false, fun v => v = .bool false, fun v => v = .slice (some ⟨bB, oB, none⟩) kq cB, fun v => v = .pointer (some ⟨bB, oB, none⟩), fun v => v = .int .i64 (fr : Int), fun v => v = .int .i64 (fr : Int), fun v => v = .bool false, fun v => v = .bool false, fun v => v = .bool false, fun v => v = .slice (some ⟨bB, oB, none⟩) kq cB, fun v => v = .slice (some ⟨bB, oB, none⟩) kq cB, fun v => v = .int .i64 (kq : Int), fun v => v = .int .i64 (e2 : Int), fun v => v = .pointer (some ⟨bB, oB + e2, none⟩), fun v => v = .int .i64 (tg : Int), fun v => v = .pointer (some ⟨gZ, 0, none⟩), fun v => v = .int .i64 (tg : Int), fun v => v = .bool false, fun v => v = .bool false, fun v => v = .bool false, fun v => v = .slice (some ⟨bB, oB, none⟩) kq cB, fun v => v = .bool false] : List (Value → Prop))[k]?.getD (fun _ => True)) v
theorem tbR_below {gZ bB oB kq cB cL fr tg e2 : Nat} {AL : Option Addr} (k : Nat) (v : Value) (w w' : World) (_ : Below w.heap.size w w') (h : tbR gZ bB oB kq cB cL fr tg e2 AL k v w) : tbR gZ bB oB kq cB cL fr tg e2 AL k v w' := h
theorem RouteShort_c (M : MetD) (vF vS : Value) (lw ls lc : Int) (li lb : Bool) (A : Option Addr) (n c : Nat) (S : Tab) (F : FliD) (vR : Value) (tg : Int) (vW : Value) (m : Nat) (R : Nat → Int) (w : World) (hM : MetAt w vF vS M) (hc1 : n ≤ c) (hc2 : c ≤ 9223372036854775807) (hL : RecsAt w A n 3 (nV S)) (hR : SlI w vR F.m F.R) (hW : SlI w vW m R) :
  Calls Tryz.prog 5 #[.agg #[.int .i64 M.places, .int .i64 M.any.a0, .int .i64 M.any.a1, .int .i64 M.any.a2, .int .i64 M.any.a3, .int .i64 M.any.a4, .int .i64 M.any.a5, .bool M.any.i, .bool M.any.s, .int .i64 M.mw, .int .i64 M.ms, .int .i64 M.mc, vF, vS, .int .i64 lw, .int .i64 ls, .int .i64 lc, .bool li, .bool lb, .slice A n c], .agg #[vR, .int .i64 F.dep, .int .i64 F.fuel, .int .i64 F.burn, .int .i64 F.res], .agg #[.int .i64 tg, vW]] w fun e w' => e = .returned (.bool true) ∧ RowKit.Below w.heap.size w w' := by
 have HM := hI9 hM
 have HL := hI9 hL
 have HR := hI9 hR
 have HWW := hI9 hW
 obtain ⟨AR, cR, rfl, -, -, hRc⟩ := hR
 obtain ⟨AW, cW, rfl, hw1, hw2, hWc⟩ := hW
 have HMB := hI9 (show (m : Int) ≤ 9223372036854775807 by omega)
 clear hw1 hw2
 have HRC := hI9 hRc
 obtain ⟨bW, oW, hAW⟩ := way_cells hWc
 have HAW := hI9 hAW
 clear hRc hWc hAW
 have HRT := hI9 (fun w1 h1 h2 h3 => l5right_c M vF vS lw ls lc li lb A n c S F (.slice AR F.m cR) w1 h1 hc1 hc2 h2 h3)
 have HSL := hI9 (fun w1 h2 => slow_c M vF vS lw ls lc li lb A n c S w1 hc1 hc2 h2)
 have HRO := hI9 (fun w1 h1 h2 h3 => rRoute_c M vF vS lw ls lc li lb A n c S F (.slice AR F.m cR) tg w1 h1 hc1 hc2 h2 h3)
 clear hM hL
 go_enter Tryz.func5, Tryz.ntmps5
 go_upto_region 1 with fail
 have _x := frm3 w #[.int .i64 M.places, .int .i64 M.any.a0, .int .i64 M.any.a1, .int .i64 M.any.a2, .int .i64 M.any.a3, .int .i64 M.any.a4, .int .i64 M.any.a5, .bool M.any.i, .bool M.any.s, .int .i64 M.mw, .int .i64 M.ms, .int .i64 M.mc, vF, vS, .int .i64 lw, .int .i64 ls, .int .i64 lc, .bool li, .bool lb, .slice A n c] 34 #[.slice AR F.m cR, .int .i64 F.dep, .int .i64 F.fuel, .int .i64 F.burn, .int .i64 F.res] 37 #[.int .i64 tg, .slice AW m cW] 55
 have HX := hI9 _x.1
 have HY := hI9 _x.2.1
 have HZ := hI9 _x.2.2.1
 have HB := hI9 _x.2.2.2.1
 have zW := _x.2.2.2.2
 clear _x
 generalize World.alloc (World.alloc (World.alloc w _) _) _ = W at *
 have tok : True := trivial
 have tok2 : True := trivial
 go_wp2_with (first | (have _t := tok; refine wpl_row rfl 34 (.tmp 3) rfl _ rfl _ 20 HX.out Tryz.rowPlan rfl ?_; simp only [Act.put]; clear tok) | (have _t := tok2; refine wpl_row rfl 37 (.tmp 4) rfl _ rfl _ 5 HY.out Tryz.rowFli rfl ?_; simp only [Act.put]; clear tok2))
 refine (HRT.out _ (HM.out.below HB.out) (HL.out.below HB.out) (HR.out.below HB.out)).mono ?_
 rintro e w1 ⟨⟨bb, rfl, hgood⟩, hb1⟩
 have nHX := hI9 (HX.out.below hb1)
 have nHY := hI9 (HY.out.below hb1)
 have nHZ := hI9 (HZ.out.below hb1)
 have nHB := hI9 (bthen HB.out hb1)
 clear HX HY HZ HB hb1
 have HX := nHX
 have HY := nHY
 have HZ := nHZ
 have HB := nHB
 clear nHX nHY nHZ nHB
 cases bb
 case false =>
  clear hgood
  go_wp2_with (first | (go_at_call 7; (with_reducible refine (rworks_c _).mono ?_); rintro e w1 ⟨rfl, hb1⟩; have nHX := hI9 (HX.out.below hb1); have nHY := hI9 (HY.out.below hb1); have nHZ := hI9 (HZ.out.below hb1); have nHB := hI9 (bthen HB.out hb1); have zz1 := hb1.size; clear HX HY HZ HB hb1; have HX := nHX; have HY := nHY; have HZ := nHZ; have HB := nHB; clear nHX nHY nHZ nHB))
  go_ret
  exact ⟨rfl, HB.out⟩
 obtain ⟨hme, hke⟩ := hgood rfl
 have HME := hI9 (And.intro hme hke)
 clear hgood hme hke HRT
 have tok : True := trivial
 go_wp2_with (first | (have _t := tok; refine wpl_row_g ?_ 34 (.tmp 3) rfl _ rfl _ 20 HX.out Tryz.rowPlan rfl ?_; (focus rfl); simp only [Act.put]; clear tok))
 refine (HSL.out _ (HL.out.below HB.out)).mono ?_
 rintro e w2 ⟨⟨bb, rfl⟩, hb1⟩
 have nHX := hI9 (HX.out.below hb1)
 have nHY := hI9 (HY.out.below hb1)
 have nHZ := hI9 (HZ.out.below hb1)
 have nHB := hI9 (bthen HB.out hb1)
 clear HX HY HZ HB hb1
 have HX := nHX
 have HY := nHY
 have HZ := nHZ
 have HB := nHB
 clear nHX nHY nHZ nHB
 cases bb
 case true =>
  go_wp2_with (first | (go_at_call 7; (with_reducible refine (rworks_c _).mono ?_); rintro e w1 ⟨rfl, hb1⟩; have nHX := hI9 (HX.out.below hb1); have nHY := hI9 (HY.out.below hb1); have nHZ := hI9 (HZ.out.below hb1); have nHB := hI9 (bthen HB.out hb1); have zz1 := hb1.size; clear HX HY HZ HB hb1; have HX := nHX; have HY := nHY; have HZ := nHZ; have HB := nHB; clear nHX nHY nHZ nHB))
  go_ret
  exact ⟨rfl, HB.out⟩
 clear HSL
 have x0 := HX.out.cell 19
 have z0 := HZ.out.cell 0
 simp only [gtA, gtS, gtZ] at x0 z0
 have tok2 : True := trivial
 have tok3 : True := trivial
 have tok4 : True := trivial
 go_wp2_with (first | (have _t := tok3; refine wpl_mid rfl 29 _ rfl w.heap.size 0 rfl 34 _ #[.int .i64 M.places, .int .i64 M.any.a0, .int .i64 M.any.a1, .int .i64 M.any.a2, .int .i64 M.any.a3, .int .i64 M.any.a4, .int .i64 M.any.a5, .bool M.any.i, .bool M.any.s, .int .i64 M.mw, .int .i64 M.ms, .int .i64 M.mc, vF, vS] 14 HX.out Tryz.rowMet [] [.int .i64 lw, .int .i64 ls, .int .i64 lc, .bool li, .bool lb, .slice A n c] rfl rfl rfl ?_; simp only [Act.put]; clear tok3) | (have _t := tok4; refine wpl_mid rfl 31 _ rfl w.heap.size 14 rfl 34 _ #[.int .i64 lw, .int .i64 ls, .int .i64 lc, .bool li, .bool lb] 5 HX.out Tryz.rowMin [.int .i64 M.places, .int .i64 M.any.a0, .int .i64 M.any.a1, .int .i64 M.any.a2, .int .i64 M.any.a3, .int .i64 M.any.a4, .int .i64 M.any.a5, .bool M.any.i, .bool M.any.s, .int .i64 M.mw, .int .i64 M.ms, .int .i64 M.mc, vF, vS] [.slice A n c] rfl rfl rfl ?_; simp only [Act.put]; clear tok4) | (have _t := tok2; refine wpl_row rfl 37 (.tmp 4) rfl _ rfl _ 5 HY.out Tryz.rowFli rfl ?_; simp only [Act.put]; clear tok2))
 refine (HRO.out _ (HM.out.below HB.out) (HL.out.below HB.out) (HR.out.below HB.out)).mono ?_
 rintro e w3 ⟨vB, rfl, hb1, hres⟩
 have hnf : nfE (netME M lw ls lc S n) M S n F = 0 := by rw [nfM_min, if_pos HME.out.1]; exact HME.out.2
 obtain ⟨f3, f4, f5, f6, f7⟩ := nfM_ok hnf
 have hnm := nf_net hnf
 rw [hnf] at hres
 obtain ⟨BE, hBE⟩ : ∃ q, q = F.bestR M.places.toNat (lgT S n) (timT S n M.places.toNat) (opM M lw ls lc li lb) (rtsL M.places.toNat (lgT S n) tg.toNat 7 [(F.R 0).toNat] (F.R 0).toNat) := ⟨_, rfl⟩
 rw [hnf, ← hBE]
 rw [← hBE] at hres
 have HBE := hI9 hBE
 have HNM := hI9 hnm
 have HNE := hI9 (netE_of HME.out.2)
 have HF7 := hI9 f7
 clear hBE hnf HRO hnm
 have nHX := hI9 (HX.out.below hb1)
 have nHY := hI9 (HY.out.below hb1)
 have nHZ := hI9 (HZ.out.below hb1)
 have nHB := hI9 (bthen HB.out hb1)
 clear HX HY HZ HB hb1
 have HX := nHX
 have HY := nHY
 have HZ := nHZ
 have HB := nHB
 clear nHX nHY nHZ nHB
 by_cases hrg : 0 ≤ tg ∧ tg ≤ (M.places.toNat : Int) - 1
 case neg =>
  have hre : rtE 0 M.places.toNat tg BE = 1 := by unfold rtE; rw [if_pos rfl, if_neg hrg]
  rw [hre]
  clear hre hres hrg f3 f4 f5 f6 f7
  go_wp2_with (first | (go_at_call 7; (with_reducible refine (rworks_c _).mono ?_); rintro e w1 ⟨rfl, hb1⟩; have nHX := hI9 (HX.out.below hb1); have nHY := hI9 (HY.out.below hb1); have nHZ := hI9 (HZ.out.below hb1); have nHB := hI9 (bthen HB.out hb1); have zz1 := hb1.size; clear HX HY HZ HB hb1; have HX := nHX; have HY := nHY; have HZ := nHZ; have HB := nHB; clear nHX nHY nHZ nHB))
  go_ret
  exact ⟨rfl, HB.out⟩
 obtain ⟨t0, rfl⟩ : ∃ q : Nat, tg = q := Int.eq_ofNat_of_zero_le hrg.1
 have hmm : 0 < F.m := (FliD.nums_iff.1 HF7.out.1).1.1
 have hr0 : 0 ≤ F.R 0 := (HF7.out.2.1.1 0 hmm).1
 obtain ⟨fr, hfr⟩ : ∃ q : Nat, F.R 0 = q := ⟨(F.R 0).toNat, by omega⟩
 rw [hfr] at HBE
 simp only [Int.toNat_natCast] at HBE
 clear hr0 f3 f4 f5 f6 f7
 cases BE with
 | none =>
  have hre : rtE 0 M.places.toNat (t0 : Int) none = 3 := by unfold rtE; rw [if_pos rfl, if_pos hrg]
  rw [hre] at hres ⊢
  obtain rfl := hres.2 (by decide)
  clear hre hres
  obtain ⟨bR, oR, rfl, hbR, hcR⟩ := HRC.out hmm
  have r0 := (HB.out.cell (p := ⟨bR, oR + 0 * 1 + 0, none⟩) hbR).trans (hcR 0 hmm 0 (by omega))
  simp only [nL, Nat.zero_mul, Nat.add_zero] at r0
  rw [hfr] at r0
  have y0 := HY.out.cell 0
  simp only [gtA, gtS, gtZ] at y0
  clear hcR hfr
  have hm0 : (0 : Int) < (F.m : Int) := by omega
  have tok2 : True := trivial
  have tokS : True := trivial
  have hw3 := HZ.out.lt
  go_wp2_with (first | (have _t := tok2; refine wpl_row rfl 37 (.tmp 4) rfl _ rfl _ 5 HY.out Tryz.rowFli rfl ?_; simp only [Act.put]; clear tok2) | (have _t := tokS; refine wpl_store_newR rfl 37 (.tmp 10) (.tmp 56) rfl #[.slice (some ⟨bR, oR, none⟩) F.m cR, .int .i64 F.dep, .int .i64 F.fuel, .int .i64 F.burn, .int .i64 F.res] _ _ rfl ?_ rfl Tryz.sizeFli rfl (by simp [Value.oneCell']) ?_; (focus (simp; done)); simp only [Act.put]; clear tokS))
  have nX := HX.out.alloc (.cells #[.slice (some ⟨bR, oR, none⟩) F.m cR, .int .i64 F.dep, .int .i64 F.fuel, .int .i64 F.burn, .int .i64 F.res] 37)
  have nY := HY.out.alloc (.cells #[.slice (some ⟨bR, oR, none⟩) F.m cR, .int .i64 F.dep, .int .i64 F.fuel, .int .i64 F.burn, .int .i64 F.res] 37)
  have nZ := HZ.out.alloc (.cells #[.slice (some ⟨bR, oR, none⟩) F.m cR, .int .i64 F.dep, .int .i64 F.fuel, .int .i64 F.burn, .int .i64 F.res] 37)
  have nB := bal HB.out (.cells #[.slice (some ⟨bR, oR, none⟩) F.m cR, .int .i64 F.dep, .int .i64 F.fuel, .int .i64 F.burn, .int .i64 F.res] 37)
  have nG := Blk.new w3 37 #[.slice (some ⟨bR, oR, none⟩) F.m cR, .int .i64 F.dep, .int .i64 F.fuel, .int .i64 F.burn, .int .i64 F.res]
  clear HX HY HZ HB r0 x0 z0 y0
  generalize World.alloc w3 _ = w4 at *
  generalize w3.heap.size = gG at *
  have HX := hI9 nX
  have HY := hI9 nY
  have HZ := hI9 nZ
  have HB := hI9 nB
  have HG := hI9 nG
  clear nX nY nZ nB nG
  obtain ⟨zA, hzA⟩ : ∃ q, q = ((m : Int) == 0) := ⟨_, rfl⟩
  obtain ⟨e1, he1⟩ : ∃ q, q = m - 1 := ⟨_, rfl⟩
  obtain ⟨zB, hzB⟩ : ∃ q, q = (R 0 != (fr : Int)) := ⟨_, rfl⟩
  obtain ⟨zC, hzC⟩ : ∃ q, q = (R e1 != (t0 : Int)) := ⟨_, rfl⟩
  obtain ⟨z1, hz1⟩ : ∃ q, q = (zA || zB) := ⟨_, rfl⟩
  obtain ⟨z2, hz2⟩ : ∃ q, q = (z1 || zC) := ⟨_, rfl⟩
  have HM0 := hI9 (show zA = false → 0 < m from fun h => by rw [h] at hzA; have := beq_eq_false_iff_ne.1 hzA.symm; omega)
  have HM1 := hI9 (show z1 = false → m = e1 + 1 from fun h => by rw [h] at hz1; have := HM0.out (Bool.or_eq_false_iff.1 hz1.symm).1; omega)
  have hmB := (show (m : Int) ≤ 9223372036854775807 from HMB.out)
  have HWZ := hI9 (show z1 = false → IntKind.i64.wrap ((m : Int) - 1) = (e1 : Int) from fun h => by have := HM1.out h; rw [IntKind.wrap_i64]; omega)
  clear he1
  obtain ⟨zD, hzD⟩ : ∃ q : Bool, (q = true ↔ ∃ i j, j < i ∧ i < m ∧ R i = R j) := ⟨@decide (∃ i j, j < i ∧ i < m ∧ R i = R j) (Classical.propDecidable _), by simp⟩
  have HZB := hI9 (And.intro hzA (And.intro hzB (And.intro hzC (And.intro hz1 hz2))))
  have HZD := hI9 hzD
  clear hzA hzB hzC hzD hz1 hz2 hmB
  have HCW := hI9 (fun wr (hb : RowKit.Below w4.heap.size w4 wr) (h : 0 < m) i (hi : i < m) => ((bthen HB.out hb).cell (p := ⟨bW, oW + i, none⟩) (HAW.out h).2.1).trans ((HAW.out h).2.2 i hi))
  have HTW := hI9 (show ∀ w1, SlI w1 (.slice AW m cW) m R → Calls Tryz.prog 18 #[.slice AW m cW] w1 fun e w' => e = .returned (.bool zD) ∧ RowKit.Below w1.heap.size w1 w' from fun w1 h => (twice_c _ m R w1 h).mono (by rintro e w' ⟨b, rfl, h1, h2⟩; exact ⟨by rw [Bool.eq_iff_iff.2 (h1.trans HZD.out.symm)], h2⟩))
  refine wp_region_spec 29 (tsR (w.heap.size + 2) bW oW m cW AW R (fr : Int) (t0 : Int) e1 zA zB zC zD z1 z2) (fun i => false) (by kernel_rfl) (by kernel_rfl) tsR_below ?hop1 ?htail1
  case hop1 =>
   simp only [List.take_succ_cons, List.take_zero, allOps]
   refine ⟨?_, ?_, ?_, ?_, ?_, ?_, ?_, ?_, ?_, ?_, ?_, ?_, ?_, ?_, ?_, ?_, ?_, ?_, ?_, ?_, ?_, ?_, ?_, ?_, ?_, ?_, ?_, ?_, ?_, trivial⟩
   ·as_aux_lemma =>
     intro u A w1 hA hb hd
     simp only [putAll, dstOf, gtA, gtS, gtZ, Option.bind_some, Option.bind, Act.put, List.setIfInBounds_toArray, List.set_cons_succ, List.set_cons_zero] at hA; subst hA
     have HB1 := hI9 hb
     clear hb hd
     go_wp2
     exact ⟨_, rfl, Below.refl _ _, rfl, fun h => absurd h (by decide)⟩
   ·as_aux_lemma =>
     intro u A w1 hA hb hd
     simp only [putAll, dstOf, gtA, gtS, gtZ, Option.bind_some, Option.bind, Act.put, List.setIfInBounds_toArray, List.set_cons_succ, List.set_cons_zero] at hA; subst hA
     have HB1 := hI9 hb
     have d0 : u 0 = _ := hd 0 (by omega) (by kernel_rfl)
     clear hb hd
     rw [d0]
     clear d0
     have xz := (HZ.out.below HB1.out).cell 1
     simp only [gtA, gtS, gtZ] at xz
     go_wp2
     exact ⟨_, rfl, Below.refl _ _, rfl, fun h => absurd h (by decide)⟩
   ·as_aux_lemma =>
     intro u A w1 hA hb hd
     simp only [putAll, dstOf, gtA, gtS, gtZ, Option.bind_some, Option.bind, Act.put, List.setIfInBounds_toArray, List.set_cons_succ, List.set_cons_zero] at hA; subst hA
     have HB1 := hI9 hb
     have d1 : u 1 = _ := hd 1 (by omega) (by kernel_rfl)
     clear hb hd
     rw [d1]
     clear d1
     go_wp2
     exact ⟨_, rfl, Below.refl _ _, rfl, fun h => absurd h (by decide)⟩
   ·as_aux_lemma =>
     intro u A w1 hA hb hd
     simp only [putAll, dstOf, gtA, gtS, gtZ, Option.bind_some, Option.bind, Act.put, List.setIfInBounds_toArray, List.set_cons_succ, List.set_cons_zero] at hA; subst hA
     have HB1 := hI9 hb
     have d2 : u 2 = _ := hd 2 (by omega) (by kernel_rfl)
     clear hb hd
     rw [d2]
     clear d2
     go_wp2
     exact ⟨_, rfl, RowKit.Below.refl _ _, congrArg Value.bool HZB.out.1.symm, fun h => absurd h (by decide)⟩
   ·as_aux_lemma =>
     intro u A w1 hA hb hd
     simp only [putAll, dstOf, gtA, gtS, gtZ, Option.bind_some, Option.bind, Act.put, List.setIfInBounds_toArray, List.set_cons_succ, List.set_cons_zero] at hA; subst hA
     have HB1 := hI9 hb
     have d3 : u 3 = _ := hd 3 (by omega) (by kernel_rfl)
     clear hb hd
     rw [d3]
     clear d3
     go_wp2
     exact ⟨_, rfl, Below.refl _ _, rfl, fun h => absurd h (by decide)⟩
   ·as_aux_lemma =>
     intro u A w1 hA hb hd
     simp only [putAll, dstOf, gtA, gtS, gtZ, Option.bind_some, Option.bind, Act.put, List.setIfInBounds_toArray, List.set_cons_succ, List.set_cons_zero] at hA; subst hA
     have HB1 := hI9 hb
     have d4 : u 4 = _ := hd 4 (by omega) (by kernel_rfl)
     clear hb hd
     rw [d4]
     clear d4
     rcases zA with _ | _
     ·(focus (go_wp2; exact ⟨_, rfl, RowKit.Below.refl _ _, fun _ => rfl, fun h => absurd h (by decide)⟩))
     ·(focus (go_wp2; exact ⟨_, rfl, RowKit.Below.refl _ _, (fun h => by cases h), fun h => absurd h (by decide)⟩))
     done
   ·as_aux_lemma =>
     intro u A w1 hA hb hd
     simp only [putAll, dstOf, gtA, gtS, gtZ, Option.bind_some, Option.bind, Act.put, List.setIfInBounds_toArray, List.set_cons_succ, List.set_cons_zero] at hA; subst hA
     have HB1 := hI9 hb
     have d4 : u 4 = _ := hd 4 (by omega) (by kernel_rfl)
     have d5 := hd 5 (by omega) (by kernel_rfl)
     clear hb hd
     rw [d4]
     clear d4
     rcases zA with _ | _
     ·(focus (have e5 : u 5 = _ := d5 rfl; rw [e5]; clear e5; have xz := (HZ.out.below HB1.out).cell 1; simp only [gtA, gtS, gtZ] at xz; go_wp2; exact ⟨_, rfl, RowKit.Below.refl _ _, fun _ => congrArg (fun q => Value.slice q m cW) (HAW.out (HM0.out (by first | rfl | trivial))).1, fun h => absurd h (by decide)⟩))
     ·(focus (go_wp2; exact ⟨_, rfl, RowKit.Below.refl _ _, (fun h => by cases h), fun h => absurd h (by decide)⟩))
     done
   ·as_aux_lemma =>
     intro u A w1 hA hb hd
     simp only [putAll, dstOf, gtA, gtS, gtZ, Option.bind_some, Option.bind, Act.put, List.setIfInBounds_toArray, List.set_cons_succ, List.set_cons_zero] at hA; subst hA
     have HB1 := hI9 hb
     have d4 : u 4 = _ := hd 4 (by omega) (by kernel_rfl)
     have d6 := hd 6 (by omega) (by kernel_rfl)
     clear hb hd
     rw [d4]
     clear d4
     rcases zA with _ | _
     ·(focus (have e6 : u 6 = _ := d6 rfl; rw [e6]; clear e6; have hm := HM0.out (by first | rfl | trivial); have hm0 : (0 : Int) < (m : Int) := (by omega); go_wp2; exact ⟨_, rfl, RowKit.Below.refl _ _, fun _ => rfl, fun h => absurd h (by decide)⟩))
     ·(focus (go_wp2; exact ⟨_, rfl, RowKit.Below.refl _ _, (fun h => by cases h), fun h => absurd h (by decide)⟩))
     done
   ·as_aux_lemma =>
     intro u A w1 hA hb hd
     simp only [putAll, dstOf, gtA, gtS, gtZ, Option.bind_some, Option.bind, Act.put, List.setIfInBounds_toArray, List.set_cons_succ, List.set_cons_zero] at hA; subst hA
     have HB1 := hI9 hb
     have d4 : u 4 = _ := hd 4 (by omega) (by kernel_rfl)
     have d7 := hd 7 (by omega) (by kernel_rfl)
     clear hb hd
     rw [d4]
     clear d4
     rcases zA with _ | _
     ·(focus (have e7 : u 7 = _ := d7 rfl; rw [e7]; clear e7; have xr := HCW.out _ HB1.out (HM0.out (by first | rfl | trivial)) 0 (HM0.out (by first | rfl | trivial)); simp only [Nat.add_zero] at xr; go_wp2; exact ⟨_, rfl, RowKit.Below.refl _ _, fun _ => rfl, fun h => absurd h (by decide)⟩))
     ·(focus (go_wp2; exact ⟨_, rfl, RowKit.Below.refl _ _, (fun h => by cases h), fun h => absurd h (by decide)⟩))
     done
   ·as_aux_lemma =>
     intro u A w1 hA hb hd
     simp only [putAll, dstOf, gtA, gtS, gtZ, Option.bind_some, Option.bind, Act.put, List.setIfInBounds_toArray, List.set_cons_succ, List.set_cons_zero] at hA; subst hA
     have HB1 := hI9 hb
     have d4 : u 4 = _ := hd 4 (by omega) (by kernel_rfl)
     clear hb hd
     rw [d4]
     clear d4
     rcases zA with _ | _
     ·(focus (go_wp2; exact ⟨_, rfl, RowKit.Below.refl _ _, fun _ => rfl, fun h => absurd h (by decide)⟩))
     ·(focus (go_wp2; exact ⟨_, rfl, RowKit.Below.refl _ _, (fun h => by cases h), fun h => absurd h (by decide)⟩))
     done
   ·as_aux_lemma =>
     intro u A w1 hA hb hd
     simp only [putAll, dstOf, gtA, gtS, gtZ, Option.bind_some, Option.bind, Act.put, List.setIfInBounds_toArray, List.set_cons_succ, List.set_cons_zero] at hA; subst hA
     have HB1 := hI9 hb
     have d4 : u 4 = _ := hd 4 (by omega) (by kernel_rfl)
     have d8 := hd 8 (by omega) (by kernel_rfl)
     have d9 := hd 9 (by omega) (by kernel_rfl)
     clear hb hd
     rw [d4]
     clear d4
     rcases zA with _ | _
     ·(focus (have e8 : u 8 = _ := d8 rfl; rw [e8]; clear e8; have e9 : u 9 = _ := d9 rfl; rw [e9]; clear e9; go_wp2; exact ⟨_, rfl, RowKit.Below.refl _ _, fun _ => congrArg Value.bool HZB.out.2.1.symm, fun h => absurd h (by decide)⟩))
     ·(focus (go_wp2; exact ⟨_, rfl, RowKit.Below.refl _ _, (fun h => by cases h), fun h => absurd h (by decide)⟩))
     done
   ·as_aux_lemma =>
     intro u A w1 hA hb hd
     simp only [putAll, dstOf, gtA, gtS, gtZ, Option.bind_some, Option.bind, Act.put, List.setIfInBounds_toArray, List.set_cons_succ, List.set_cons_zero] at hA; subst hA
     have HB1 := hI9 hb
     have d4 : u 4 = _ := hd 4 (by omega) (by kernel_rfl)
     have d10 := hd 10 (by omega) (by kernel_rfl)
     clear hb hd
     rw [d4]
     clear d4
     rcases zA with _ | _
     ·(focus (have e10 : u 10 = _ := d10 rfl; rw [e10]; clear e10; go_wp2; exact ⟨_, rfl, RowKit.Below.refl _ _, congrArg Value.bool HZB.out.2.2.2.1.symm, fun h => absurd h (by decide)⟩))
     ·(focus (go_wp2; exact ⟨_, rfl, RowKit.Below.refl _ _, congrArg Value.bool HZB.out.2.2.2.1.symm, fun h => absurd h (by decide)⟩))
     done
   ·as_aux_lemma =>
     intro u A w1 hA hb hd
     simp only [putAll, dstOf, gtA, gtS, gtZ, Option.bind_some, Option.bind, Act.put, List.setIfInBounds_toArray, List.set_cons_succ, List.set_cons_zero] at hA; subst hA
     have HB1 := hI9 hb
     have d4 : u 4 = _ := hd 4 (by omega) (by kernel_rfl)
     have d11 : u 11 = _ := hd 11 (by omega) (by kernel_rfl)
     clear hb hd
     rw [d4, d11]
     clear d4 d11
     go_wp2
     exact ⟨_, rfl, Below.refl _ _, rfl, fun h => absurd h (by decide)⟩
   ·as_aux_lemma =>
     intro u A w1 hA hb hd
     simp only [putAll, dstOf, gtA, gtS, gtZ, Option.bind_some, Option.bind, Act.put, List.setIfInBounds_toArray, List.set_cons_succ, List.set_cons_zero] at hA; subst hA
     have HB1 := hI9 hb
     have d12 : u 12 = _ := hd 12 (by omega) (by kernel_rfl)
     clear hb hd
     rw [d12]
     clear d12
     rcases z1 with _ | _
     ·(focus (go_wp2; exact ⟨_, rfl, RowKit.Below.refl _ _, fun _ => rfl, fun h => absurd h (by decide)⟩))
     ·(focus (go_wp2; exact ⟨_, rfl, RowKit.Below.refl _ _, (fun h => by cases h), fun h => absurd h (by decide)⟩))
     done
   ·as_aux_lemma =>
     intro u A w1 hA hb hd
     simp only [putAll, dstOf, gtA, gtS, gtZ, Option.bind_some, Option.bind, Act.put, List.setIfInBounds_toArray, List.set_cons_succ, List.set_cons_zero] at hA; subst hA
     have HB1 := hI9 hb
     have d12 : u 12 = _ := hd 12 (by omega) (by kernel_rfl)
     have d13 := hd 13 (by omega) (by kernel_rfl)
     clear hb hd
     rw [d12]
     clear d12
     rcases z1 with _ | _
     ·(focus (have e13 : u 13 = _ := d13 rfl; rw [e13]; clear e13; have xz := (HZ.out.below HB1.out).cell 1; simp only [gtA, gtS, gtZ] at xz; go_wp2; exact ⟨_, rfl, RowKit.Below.refl _ _, fun _ => congrArg (fun q => Value.slice q m cW) (HAW.out ((by have := HM1.out (by first | rfl | trivial); omega))).1, fun h => absurd h (by decide)⟩))
     ·(focus (go_wp2; exact ⟨_, rfl, RowKit.Below.refl _ _, (fun h => by cases h), fun h => absurd h (by decide)⟩))
     done
   ·as_aux_lemma =>
     intro u A w1 hA hb hd
     simp only [putAll, dstOf, gtA, gtS, gtZ, Option.bind_some, Option.bind, Act.put, List.setIfInBounds_toArray, List.set_cons_succ, List.set_cons_zero] at hA; subst hA
     have HB1 := hI9 hb
     have d12 : u 12 = _ := hd 12 (by omega) (by kernel_rfl)
     clear hb hd
     rw [d12]
     clear d12
     rcases z1 with _ | _
     ·(focus (go_wp2; exact ⟨_, rfl, RowKit.Below.refl _ _, fun _ => rfl, fun h => absurd h (by decide)⟩))
     ·(focus (go_wp2; exact ⟨_, rfl, RowKit.Below.refl _ _, (fun h => by cases h), fun h => absurd h (by decide)⟩))
     done
   ·as_aux_lemma =>
     intro u A w1 hA hb hd
     simp only [putAll, dstOf, gtA, gtS, gtZ, Option.bind_some, Option.bind, Act.put, List.setIfInBounds_toArray, List.set_cons_succ, List.set_cons_zero] at hA; subst hA
     have HB1 := hI9 hb
     have d12 : u 12 = _ := hd 12 (by omega) (by kernel_rfl)
     have d15 := hd 15 (by omega) (by kernel_rfl)
     clear hb hd
     rw [d12]
     clear d12
     rcases z1 with _ | _
     ·(focus (have e15 : u 15 = _ := d15 rfl; rw [e15]; clear e15; have xz := (HZ.out.below HB1.out).cell 1; simp only [gtA, gtS, gtZ] at xz; go_wp2; exact ⟨_, rfl, RowKit.Below.refl _ _, fun _ => rfl, fun h => absurd h (by decide)⟩))
     ·(focus (go_wp2; exact ⟨_, rfl, RowKit.Below.refl _ _, (fun h => by cases h), fun h => absurd h (by decide)⟩))
     done
   ·as_aux_lemma =>
     intro u A w1 hA hb hd
     simp only [putAll, dstOf, gtA, gtS, gtZ, Option.bind_some, Option.bind, Act.put, List.setIfInBounds_toArray, List.set_cons_succ, List.set_cons_zero] at hA; subst hA
     have HB1 := hI9 hb
     have d12 : u 12 = _ := hd 12 (by omega) (by kernel_rfl)
     have d16 := hd 16 (by omega) (by kernel_rfl)
     clear hb hd
     rw [d12]
     clear d12
     rcases z1 with _ | _
     ·(focus (have e16 : u 16 = _ := d16 rfl; rw [e16]; clear e16; go_wp2; exact ⟨_, rfl, RowKit.Below.refl _ _, fun _ => rfl, fun h => absurd h (by decide)⟩))
     ·(focus (go_wp2; exact ⟨_, rfl, RowKit.Below.refl _ _, (fun h => by cases h), fun h => absurd h (by decide)⟩))
     done
   ·as_aux_lemma =>
     intro u A w1 hA hb hd
     simp only [putAll, dstOf, gtA, gtS, gtZ, Option.bind_some, Option.bind, Act.put, List.setIfInBounds_toArray, List.set_cons_succ, List.set_cons_zero] at hA; subst hA
     have HB1 := hI9 hb
     have d12 : u 12 = _ := hd 12 (by omega) (by kernel_rfl)
     have d17 := hd 17 (by omega) (by kernel_rfl)
     clear hb hd
     rw [d12]
     clear d12
     rcases z1 with _ | _
     ·(focus (have e17 : u 17 = _ := d17 rfl; rw [e17]; clear e17; have hmz := HWZ.out (by first | rfl | trivial); go_wp2; exact ⟨_, rfl, RowKit.Below.refl _ _, fun _ => rfl, fun h => absurd h (by decide)⟩))
     ·(focus (go_wp2; exact ⟨_, rfl, RowKit.Below.refl _ _, (fun h => by cases h), fun h => absurd h (by decide)⟩))
     done
   ·as_aux_lemma =>
     intro u A w1 hA hb hd
     simp only [putAll, dstOf, gtA, gtS, gtZ, Option.bind_some, Option.bind, Act.put, List.setIfInBounds_toArray, List.set_cons_succ, List.set_cons_zero] at hA; subst hA
     have HB1 := hI9 hb
     have d12 : u 12 = _ := hd 12 (by omega) (by kernel_rfl)
     have d14 := hd 14 (by omega) (by kernel_rfl)
     have d18 := hd 18 (by omega) (by kernel_rfl)
     clear hb hd
     rw [d12]
     clear d12
     rcases z1 with _ | _
     ·(focus (have e14 : u 14 = _ := d14 rfl; rw [e14]; clear e14; have e18 : u 18 = _ := d18 rfl; rw [e18]; clear e18; have hm1 := HM1.out (by first | rfl | trivial); have hez : (e1 : Int) < (m : Int) := (by omega); go_wp2; exact ⟨_, rfl, RowKit.Below.refl _ _, fun _ => rfl, fun h => absurd h (by decide)⟩))
     ·(focus (go_wp2; exact ⟨_, rfl, RowKit.Below.refl _ _, (fun h => by cases h), fun h => absurd h (by decide)⟩))
     done
   ·as_aux_lemma =>
     intro u A w1 hA hb hd
     simp only [putAll, dstOf, gtA, gtS, gtZ, Option.bind_some, Option.bind, Act.put, List.setIfInBounds_toArray, List.set_cons_succ, List.set_cons_zero] at hA; subst hA
     have HB1 := hI9 hb
     have d12 : u 12 = _ := hd 12 (by omega) (by kernel_rfl)
     have d19 := hd 19 (by omega) (by kernel_rfl)
     clear hb hd
     rw [d12]
     clear d12
     rcases z1 with _ | _
     ·(focus (have e19 : u 19 = _ := d19 rfl; rw [e19]; clear e19; have xr := HCW.out _ HB1.out (by have := HM1.out (by first | rfl | trivial); omega) e1 (by have := HM1.out (by first | rfl | trivial); omega); go_wp2; exact ⟨_, rfl, RowKit.Below.refl _ _, fun _ => rfl, fun h => absurd h (by decide)⟩))
     ·(focus (go_wp2; exact ⟨_, rfl, RowKit.Below.refl _ _, (fun h => by cases h), fun h => absurd h (by decide)⟩))
     done
   ·as_aux_lemma =>
     intro u A w1 hA hb hd
     simp only [putAll, dstOf, gtA, gtS, gtZ, Option.bind_some, Option.bind, Act.put, List.setIfInBounds_toArray, List.set_cons_succ, List.set_cons_zero] at hA; subst hA
     have HB1 := hI9 hb
     have d12 : u 12 = _ := hd 12 (by omega) (by kernel_rfl)
     clear hb hd
     rw [d12]
     clear d12
     rcases z1 with _ | _
     ·(focus (go_wp2; exact ⟨_, rfl, RowKit.Below.refl _ _, fun _ => rfl, fun h => absurd h (by decide)⟩))
     ·(focus (go_wp2; exact ⟨_, rfl, RowKit.Below.refl _ _, (fun h => by cases h), fun h => absurd h (by decide)⟩))
     done
   ·as_aux_lemma =>
     intro u A w1 hA hb hd
     simp only [putAll, dstOf, gtA, gtS, gtZ, Option.bind_some, Option.bind, Act.put, List.setIfInBounds_toArray, List.set_cons_succ, List.set_cons_zero] at hA; subst hA
     have HB1 := hI9 hb
     have d12 : u 12 = _ := hd 12 (by omega) (by kernel_rfl)
     have d21 := hd 21 (by omega) (by kernel_rfl)
     clear hb hd
     rw [d12]
     clear d12
     rcases z1 with _ | _
     ·(focus (have e21 : u 21 = _ := d21 rfl; rw [e21]; clear e21; have xz := (HZ.out.below HB1.out).cell 0; simp only [gtA, gtS, gtZ] at xz; go_wp2; exact ⟨_, rfl, RowKit.Below.refl _ _, fun _ => rfl, fun h => absurd h (by decide)⟩))
     ·(focus (go_wp2; exact ⟨_, rfl, RowKit.Below.refl _ _, (fun h => by cases h), fun h => absurd h (by decide)⟩))
     done
   ·as_aux_lemma =>
     intro u A w1 hA hb hd
     simp only [putAll, dstOf, gtA, gtS, gtZ, Option.bind_some, Option.bind, Act.put, List.setIfInBounds_toArray, List.set_cons_succ, List.set_cons_zero] at hA; subst hA
     have HB1 := hI9 hb
     have d12 : u 12 = _ := hd 12 (by omega) (by kernel_rfl)
     have d20 := hd 20 (by omega) (by kernel_rfl)
     have d22 := hd 22 (by omega) (by kernel_rfl)
     clear hb hd
     rw [d12]
     clear d12
     rcases z1 with _ | _
     ·(focus (have e20 : u 20 = _ := d20 rfl; rw [e20]; clear e20; have e22 : u 22 = _ := d22 rfl; rw [e22]; clear e22; go_wp2; exact ⟨_, rfl, RowKit.Below.refl _ _, fun _ => congrArg Value.bool HZB.out.2.2.1.symm, fun h => absurd h (by decide)⟩))
     ·(focus (go_wp2; exact ⟨_, rfl, RowKit.Below.refl _ _, (fun h => by cases h), fun h => absurd h (by decide)⟩))
     done
   ·as_aux_lemma =>
     intro u A w1 hA hb hd
     simp only [putAll, dstOf, gtA, gtS, gtZ, Option.bind_some, Option.bind, Act.put, List.setIfInBounds_toArray, List.set_cons_succ, List.set_cons_zero] at hA; subst hA
     have HB1 := hI9 hb
     have d12 : u 12 = _ := hd 12 (by omega) (by kernel_rfl)
     have d23 := hd 23 (by omega) (by kernel_rfl)
     clear hb hd
     rw [d12]
     clear d12
     rcases z1 with _ | _
     ·(focus (have e23 : u 23 = _ := d23 rfl; rw [e23]; clear e23; go_wp2; exact ⟨_, rfl, RowKit.Below.refl _ _, congrArg Value.bool HZB.out.2.2.2.2.symm, fun h => absurd h (by decide)⟩))
     ·(focus (go_wp2; exact ⟨_, rfl, RowKit.Below.refl _ _, congrArg Value.bool HZB.out.2.2.2.2.symm, fun h => absurd h (by decide)⟩))
     done
   ·as_aux_lemma =>
     intro u A w1 hA hb hd
     simp only [putAll, dstOf, gtA, gtS, gtZ, Option.bind_some, Option.bind, Act.put, List.setIfInBounds_toArray, List.set_cons_succ, List.set_cons_zero] at hA; subst hA
     have HB1 := hI9 hb
     have d12 : u 12 = _ := hd 12 (by omega) (by kernel_rfl)
     have d24 : u 24 = _ := hd 24 (by omega) (by kernel_rfl)
     clear hb hd
     rw [d12, d24]
     clear d12 d24
     go_wp2
     exact ⟨_, rfl, Below.refl _ _, rfl, fun h => absurd h (by decide)⟩
   ·as_aux_lemma =>
     intro u A w1 hA hb hd
     simp only [putAll, dstOf, gtA, gtS, gtZ, Option.bind_some, Option.bind, Act.put, List.setIfInBounds_toArray, List.set_cons_succ, List.set_cons_zero] at hA; subst hA
     have HB1 := hI9 hb
     have d25 : u 25 = _ := hd 25 (by omega) (by kernel_rfl)
     clear hb hd
     rw [d25]
     clear d25
     rcases z2 with _ | _
     ·(focus (go_wp2; exact ⟨_, rfl, RowKit.Below.refl _ _, fun _ => rfl, fun h => absurd h (by decide)⟩))
     ·(focus (go_wp2; exact ⟨_, rfl, RowKit.Below.refl _ _, (fun h => by cases h), fun h => absurd h (by decide)⟩))
     done
   ·as_aux_lemma =>
     intro u A w1 hA hb hd
     simp only [putAll, dstOf, gtA, gtS, gtZ, Option.bind_some, Option.bind, Act.put, List.setIfInBounds_toArray, List.set_cons_succ, List.set_cons_zero] at hA; subst hA
     have HB1 := hI9 hb
     have d25 : u 25 = _ := hd 25 (by omega) (by kernel_rfl)
     have d26 := hd 26 (by omega) (by kernel_rfl)
     clear hb hd
     rw [d25]
     clear d25
     rcases z2 with _ | _
     ·(focus (have e26 : u 26 = _ := d26 rfl; rw [e26]; clear e26; have xz := (HZ.out.below HB1.out).cell 1; simp only [gtA, gtS, gtZ] at xz; go_wp2; exact ⟨_, rfl, RowKit.Below.refl _ _, fun _ => rfl, fun h => absurd h (by decide)⟩))
     ·(focus (go_wp2; exact ⟨_, rfl, RowKit.Below.refl _ _, (fun h => by cases h), fun h => absurd h (by decide)⟩))
     done
   ·as_aux_lemma =>
     intro u A w1 hA hb hd
     simp only [putAll, dstOf, gtA, gtS, gtZ, Option.bind_some, Option.bind, Act.put, List.setIfInBounds_toArray, List.set_cons_succ, List.set_cons_zero] at hA; subst hA
     have HB1 := hI9 hb
     have d25 : u 25 = _ := hd 25 (by omega) (by kernel_rfl)
     have d27 := hd 27 (by omega) (by kernel_rfl)
     clear hb hd
     rw [d25]
     clear d25
     rcases z2 with _ | _
     ·(focus (have e27 : u 27 = _ := d27 rfl; rw [e27]; clear e27; go_wp2_with (go_at_call 18; (with_reducible refine (HTW.out _ (HWW.out.below (bthen HB.out HB1.out))).mono ?_); rintro e w2 ⟨rfl, hb2⟩); exact ⟨_, rfl, hb2, fun _ => rfl, fun h => absurd h (by decide)⟩))
     ·(focus (go_wp2; exact ⟨_, rfl, RowKit.Below.refl _ _, (fun h => by cases h), fun h => absurd h (by decide)⟩))
     done
  case htail1 =>
   as_aux_lemma =>
    intro u A w1 hA hb hd hf
    simp only [putAll, dstOf, gtA, gtS, gtZ, Option.bind_some, Option.bind, Act.put, List.setIfInBounds_toArray, List.set_cons_succ, List.set_cons_zero] at hA; subst hA
    have e0 : u 0 = _ := hd 0 (by omega)
    have e1 : u 1 = _ := hd 1 (by omega)
    have e2 : u 2 = _ := hd 2 (by omega)
    have e3 : u 3 = _ := hd 3 (by omega)
    have e4 : u 4 = _ := hd 4 (by omega)
    have p5 := hd 5 (by omega)
    have p6 := hd 6 (by omega)
    have p7 := hd 7 (by omega)
    have p8 := hd 8 (by omega)
    have p9 := hd 9 (by omega)
    have p10 := hd 10 (by omega)
    have e11 : u 11 = _ := hd 11 (by omega)
    have e12 : u 12 = _ := hd 12 (by omega)
    have p13 := hd 13 (by omega)
    have p14 := hd 14 (by omega)
    have p15 := hd 15 (by omega)
    have p16 := hd 16 (by omega)
    have p17 := hd 17 (by omega)
    have p18 := hd 18 (by omega)
    have p19 := hd 19 (by omega)
    have p20 := hd 20 (by omega)
    have p21 := hd 21 (by omega)
    have p22 := hd 22 (by omega)
    have p23 := hd 23 (by omega)
    have e24 : u 24 = _ := hd 24 (by omega)
    have e25 : u 25 = _ := hd 25 (by omega)
    have p26 := hd 26 (by omega)
    have p27 := hd 27 (by omega)
    have p28 := hd 28 (by omega)
    first | rw [e0, e1, e2, e3, e4, e11, e12, e24, e25] | simp only [e0, e1, e2, e3, e4, e11, e12, e24, e25]
    clear e0 e1 e2 e3 e4 e11 e12 e24 e25
    clear hd hf
    have nHX := hI9 (HX.out.below hb)
    have nHY := hI9 (HY.out.below hb)
    have nHZ := hI9 (HZ.out.below hb)
    have nHG := hI9 (HG.out.below hb)
    have nHB := hI9 (bthen HB.out hb)
    clear HX HY HZ HG HB hb
    have HX := nHX
    have HY := nHY
    have HZ := nHZ
    have HG := nHG
    have HB := nHB
    clear nHX nHY nHZ nHG nHB
    clear HCW HTW p5 p6 p7 p8 p9 p10 p13 p14 p15 p16 p17 p18 p19 p20 p21 p22 p23 p26 p27
    rcases z2 with _ | _
    case true =>
     clear p28
     go_wp2_with (first | (go_at_call 7; (with_reducible refine (rworks_c _).mono ?_); rintro e w1 ⟨rfl, hb1⟩; have nHX := hI9 (HX.out.below hb1); have nHY := hI9 (HY.out.below hb1); have nHZ := hI9 (HZ.out.below hb1); have nHB := hI9 (bthen HB.out hb1); have zz1 := hb1.size; clear HX HY HZ HB hb1; have HX := nHX; have HY := nHY; have HZ := nHZ; have HB := nHB; clear nHX nHY nHZ nHB))
     go_ret
     exact ⟨rfl, HB.out⟩
    rw [p28 rfl]
    clear p28
    rcases zD with _ | _
    case true =>
     go_wp2_with (first | (go_at_call 7; (with_reducible refine (rworks_c _).mono ?_); rintro e w1 ⟨rfl, hb1⟩; have nHX := hI9 (HX.out.below hb1); have nHY := hI9 (HY.out.below hb1); have nHZ := hI9 (HZ.out.below hb1); have nHB := hI9 (bthen HB.out hb1); have zz1 := hb1.size; clear HX HY HZ HB hb1; have HX := nHX; have HY := nHY; have HZ := nHZ; have HB := nHB; clear nHX nHY nHZ nHB))
     go_ret
     exact ⟨rfl, HB.out⟩
    obtain ⟨hm, hR0, hRe, hz1⟩ := short_z HZB.out
    have hme1 : m = e1 + 1 := HM1.out hz1
    obtain ⟨rfl, hbW, hcW⟩ := HAW.out hm
    have hnd : ¬ ∃ i j, j < i ∧ i < m ∧ R i = R j := fun h => by have := HZD.out.2 h; cases this
    have HRF := hI9 (And.intro hm (And.intro hR0 (And.intro hRe (And.intro hme1 hnd))))
    clear HZB HZD HM0 HM1 HWZ hz1 hm hR0 hRe hme1 hnd hbW hcW HAW
    obtain ⟨CE, hCE⟩ : ∃ q, q = nfE (netE M S n) M S n (F.onR m R) := ⟨_, rfl⟩
    have HCK := hI9 (show ∀ w1, MetAt w1 vF vS M → RecsAt w1 A n 3 (nV S) → SlI w1 (.slice (some ⟨bW, oW, none⟩) m cW) m R → Calls Tryz.prog 10 #[.agg #[.int .i64 M.places, .int .i64 M.any.a0, .int .i64 M.any.a1, .int .i64 M.any.a2, .int .i64 M.any.a3, .int .i64 M.any.a4, .int .i64 M.any.a5, .bool M.any.i, .bool M.any.s, .int .i64 M.mw, .int .i64 M.ms, .int .i64 M.mc, vF, vS], .slice A n c, .agg #[.slice (some ⟨bW, oW, none⟩) m cW, .int .i64 F.dep, .int .i64 F.fuel, .int .i64 F.burn, .int .i64 F.res]] w1 fun e w' => e = .returned (.int .i64 CE) ∧ RowKit.Below w1.heap.size w1 w' from fun w1 h1 h2 h3 => hCE ▸ r5Check_c M vF vS A n c S (F.onR m R) (.slice (some ⟨bW, oW, none⟩) m cW) w1 h1 hc1 hc2 h2 h3)
    have HCE := hI9 hCE
    clear hCE
    have g0 := HG.out.cell 0
    have gf := fun i => HG.out.frozen i
    have z1 := HZ.out.cell 1
    simp only [gtA, gtS, gtZ] at g0 z1
    have hneX : w.heap.size ≠ gG := by omega
    have hneY : w.heap.size + 1 ≠ gG := by omega
    have hneZ : w.heap.size + 2 ≠ gG := by omega
    have hneB : w.heap.size ≤ gG := by omega
    have tok3 : True := trivial
    have tokH : True := trivial
    go_wp2_with (first | (have _t := tok3; refine wpl_mid rfl 29 _ rfl w.heap.size 0 rfl 34 _ #[.int .i64 M.places, .int .i64 M.any.a0, .int .i64 M.any.a1, .int .i64 M.any.a2, .int .i64 M.any.a3, .int .i64 M.any.a4, .int .i64 M.any.a5, .bool M.any.i, .bool M.any.s, .int .i64 M.mw, .int .i64 M.ms, .int .i64 M.mc, vF, vS] 14 (HX.out.far (p := ⟨gG, 0, none⟩) hneX (.slice (some ⟨bW, oW, none⟩) m cW)) Tryz.rowMet [] [.int .i64 lw, .int .i64 ls, .int .i64 lc, .bool li, .bool lb, .slice A n c] rfl rfl rfl ?_; simp only [Act.put]; clear tok3; generalize hWX : World.setCell w1 _ _ = w6; have nX := HX.out.far (p := ⟨gG, 0, none⟩) hneX (.slice (some ⟨bW, oW, none⟩) m cW); have nY := HY.out.far (p := ⟨gG, 0, none⟩) hneY (.slice (some ⟨bW, oW, none⟩) m cW); have nZ := HZ.out.far (p := ⟨gG, 0, none⟩) hneZ (.slice (some ⟨bW, oW, none⟩) m cW); have nB := bset HB.out hneB (.slice (some ⟨bW, oW, none⟩) m cW) (i := 0); have nG := HG.out.set_ 0 (.slice (some ⟨bW, oW, none⟩) m cW); rw [hWX] at nX nY nZ nB nG; clear hWX HX HY HZ HB HG g0 gf z1; have HX := hI9 nX; have HY := hI9 nY; have HZ := hI9 nZ; have HB := hI9 nB; have HG := hI9 nG; clear nX nY nZ nB nG; have x19 := HX.out.cell 19; simp only [gtA, gtS, gtZ] at x19) | (have _t := tokH; refine wpl_row rfl 37 (.tmp 10) rfl _ rfl _ 5 HG.out Tryz.rowFli rfl ?_; simp only [Act.put]; clear tokH))
    refine (HCK.out _ (HM.out.below HB.out) (HL.out.below HB.out) (HWW.out.below HB.out)).mono ?_
    rintro e w7 ⟨rfl, hbX⟩
    clear x19 HCK
    have nHX := hI9 (HX.out.below hbX)
    have nHY := hI9 (HY.out.below hbX)
    have nHZ := hI9 (HZ.out.below hbX)
    have nHG := hI9 (HG.out.below hbX)
    have nHB := hI9 (bthen HB.out hbX)
    clear HX HY HZ HG HB hbX
    have HX := nHX
    have HY := nHY
    have HZ := nHZ
    have HG := nHG
    have HB := nHB
    clear nHX nHY nHZ nHG nHB
    by_cases h0 : CE = 0
    case neg =>
     obtain rfl : CE = 51 := chk_51 HNE.out HCE.out h0
     go_wp2_with (first | (go_at_call 7; (with_reducible refine (rworks_c _).mono ?_); rintro e w1 ⟨rfl, hb1⟩; have nHX := hI9 (HX.out.below hb1); have nHY := hI9 (HY.out.below hb1); have nHZ := hI9 (HZ.out.below hb1); have nHB := hI9 (bthen HB.out hb1); have zz1 := hb1.size; clear HX HY HZ HB hb1; have HX := nHX; have HY := nHY; have HZ := nHZ; have HB := nHB; clear nHX nHY nHZ nHB))
     go_ret
     exact ⟨rfl, HB.out⟩
    subst h0
    have hok := chk_ok HNE.out HCE.out
    obtain ⟨GB, hGB⟩ : ∃ q, q = F.goodR M.places.toNat (lgT S n) (timT S n M.places.toNat) (opM M lw ls lc li lb) (lsR m R) := ⟨_, rfl⟩
    obtain ⟨tW, htW⟩ : ∃ q, q = F.finR (lgT S n) (lsR m R) := ⟨_, rfl⟩
    have hokW : (F.wayR (lsR m R)).okB M.places.toNat (lgT S n) = true := FliD.okB_iff.2 (ok_on (FliD.okB_iff.1 hok))
    have HWL := hI9 (sl_on HWW.out fun i hi => ((FliD.okB_iff.1 hok).2.1.1 i hi).1)
    have HSF := hI9 (fun w1 h1 h2 h3 => safe_way M vF vS lw ls lc li lb A n c S F (.slice (some ⟨bW, oW, none⟩) m cW) (lsR m R) w1 HNM.out hokW h1 hc1 hc2 h2 h3)
    have HAV := hI9 (fun w1 h1 h2 h3 => arr_way M vF vS A n c S F (.slice (some ⟨bW, oW, none⟩) m cW) (lsR m R) w1 HNE.out hokW h1 hc1 hc2 h2 h3)
    rw [← hGB] at HSF
    have hat : (F.wayR (lsR m R)).at_ (lgT S n) e1 = tW := by rw [htW]; unfold FliD.finR FliD.arr; rw [show (F.wayR (lsR m R)).m = m from lsR_len m R, HRF.out.2.2.2.1]; rfl
    have HOW := hI9 (And.intro hok (And.intro hGB htW))
    clear hok hokW hGB htW HCE
    have x19 := HX.out.cell 19
    simp only [gtA, gtS, gtZ] at x19
    have tok3 : True := trivial
    have tok4 : True := trivial
    have tokH : True := trivial
    go_wp2_with (first | (have _t := tok3; refine wpl_mid rfl 29 _ rfl w.heap.size 0 rfl 34 _ #[.int .i64 M.places, .int .i64 M.any.a0, .int .i64 M.any.a1, .int .i64 M.any.a2, .int .i64 M.any.a3, .int .i64 M.any.a4, .int .i64 M.any.a5, .bool M.any.i, .bool M.any.s, .int .i64 M.mw, .int .i64 M.ms, .int .i64 M.mc, vF, vS] 14 HX.out Tryz.rowMet [] [.int .i64 lw, .int .i64 ls, .int .i64 lc, .bool li, .bool lb, .slice A n c] rfl rfl rfl ?_; simp only [Act.put]; clear tok3) | (have _t := tok4; refine wpl_mid rfl 31 _ rfl w.heap.size 14 rfl 34 _ #[.int .i64 lw, .int .i64 ls, .int .i64 lc, .bool li, .bool lb] 5 HX.out Tryz.rowMin [.int .i64 M.places, .int .i64 M.any.a0, .int .i64 M.any.a1, .int .i64 M.any.a2, .int .i64 M.any.a3, .int .i64 M.any.a4, .int .i64 M.any.a5, .bool M.any.i, .bool M.any.s, .int .i64 M.mw, .int .i64 M.ms, .int .i64 M.mc, vF, vS] [.slice A n c] rfl rfl rfl ?_; simp only [Act.put]; clear tok4) | (have _t := tokH; refine wpl_row rfl 37 (.tmp 10) rfl _ rfl _ 5 HG.out Tryz.rowFli rfl ?_; simp only [Act.put]; clear tokH))
    refine (HSF.out _ (HM.out.below HB.out) (HL.out.below HB.out) (HWL.out.below HB.out)).mono ?_
    rintro e w8 ⟨⟨s2, rfl⟩, hbX⟩
    clear x19 HSF
    have nHX := hI9 (HX.out.below hbX)
    have nHY := hI9 (HY.out.below hbX)
    have nHZ := hI9 (HZ.out.below hbX)
    have nHG := hI9 (HG.out.below hbX)
    have nHB := hI9 (bthen HB.out hbX)
    clear HX HY HZ HG HB hbX
    have HX := nHX
    have HY := nHY
    have HZ := nHZ
    have HG := nHG
    have HB := nHB
    clear nHX nHY nHZ nHG nHB
    have x19 := HX.out.cell 19
    simp only [gtA, gtS, gtZ] at x19
    have tok3 : True := trivial
    have tokH : True := trivial
    go_wp2_with (first | (have _t := tok3; refine wpl_mid rfl 29 _ rfl w.heap.size 0 rfl 34 _ #[.int .i64 M.places, .int .i64 M.any.a0, .int .i64 M.any.a1, .int .i64 M.any.a2, .int .i64 M.any.a3, .int .i64 M.any.a4, .int .i64 M.any.a5, .bool M.any.i, .bool M.any.s, .int .i64 M.mw, .int .i64 M.ms, .int .i64 M.mc, vF, vS] 14 HX.out Tryz.rowMet [] [.int .i64 lw, .int .i64 ls, .int .i64 lc, .bool li, .bool lb, .slice A n c] rfl rfl rfl ?_; simp only [Act.put]; clear tok3) | (have _t := tokH; refine wpl_row rfl 37 (.tmp 10) rfl _ rfl _ 5 HG.out Tryz.rowFli rfl ?_; simp only [Act.put]; clear tokH))
    refine (HAV.out _ (HM.out.below HB.out) (HL.out.below HB.out) (HWL.out.below HB.out)).mono ?_
    rintro e w9 ⟨vE, rfl, hbX, hEs⟩
    rw [lsR_len] at hEs
    obtain ⟨AE, cE, rfl, hE1, hE2, hEc⟩ := hEs
    obtain ⟨bE, oE, rfl, hbE, hcE⟩ := hEc HRF.out.1
    have hme1 := HRF.out.2.2.2.1
    have a1 := hcE e1 (by omega) 0 (by omega)
    simp only [nL, Nat.mul_one, Nat.add_zero] at a1
    rw [hat] at a1
    clear hat hcE hEc x19 HAV
    have nHX := hI9 (HX.out.below hbX)
    have nHY := hI9 (HY.out.below hbX)
    have nHZ := hI9 (HZ.out.below hbX)
    have nHG := hI9 (HG.out.below hbX)
    have nHB := hI9 (bthen HB.out hbX)
    clear HX HY HZ HG HB hbX
    have HX := nHX
    have HY := nHY
    have HZ := nHZ
    have HG := nHG
    have HB := nHB
    clear nHX nHY nHZ nHG nHB
    have z1 := HZ.out.cell 1
    simp only [gtA, gtS, gtZ] at z1
    have hmB := HMB.out
    have hmz : IntKind.i64.wrap ((m : Int) - 1) = (e1 : Int) := by rw [IntKind.wrap_i64]; omega
    have hez : (e1 : Int) < (m : Int) := by omega
    obtain ⟨hok, hGB, htW⟩ := HOW.out
    obtain ⟨-, hR0, hRe, -, hnd⟩ := HRF.out
    have hRl : R (m - 1) = (t0 : Int) := by rw [hme1]; exact hRe
    clear HOW HRF hmB hbE hE1 hE2
    obtain rfl : GB = false := hGB.trans (short_none HBE.out hok hR0 hRl hnd)
    clear hok hGB htW hR0 hRe hnd hRl hme1
    go_wp2_with (first | (go_at_call 7; (with_reducible refine (rworks_c _).mono ?_); rintro e w1 ⟨rfl, hb1⟩; have nHX := hI9 (HX.out.below hb1); have nHY := hI9 (HY.out.below hb1); have nHZ := hI9 (HZ.out.below hb1); have nHB := hI9 (bthen HB.out hb1); have zz1 := hb1.size; clear HX HY HZ HB hb1; have HX := nHX; have HY := nHY; have HZ := nHZ; have HB := nHB; clear nHX nHY nHZ nHB))
    go_ret
    exact ⟨rfl, HB.out⟩
 | some ys =>
  have hre : rtE 0 M.places.toNat (t0 : Int) (some ys) = 0 := by unfold rtE; rw [if_pos rfl, if_pos hrg]
  rw [hre] at hres ⊢
  obtain ⟨ys2, hys, hsb⟩ := hres.1 rfl
  cases hys
  clear hre hres
  obtain ⟨hgY, e2, hk2, hy0, hyl, he7, hndY⟩ := short_best HBE.out
  have hokY : (F.wayR ys).okB M.places.toNat (lgT S n) = true := (Bool.and_eq_true_iff.1 hgY).1
  obtain ⟨k, hk⟩ : ∃ q, ys.length = q := ⟨_, rfl⟩
  obtain ⟨tB, htB⟩ : ∃ q, F.finR (lgT S n) ys = q := ⟨_, rfl⟩
  have HTB9 := hI9 (And.intro htB hk)
  have hatY : (F.wayR ys).at_ (lgT S n) e2 = tB := by rw [← htB]; unfold FliD.finR FliD.arr; rw [show (F.wayR ys).m = e2 + 1 from hk2]; rfl
  have HSF := hI9 (show ∀ w1, MetAt w1 vF vS M → RecsAt w1 A n 3 (nV S) → ∀ bB oB cB, SlI w1 (.slice (some ⟨bB, oB, none⟩) k cB) k (rF ys) → Calls Tryz.prog 17 #[.agg #[.int .i64 M.places, .int .i64 M.any.a0, .int .i64 M.any.a1, .int .i64 M.any.a2, .int .i64 M.any.a3, .int .i64 M.any.a4, .int .i64 M.any.a5, .bool M.any.i, .bool M.any.s, .int .i64 M.mw, .int .i64 M.ms, .int .i64 M.mc, vF, vS], .agg #[.int .i64 lw, .int .i64 ls, .int .i64 lc, .bool li, .bool lb], .slice A n c, .agg #[.slice (some ⟨bB, oB, none⟩) k cB, .int .i64 F.dep, .int .i64 F.fuel, .int .i64 F.burn, .int .i64 F.res]] w1 fun e w' => SfW true e ∧ RowKit.Below w1.heap.size w1 w' from fun w1 h1 h2 bB oB cB h3 => by rw [← hgY]; exact safe_way M vF vS lw ls lc li lb A n c S F (.slice (some ⟨bB, oB, none⟩) k cB) ys w1 HNM.out hokY h1 hc1 hc2 h2 (by rw [hk]; exact h3))
  have HAV := hI9 (show ∀ w1, MetAt w1 vF vS M → RecsAt w1 A n 3 (nV S) → ∀ bB oB cB, SlI w1 (.slice (some ⟨bB, oB, none⟩) k cB) k (rF ys) → Calls Tryz.prog 9 #[.agg #[.int .i64 M.places, .int .i64 M.any.a0, .int .i64 M.any.a1, .int .i64 M.any.a2, .int .i64 M.any.a3, .int .i64 M.any.a4, .int .i64 M.any.a5, .bool M.any.i, .bool M.any.s, .int .i64 M.mw, .int .i64 M.ms, .int .i64 M.mc, vF, vS], .slice A n c, .agg #[.slice (some ⟨bB, oB, none⟩) k cB, .int .i64 F.dep, .int .i64 F.fuel, .int .i64 F.burn, .int .i64 F.res]] w1 fun e w' => ∃ v, e = .returned (.tuple #[v, .int .i64 0]) ∧ RowKit.Below w1.heap.size w1 w' ∧ SlI w' v ys.length ((F.wayR ys).at_ (lgT S n)) from fun w1 h1 h2 bB oB cB h3 => arr_way M vF vS A n c S F (.slice (some ⟨bB, oB, none⟩) k cB) ys w1 HNE.out hokY h1 hc1 hc2 h2 (by rw [hk]; exact h3))
  rw [hk] at HAV
  rw [hk] at hsb hk2 hndY
  have HTB := hI9 (show ∀ w1 v, SlI w1 v k (rF ys) → Calls Tryz.prog 18 #[v] w1 fun e w' => e = .returned (.bool false) ∧ RowKit.Below w1.heap.size w1 w' from fun w1 v h => (twice_c _ k (rF ys) w1 h).mono (by rintro e w' ⟨b, rfl, h1, h2⟩; exact ⟨by rw [show b = false from Bool.eq_false_iff.2 fun q => hndY (h1.1 q)], h2⟩))
  obtain ⟨AB, cB, rfl, hB1, hB2, hBc⟩ := hsb
  obtain ⟨bB, oB, rfl, hbB, hcB⟩ := hBc (by omega)
  have HSY := hI9 (show SlI w3 (.slice (some ⟨bB, oB, none⟩) k cB) k (rF ys) from ⟨_, _, rfl, hB1, hB2, hBc⟩)
  have HYF := hI9 (And.intro hk2 (And.intro hy0 (And.intro hyl he7)))
  clear hgY hokY htB hk hk2 hy0 hyl he7 hndY hB1 hB2 hBc hbB hcB
  obtain ⟨bR, oR, rfl, hbR, hcR⟩ := HRC.out hmm
  have r0 := (HB.out.cell (p := ⟨bR, oR + 0 * 1 + 0, none⟩) hbR).trans (hcR 0 hmm 0 (by omega))
  simp only [nL, Nat.zero_mul, Nat.add_zero] at r0
  rw [hfr] at r0
  have y0 := HY.out.cell 0
  simp only [gtA, gtS, gtZ] at y0
  clear hcR hfr
  have hm0 : (0 : Int) < (F.m : Int) := by omega
  have tok2 : True := trivial
  have tokS : True := trivial
  have hw3 := HZ.out.lt
  have tok3 : True := trivial
  have tok4 : True := trivial
  have tokH : True := trivial
  go_wp2_with (first | (have _t := tok2; refine wpl_row rfl 37 (.tmp 4) rfl _ rfl _ 5 HY.out Tryz.rowFli rfl ?_; simp only [Act.put]; clear tok2) | (have _t := tokS; refine wpl_store_newR rfl 37 (.tmp 10) (.tmp 56) rfl #[.slice (some ⟨bR, oR, none⟩) F.m cR, .int .i64 F.dep, .int .i64 F.fuel, .int .i64 F.burn, .int .i64 F.res] _ _ rfl ?_ rfl Tryz.sizeFli rfl (by simp [Value.oneCell']) ?_; (focus (simp; done)); simp only [Act.put]; clear tokS) | (have _t := tok3; refine wpl_mid rfl 29 _ rfl w.heap.size 0 rfl 34 _ #[.int .i64 M.places, .int .i64 M.any.a0, .int .i64 M.any.a1, .int .i64 M.any.a2, .int .i64 M.any.a3, .int .i64 M.any.a4, .int .i64 M.any.a5, .bool M.any.i, .bool M.any.s, .int .i64 M.mw, .int .i64 M.ms, .int .i64 M.mc, vF, vS] 14 (HX.out.alloc _) Tryz.rowMet [] [.int .i64 lw, .int .i64 ls, .int .i64 lc, .bool li, .bool lb, .slice A n c] rfl rfl rfl ?_; simp only [Act.put]; clear tok3; generalize hWX : World.alloc w3 _ = w4; have nX := HX.out.alloc (.cells #[.slice (some ⟨bB, oB, none⟩) k cB, .int .i64 F.dep, .int .i64 F.fuel, .int .i64 F.burn, .int .i64 F.res] 37); have nY := HY.out.alloc (.cells #[.slice (some ⟨bB, oB, none⟩) k cB, .int .i64 F.dep, .int .i64 F.fuel, .int .i64 F.burn, .int .i64 F.res] 37); have nZ := HZ.out.alloc (.cells #[.slice (some ⟨bB, oB, none⟩) k cB, .int .i64 F.dep, .int .i64 F.fuel, .int .i64 F.burn, .int .i64 F.res] 37); have nB := bal HB.out (.cells #[.slice (some ⟨bB, oB, none⟩) k cB, .int .i64 F.dep, .int .i64 F.fuel, .int .i64 F.burn, .int .i64 F.res] 37); have nG := Blk.new w3 37 #[.slice (some ⟨bB, oB, none⟩) k cB, .int .i64 F.dep, .int .i64 F.fuel, .int .i64 F.burn, .int .i64 F.res]; have nS := HSY.out.below (bal (RowKit.Below.refl _ w3) (.cells #[.slice (some ⟨bB, oB, none⟩) k cB, .int .i64 F.dep, .int .i64 F.fuel, .int .i64 F.burn, .int .i64 F.res] 37)); rw [hWX] at nX nY nZ nB nG nS; clear hWX HX HY HZ HB HSY x0 z0 r0 y0; have HSY := hI9 nS; clear nS; have HX := hI9 nX; have HY := hI9 nY; have HZ := hI9 nZ; have HB := hI9 nB; have HG := hI9 nG; clear nX nY nZ nB nG; have x19 := HX.out.cell 19; simp only [gtA, gtS, gtZ] at x19) | (have _t := tok4; refine wpl_mid rfl 31 _ rfl w.heap.size 14 rfl 34 _ #[.int .i64 lw, .int .i64 ls, .int .i64 lc, .bool li, .bool lb] 5 HX.out Tryz.rowMin [.int .i64 M.places, .int .i64 M.any.a0, .int .i64 M.any.a1, .int .i64 M.any.a2, .int .i64 M.any.a3, .int .i64 M.any.a4, .int .i64 M.any.a5, .bool M.any.i, .bool M.any.s, .int .i64 M.mw, .int .i64 M.ms, .int .i64 M.mc, vF, vS] [.slice A n c] rfl rfl rfl ?_; simp only [Act.put]; clear tok4) | (have _t := tokH; refine wpl_row rfl 37 (.tmp 10) rfl _ rfl _ 5 HG.out Tryz.rowFli rfl ?_; simp only [Act.put]; clear tokH))
  refine (HSF.out _ (HM.out.below HB.out) (HL.out.below HB.out) _ _ _ HSY.out).mono ?_
  rintro e w5 ⟨⟨s1, rfl⟩, hbX⟩
  clear x19 HSF
  have nHX := hI9 (HX.out.below hbX)
  have nHY := hI9 (HY.out.below hbX)
  have nHZ := hI9 (HZ.out.below hbX)
  have nHG := hI9 (HG.out.below hbX)
  have nHSY := hI9 (HSY.out.below hbX)
  have nHB := hI9 (bthen HB.out hbX)
  clear HX HY HZ HG HSY HB hbX
  have HX := nHX
  have HY := nHY
  have HZ := nHZ
  have HG := nHG
  have HSY := nHSY
  have HB := nHB
  clear nHX nHY nHZ nHG nHSY nHB
  have x19 := HX.out.cell 19
  simp only [gtA, gtS, gtZ] at x19
  have tok3 : True := trivial
  have tokH : True := trivial
  go_wp2_with (first | (have _t := tok3; refine wpl_mid rfl 29 _ rfl w.heap.size 0 rfl 34 _ #[.int .i64 M.places, .int .i64 M.any.a0, .int .i64 M.any.a1, .int .i64 M.any.a2, .int .i64 M.any.a3, .int .i64 M.any.a4, .int .i64 M.any.a5, .bool M.any.i, .bool M.any.s, .int .i64 M.mw, .int .i64 M.ms, .int .i64 M.mc, vF, vS] 14 HX.out Tryz.rowMet [] [.int .i64 lw, .int .i64 ls, .int .i64 lc, .bool li, .bool lb, .slice A n c] rfl rfl rfl ?_; simp only [Act.put]; clear tok3) | (have _t := tokH; refine wpl_row rfl 37 (.tmp 10) rfl _ rfl _ 5 HG.out Tryz.rowFli rfl ?_; simp only [Act.put]; clear tokH))
  refine (HAV.out _ (HM.out.below HB.out) (HL.out.below HB.out) _ _ _ HSY.out).mono ?_
  rintro e w6 ⟨vL, rfl, hbX, hLs⟩
  obtain ⟨AL, cL, rfl, hl1, hl2, hLc⟩ := hLs
  obtain ⟨hk2, hy0, hyl, he7⟩ := HYF.out
  obtain ⟨bL, oL, rfl, hbL, hcL⟩ := hLc (by omega)
  have HLC := hI9 (fun wr (hb : RowKit.Below w6.heap.size w6 wr) => (hb.cell (p := ⟨bL, oL + e2 * 1 + 0, none⟩) hbL).trans (hcL e2 (by omega) 0 (by omega)))
  simp only [nL, Nat.mul_one, Nat.add_zero] at HLC
  rw [hatY] at HLC
  clear hatY hl1 hl2 hLc hcL hbL x19 HAV
  have nHX := hI9 (HX.out.below hbX)
  have nHY := hI9 (HY.out.below hbX)
  have nHZ := hI9 (HZ.out.below hbX)
  have nHG := hI9 (HG.out.below hbX)
  have nHSY := hI9 (HSY.out.below hbX)
  have nHB := hI9 (bthen HB.out hbX)
  clear HX HY HZ HG HSY HB hbX
  have HX := nHX
  have HY := nHY
  have HZ := nHZ
  have HG := nHG
  have HSY := nHSY
  have HB := nHB
  clear nHX nHY nHZ nHG nHSY nHB
  obtain ⟨A9, c9, e9, q91, q92, hY9⟩ := HSY.out
  cases e9
  obtain ⟨b9, o9, e9, hb9, hc9⟩ := hY9 (by omega)
  cases e9
  have hb0 := hc9 0 (by omega) 0 (by omega)
  have hb1 := hc9 e2 (by omega) 0 (by omega)
  simp only [nL, Nat.zero_mul, Nat.mul_one, Nat.add_zero, hy0, hyl] at hb0 hb1
  have HC0 := hI9 (fun wr (hb : RowKit.Below w6.heap.size w6 wr) => (hb.cell (p := ⟨bB, oB, none⟩) hb9).trans hb0)
  have HCE2 := hI9 (fun wr (hb : RowKit.Below w6.heap.size w6 wr) => (hb.cell (p := ⟨bB, oB + e2, none⟩) hb9).trans hb1)
  have HMZ := hI9 (show IntKind.i64.wrap ((k : Int) - 1) = (e2 : Int) by rw [IntKind.wrap_i64]; omega)
  have HK0 := hI9 (show (0 : Int) < (k : Int) by omega)
  have HKZ := hI9 (show ((k : Int) == 0) = false from beq_eq_false_iff_ne.2 (by omega))
  have HKE := hI9 (show (e2 : Int) < (k : Int) by omega)
  clear hY9 hc9 hb9 hb0 hb1 q91 q92 hk2 hy0 hyl he7
  go_wp2_with (fail)
  refine wp_region_spec 43 (tbR (w.heap.size + 2) bB oB k cB cL fr t0 e2 (some ⟨bL, oL, none⟩)) (fun i => false) (by kernel_rfl) (by kernel_rfl) tbR_below ?hop2 ?htail2
  case hop2 =>
   simp only [List.take_succ_cons, List.take_zero, allOps]
   refine ⟨?_, ?_, ?_, ?_, ?_, ?_, ?_, ?_, ?_, ?_, ?_, ?_, ?_, ?_, ?_, ?_, ?_, ?_, ?_, ?_, ?_, ?_, ?_, ?_, ?_, ?_, ?_, ?_, ?_, ?_, ?_, ?_, ?_, ?_, ?_, ?_, ?_, ?_, ?_, ?_, ?_, ?_, ?_, trivial⟩
   ·as_aux_lemma =>
     intro u A w1 hA hb hd
     simp only [putAll, dstOf, gtA, gtS, gtZ, Option.bind_some, Option.bind, Act.put, List.setIfInBounds_toArray, List.set_cons_succ, List.set_cons_zero] at hA; subst hA
     have HB1 := hI9 hb
     clear hb hd
     go_wp2
     exact ⟨_, rfl, Below.refl _ _, rfl, fun h => absurd h (by decide)⟩
   ·as_aux_lemma =>
     intro u A w1 hA hb hd
     simp only [putAll, dstOf, gtA, gtS, gtZ, Option.bind_some, Option.bind, Act.put, List.setIfInBounds_toArray, List.set_cons_succ, List.set_cons_zero] at hA; subst hA
     have HB1 := hI9 hb
     have d0 : u 0 = _ := hd 0 (by omega) (by kernel_rfl)
     clear hb hd
     rw [d0]
     clear d0
     go_wp2
     exact ⟨_, rfl, Below.refl _ _, rfl, fun h => absurd h (by decide)⟩
   ·as_aux_lemma =>
     intro u A w1 hA hb hd
     simp only [putAll, dstOf, gtA, gtS, gtZ, Option.bind_some, Option.bind, Act.put, List.setIfInBounds_toArray, List.set_cons_succ, List.set_cons_zero] at hA; subst hA
     have HB1 := hI9 hb
     have d1 : u 1 = _ := hd 1 (by omega) (by kernel_rfl)
     clear hb hd
     rw [d1]
     clear d1
     go_wp2
     exact ⟨_, rfl, Below.refl _ _, rfl, fun h => absurd h (by decide)⟩
   ·as_aux_lemma =>
     intro u A w1 hA hb hd
     simp only [putAll, dstOf, gtA, gtS, gtZ, Option.bind_some, Option.bind, Act.put, List.setIfInBounds_toArray, List.set_cons_succ, List.set_cons_zero] at hA; subst hA
     have HB1 := hI9 hb
     have d2 : u 2 = _ := hd 2 (by omega) (by kernel_rfl)
     clear hb hd
     rw [d2]
     clear d2
     go_wp2
     exact ⟨_, rfl, Below.refl _ _, rfl, fun h => absurd h (by decide)⟩
   ·as_aux_lemma =>
     intro u A w1 hA hb hd
     simp only [putAll, dstOf, gtA, gtS, gtZ, Option.bind_some, Option.bind, Act.put, List.setIfInBounds_toArray, List.set_cons_succ, List.set_cons_zero] at hA; subst hA
     have HB1 := hI9 hb
     have d2 : u 2 = _ := hd 2 (by omega) (by kernel_rfl)
     have d3 : u 3 = _ := hd 3 (by omega) (by kernel_rfl)
     clear hb hd
     rw [d2, d3]
     clear d2 d3
     go_wp2
     exact ⟨_, rfl, Below.refl _ _, rfl, fun h => absurd h (by decide)⟩
   ·as_aux_lemma =>
     intro u A w1 hA hb hd
     simp only [putAll, dstOf, gtA, gtS, gtZ, Option.bind_some, Option.bind, Act.put, List.setIfInBounds_toArray, List.set_cons_succ, List.set_cons_zero] at hA; subst hA
     have HB1 := hI9 hb
     have d2 : u 2 = _ := hd 2 (by omega) (by kernel_rfl)
     have d4 : u 4 = _ := hd 4 (by omega) (by kernel_rfl)
     clear hb hd
     rw [d2, d4]
     clear d2 d4
     go_wp2
     exact ⟨_, rfl, Below.refl _ _, rfl, fun h => absurd h (by decide)⟩
   ·as_aux_lemma =>
     intro u A w1 hA hb hd
     simp only [putAll, dstOf, gtA, gtS, gtZ, Option.bind_some, Option.bind, Act.put, List.setIfInBounds_toArray, List.set_cons_succ, List.set_cons_zero] at hA; subst hA
     have HB1 := hI9 hb
     have d2 : u 2 = _ := hd 2 (by omega) (by kernel_rfl)
     have d5 : u 5 = _ := hd 5 (by omega) (by kernel_rfl)
     clear hb hd
     rw [d2, d5]
     clear d2 d5
     go_wp2
     exact ⟨_, rfl, Below.refl _ _, rfl, fun h => absurd h (by decide)⟩
   ·as_aux_lemma =>
     intro u A w1 hA hb hd
     simp only [putAll, dstOf, gtA, gtS, gtZ, Option.bind_some, Option.bind, Act.put, List.setIfInBounds_toArray, List.set_cons_succ, List.set_cons_zero] at hA; subst hA
     have HB1 := hI9 hb
     have d6 : u 6 = _ := hd 6 (by omega) (by kernel_rfl)
     clear hb hd
     rw [d6]
     clear d6
     go_wp2
     exact ⟨_, rfl, Below.refl _ _, rfl, fun h => absurd h (by decide)⟩
   ·as_aux_lemma =>
     intro u A w1 hA hb hd
     simp only [putAll, dstOf, gtA, gtS, gtZ, Option.bind_some, Option.bind, Act.put, List.setIfInBounds_toArray, List.set_cons_succ, List.set_cons_zero] at hA; subst hA
     have HB1 := hI9 hb
     have d6 : u 6 = _ := hd 6 (by omega) (by kernel_rfl)
     have d7 : u 7 = _ := hd 7 (by omega) (by kernel_rfl)
     clear hb hd
     rw [d6, d7]
     clear d6 d7
     go_wp2
     exact ⟨_, rfl, Below.refl _ _, rfl, fun h => absurd h (by decide)⟩
   ·as_aux_lemma =>
     intro u A w1 hA hb hd
     simp only [putAll, dstOf, gtA, gtS, gtZ, Option.bind_some, Option.bind, Act.put, List.setIfInBounds_toArray, List.set_cons_succ, List.set_cons_zero] at hA; subst hA
     have HB1 := hI9 hb
     have d6 : u 6 = _ := hd 6 (by omega) (by kernel_rfl)
     have d8 : u 8 = _ := hd 8 (by omega) (by kernel_rfl)
     clear hb hd
     rw [d6, d8]
     clear d6 d8
     go_wp2
     exact ⟨_, rfl, Below.refl _ _, rfl, fun h => absurd h (by decide)⟩
   ·as_aux_lemma =>
     intro u A w1 hA hb hd
     simp only [putAll, dstOf, gtA, gtS, gtZ, Option.bind_some, Option.bind, Act.put, List.setIfInBounds_toArray, List.set_cons_succ, List.set_cons_zero] at hA; subst hA
     have HB1 := hI9 hb
     have d6 : u 6 = _ := hd 6 (by omega) (by kernel_rfl)
     have d9 : u 9 = _ := hd 9 (by omega) (by kernel_rfl)
     clear hb hd
     rw [d6, d9]
     clear d6 d9
     go_wp2
     exact ⟨_, rfl, Below.refl _ _, rfl, fun h => absurd h (by decide)⟩
   ·as_aux_lemma =>
     intro u A w1 hA hb hd
     simp only [putAll, dstOf, gtA, gtS, gtZ, Option.bind_some, Option.bind, Act.put, List.setIfInBounds_toArray, List.set_cons_succ, List.set_cons_zero] at hA; subst hA
     have HB1 := hI9 hb
     have d10 : u 10 = _ := hd 10 (by omega) (by kernel_rfl)
     clear hb hd
     rw [d10]
     clear d10
     go_wp2
     exact ⟨_, rfl, Below.refl _ _, rfl, fun h => absurd h (by decide)⟩
   ·as_aux_lemma =>
     intro u A w1 hA hb hd
     simp only [putAll, dstOf, gtA, gtS, gtZ, Option.bind_some, Option.bind, Act.put, List.setIfInBounds_toArray, List.set_cons_succ, List.set_cons_zero] at hA; subst hA
     have HB1 := hI9 hb
     have d10 : u 10 = _ := hd 10 (by omega) (by kernel_rfl)
     have d11 : u 11 = _ := hd 11 (by omega) (by kernel_rfl)
     clear hb hd
     rw [d10, d11]
     clear d10 d11
     go_wp2
     exact ⟨_, rfl, Below.refl _ _, rfl, fun h => absurd h (by decide)⟩
   ·as_aux_lemma =>
     intro u A w1 hA hb hd
     simp only [putAll, dstOf, gtA, gtS, gtZ, Option.bind_some, Option.bind, Act.put, List.setIfInBounds_toArray, List.set_cons_succ, List.set_cons_zero] at hA; subst hA
     have HB1 := hI9 hb
     have d10 : u 10 = _ := hd 10 (by omega) (by kernel_rfl)
     clear hb hd
     rw [d10]
     clear d10
     go_wp2
     exact ⟨_, rfl, Below.refl _ _, rfl, fun h => absurd h (by decide)⟩
   ·as_aux_lemma =>
     intro u A w1 hA hb hd
     simp only [putAll, dstOf, gtA, gtS, gtZ, Option.bind_some, Option.bind, Act.put, List.setIfInBounds_toArray, List.set_cons_succ, List.set_cons_zero] at hA; subst hA
     have HB1 := hI9 hb
     have d10 : u 10 = _ := hd 10 (by omega) (by kernel_rfl)
     have d13 : u 13 = _ := hd 13 (by omega) (by kernel_rfl)
     clear hb hd
     rw [d10, d13]
     clear d10 d13
     go_wp2
     exact ⟨_, rfl, Below.refl _ _, rfl, fun h => absurd h (by decide)⟩
   ·as_aux_lemma =>
     intro u A w1 hA hb hd
     simp only [putAll, dstOf, gtA, gtS, gtZ, Option.bind_some, Option.bind, Act.put, List.setIfInBounds_toArray, List.set_cons_succ, List.set_cons_zero] at hA; subst hA
     have HB1 := hI9 hb
     have d10 : u 10 = _ := hd 10 (by omega) (by kernel_rfl)
     have d12 : u 12 = _ := hd 12 (by omega) (by kernel_rfl)
     have d14 : u 14 = _ := hd 14 (by omega) (by kernel_rfl)
     clear hb hd
     rw [d10, d12, d14]
     clear d10 d12 d14
     go_wp2
     exact ⟨_, rfl, Below.refl _ _, rfl, fun h => absurd h (by decide)⟩
   ·as_aux_lemma =>
     intro u A w1 hA hb hd
     simp only [putAll, dstOf, gtA, gtS, gtZ, Option.bind_some, Option.bind, Act.put, List.setIfInBounds_toArray, List.set_cons_succ, List.set_cons_zero] at hA; subst hA
     have HB1 := hI9 hb
     have d10 : u 10 = _ := hd 10 (by omega) (by kernel_rfl)
     have d15 : u 15 = _ := hd 15 (by omega) (by kernel_rfl)
     clear hb hd
     rw [d10, d15]
     clear d10 d15
     go_wp2
     exact ⟨_, rfl, Below.refl _ _, rfl, fun h => absurd h (by decide)⟩
   ·as_aux_lemma =>
     intro u A w1 hA hb hd
     simp only [putAll, dstOf, gtA, gtS, gtZ, Option.bind_some, Option.bind, Act.put, List.setIfInBounds_toArray, List.set_cons_succ, List.set_cons_zero] at hA; subst hA
     have HB1 := hI9 hb
     have d10 : u 10 = _ := hd 10 (by omega) (by kernel_rfl)
     have d16 : u 16 = _ := hd 16 (by omega) (by kernel_rfl)
     clear hb hd
     rw [d10, d16]
     clear d10 d16
     go_wp2
     exact ⟨_, rfl, Below.refl _ _, rfl, fun h => absurd h (by decide)⟩
   ·as_aux_lemma =>
     intro u A w1 hA hb hd
     simp only [putAll, dstOf, gtA, gtS, gtZ, Option.bind_some, Option.bind, Act.put, List.setIfInBounds_toArray, List.set_cons_succ, List.set_cons_zero] at hA; subst hA
     have HB1 := hI9 hb
     have d17 : u 17 = _ := hd 17 (by omega) (by kernel_rfl)
     clear hb hd
     rw [d17]
     clear d17
     go_wp2
     exact ⟨_, rfl, Below.refl _ _, rfl, fun h => absurd h (by decide)⟩
   ·as_aux_lemma =>
     intro u A w1 hA hb hd
     simp only [putAll, dstOf, gtA, gtS, gtZ, Option.bind_some, Option.bind, Act.put, List.setIfInBounds_toArray, List.set_cons_succ, List.set_cons_zero] at hA; subst hA
     have HB1 := hI9 hb
     have d17 : u 17 = _ := hd 17 (by omega) (by kernel_rfl)
     have d18 : u 18 = _ := hd 18 (by omega) (by kernel_rfl)
     clear hb hd
     rw [d17, d18]
     clear d17 d18
     go_wp2
     exact ⟨_, rfl, Below.refl _ _, rfl, fun h => absurd h (by decide)⟩
   ·as_aux_lemma =>
     intro u A w1 hA hb hd
     simp only [putAll, dstOf, gtA, gtS, gtZ, Option.bind_some, Option.bind, Act.put, List.setIfInBounds_toArray, List.set_cons_succ, List.set_cons_zero] at hA; subst hA
     have HB1 := hI9 hb
     have d17 : u 17 = _ := hd 17 (by omega) (by kernel_rfl)
     have d19 : u 19 = _ := hd 19 (by omega) (by kernel_rfl)
     clear hb hd
     rw [d17, d19]
     clear d17 d19
     have hkz : ((k : Int) == 0) = false := HKZ.out
     go_wp2
     exact ⟨_, rfl, Below.refl _ _, rfl, fun h => absurd h (by decide)⟩
   ·as_aux_lemma =>
     intro u A w1 hA hb hd
     simp only [putAll, dstOf, gtA, gtS, gtZ, Option.bind_some, Option.bind, Act.put, List.setIfInBounds_toArray, List.set_cons_succ, List.set_cons_zero] at hA; subst hA
     have HB1 := hI9 hb
     have d17 : u 17 = _ := hd 17 (by omega) (by kernel_rfl)
     have d20 : u 20 = _ := hd 20 (by omega) (by kernel_rfl)
     clear hb hd
     rw [d17, d20]
     clear d17 d20
     go_wp2
     exact ⟨_, rfl, Below.refl _ _, rfl, fun h => absurd h (by decide)⟩
   ·as_aux_lemma =>
     intro u A w1 hA hb hd
     simp only [putAll, dstOf, gtA, gtS, gtZ, Option.bind_some, Option.bind, Act.put, List.setIfInBounds_toArray, List.set_cons_succ, List.set_cons_zero] at hA; subst hA
     have HB1 := hI9 hb
     have d17 : u 17 = _ := hd 17 (by omega) (by kernel_rfl)
     have d21 : u 21 = _ := hd 21 (by omega) (by kernel_rfl)
     clear hb hd
     rw [d17, d21]
     clear d17 d21
     go_wp2
     exact ⟨_, rfl, Below.refl _ _, rfl, fun h => absurd h (by decide)⟩
   ·as_aux_lemma =>
     intro u A w1 hA hb hd
     simp only [putAll, dstOf, gtA, gtS, gtZ, Option.bind_some, Option.bind, Act.put, List.setIfInBounds_toArray, List.set_cons_succ, List.set_cons_zero] at hA; subst hA
     have HB1 := hI9 hb
     have d22 : u 22 = _ := hd 22 (by omega) (by kernel_rfl)
     clear hb hd
     rw [d22]
     clear d22
     go_wp2
     exact ⟨_, rfl, Below.refl _ _, rfl, fun h => absurd h (by decide)⟩
   ·as_aux_lemma =>
     intro u A w1 hA hb hd
     simp only [putAll, dstOf, gtA, gtS, gtZ, Option.bind_some, Option.bind, Act.put, List.setIfInBounds_toArray, List.set_cons_succ, List.set_cons_zero] at hA; subst hA
     have HB1 := hI9 hb
     have d22 : u 22 = _ := hd 22 (by omega) (by kernel_rfl)
     have d23 : u 23 = _ := hd 23 (by omega) (by kernel_rfl)
     clear hb hd
     rw [d22, d23]
     clear d22 d23
     have hk0 := HK0.out
     go_wp2
     exact ⟨_, rfl, Below.refl _ _, rfl, fun h => absurd h (by decide)⟩
   ·as_aux_lemma =>
     intro u A w1 hA hb hd
     simp only [putAll, dstOf, gtA, gtS, gtZ, Option.bind_some, Option.bind, Act.put, List.setIfInBounds_toArray, List.set_cons_succ, List.set_cons_zero] at hA; subst hA
     have HB1 := hI9 hb
     have d22 : u 22 = _ := hd 22 (by omega) (by kernel_rfl)
     have d24 : u 24 = _ := hd 24 (by omega) (by kernel_rfl)
     clear hb hd
     rw [d22, d24]
     clear d22 d24
     have xr := HC0.out _ HB1.out
     go_wp2
     exact ⟨_, rfl, Below.refl _ _, rfl, fun h => absurd h (by decide)⟩
   ·as_aux_lemma =>
     intro u A w1 hA hb hd
     simp only [putAll, dstOf, gtA, gtS, gtZ, Option.bind_some, Option.bind, Act.put, List.setIfInBounds_toArray, List.set_cons_succ, List.set_cons_zero] at hA; subst hA
     have HB1 := hI9 hb
     have d22 : u 22 = _ := hd 22 (by omega) (by kernel_rfl)
     clear hb hd
     rw [d22]
     clear d22
     go_wp2
     exact ⟨_, rfl, Below.refl _ _, rfl, fun h => absurd h (by decide)⟩
   ·as_aux_lemma =>
     intro u A w1 hA hb hd
     simp only [putAll, dstOf, gtA, gtS, gtZ, Option.bind_some, Option.bind, Act.put, List.setIfInBounds_toArray, List.set_cons_succ, List.set_cons_zero] at hA; subst hA
     have HB1 := hI9 hb
     have d22 : u 22 = _ := hd 22 (by omega) (by kernel_rfl)
     have d25 : u 25 = _ := hd 25 (by omega) (by kernel_rfl)
     have d26 : u 26 = _ := hd 26 (by omega) (by kernel_rfl)
     clear hb hd
     rw [d22, d25, d26]
     clear d22 d25 d26
     go_wp2
     exact ⟨_, rfl, Below.refl _ _, rfl, fun h => absurd h (by decide)⟩
   ·as_aux_lemma =>
     intro u A w1 hA hb hd
     simp only [putAll, dstOf, gtA, gtS, gtZ, Option.bind_some, Option.bind, Act.put, List.setIfInBounds_toArray, List.set_cons_succ, List.set_cons_zero] at hA; subst hA
     have HB1 := hI9 hb
     have d22 : u 22 = _ := hd 22 (by omega) (by kernel_rfl)
     have d27 : u 27 = _ := hd 27 (by omega) (by kernel_rfl)
     clear hb hd
     rw [d22, d27]
     clear d22 d27
     go_wp2
     exact ⟨_, rfl, Below.refl _ _, rfl, fun h => absurd h (by decide)⟩
   ·as_aux_lemma =>
     intro u A w1 hA hb hd
     simp only [putAll, dstOf, gtA, gtS, gtZ, Option.bind_some, Option.bind, Act.put, List.setIfInBounds_toArray, List.set_cons_succ, List.set_cons_zero] at hA; subst hA
     have HB1 := hI9 hb
     have d22 : u 22 = _ := hd 22 (by omega) (by kernel_rfl)
     have d28 : u 28 = _ := hd 28 (by omega) (by kernel_rfl)
     clear hb hd
     rw [d22, d28]
     clear d22 d28
     go_wp2
     exact ⟨_, rfl, Below.refl _ _, rfl, fun h => absurd h (by decide)⟩
   ·as_aux_lemma =>
     intro u A w1 hA hb hd
     simp only [putAll, dstOf, gtA, gtS, gtZ, Option.bind_some, Option.bind, Act.put, List.setIfInBounds_toArray, List.set_cons_succ, List.set_cons_zero] at hA; subst hA
     have HB1 := hI9 hb
     have d29 : u 29 = _ := hd 29 (by omega) (by kernel_rfl)
     clear hb hd
     rw [d29]
     clear d29
     go_wp2
     exact ⟨_, rfl, Below.refl _ _, rfl, fun h => absurd h (by decide)⟩
   ·as_aux_lemma =>
     intro u A w1 hA hb hd
     simp only [putAll, dstOf, gtA, gtS, gtZ, Option.bind_some, Option.bind, Act.put, List.setIfInBounds_toArray, List.set_cons_succ, List.set_cons_zero] at hA; subst hA
     have HB1 := hI9 hb
     have d29 : u 29 = _ := hd 29 (by omega) (by kernel_rfl)
     clear hb hd
     rw [d29]
     clear d29
     go_wp2
     exact ⟨_, rfl, Below.refl _ _, rfl, fun h => absurd h (by decide)⟩
   ·as_aux_lemma =>
     intro u A w1 hA hb hd
     simp only [putAll, dstOf, gtA, gtS, gtZ, Option.bind_some, Option.bind, Act.put, List.setIfInBounds_toArray, List.set_cons_succ, List.set_cons_zero] at hA; subst hA
     have HB1 := hI9 hb
     have d29 : u 29 = _ := hd 29 (by omega) (by kernel_rfl)
     have d31 : u 31 = _ := hd 31 (by omega) (by kernel_rfl)
     clear hb hd
     rw [d29, d31]
     clear d29 d31
     go_wp2
     exact ⟨_, rfl, Below.refl _ _, rfl, fun h => absurd h (by decide)⟩
   ·as_aux_lemma =>
     intro u A w1 hA hb hd
     simp only [putAll, dstOf, gtA, gtS, gtZ, Option.bind_some, Option.bind, Act.put, List.setIfInBounds_toArray, List.set_cons_succ, List.set_cons_zero] at hA; subst hA
     have HB1 := hI9 hb
     have d29 : u 29 = _ := hd 29 (by omega) (by kernel_rfl)
     have d32 : u 32 = _ := hd 32 (by omega) (by kernel_rfl)
     clear hb hd
     rw [d29, d32]
     clear d29 d32
     have hmz := HMZ.out
     go_wp2
     exact ⟨_, rfl, Below.refl _ _, rfl, fun h => absurd h (by decide)⟩
   ·as_aux_lemma =>
     intro u A w1 hA hb hd
     simp only [putAll, dstOf, gtA, gtS, gtZ, Option.bind_some, Option.bind, Act.put, List.setIfInBounds_toArray, List.set_cons_succ, List.set_cons_zero] at hA; subst hA
     have HB1 := hI9 hb
     have d29 : u 29 = _ := hd 29 (by omega) (by kernel_rfl)
     have d30 : u 30 = _ := hd 30 (by omega) (by kernel_rfl)
     have d33 : u 33 = _ := hd 33 (by omega) (by kernel_rfl)
     clear hb hd
     rw [d29, d30, d33]
     clear d29 d30 d33
     have hez := HKE.out
     go_wp2
     exact ⟨_, rfl, Below.refl _ _, rfl, fun h => absurd h (by decide)⟩
   ·as_aux_lemma =>
     intro u A w1 hA hb hd
     simp only [putAll, dstOf, gtA, gtS, gtZ, Option.bind_some, Option.bind, Act.put, List.setIfInBounds_toArray, List.set_cons_succ, List.set_cons_zero] at hA; subst hA
     have HB1 := hI9 hb
     have d29 : u 29 = _ := hd 29 (by omega) (by kernel_rfl)
     have d34 : u 34 = _ := hd 34 (by omega) (by kernel_rfl)
     clear hb hd
     rw [d29, d34]
     clear d29 d34
     have xr := HCE2.out _ HB1.out
     go_wp2
     exact ⟨_, rfl, Below.refl _ _, rfl, fun h => absurd h (by decide)⟩
   ·as_aux_lemma =>
     intro u A w1 hA hb hd
     simp only [putAll, dstOf, gtA, gtS, gtZ, Option.bind_some, Option.bind, Act.put, List.setIfInBounds_toArray, List.set_cons_succ, List.set_cons_zero] at hA; subst hA
     have HB1 := hI9 hb
     have d29 : u 29 = _ := hd 29 (by omega) (by kernel_rfl)
     clear hb hd
     rw [d29]
     clear d29
     go_wp2
     exact ⟨_, rfl, Below.refl _ _, rfl, fun h => absurd h (by decide)⟩
   ·as_aux_lemma =>
     intro u A w1 hA hb hd
     simp only [putAll, dstOf, gtA, gtS, gtZ, Option.bind_some, Option.bind, Act.put, List.setIfInBounds_toArray, List.set_cons_succ, List.set_cons_zero] at hA; subst hA
     have HB1 := hI9 hb
     have d29 : u 29 = _ := hd 29 (by omega) (by kernel_rfl)
     have d36 : u 36 = _ := hd 36 (by omega) (by kernel_rfl)
     clear hb hd
     rw [d29, d36]
     clear d29 d36
     have xz := (HZ.out.below HB1.out).cell 0
     simp only [gtA, gtS, gtZ] at xz
     go_wp2
     exact ⟨_, rfl, Below.refl _ _, rfl, fun h => absurd h (by decide)⟩
   ·as_aux_lemma =>
     intro u A w1 hA hb hd
     simp only [putAll, dstOf, gtA, gtS, gtZ, Option.bind_some, Option.bind, Act.put, List.setIfInBounds_toArray, List.set_cons_succ, List.set_cons_zero] at hA; subst hA
     have HB1 := hI9 hb
     have d29 : u 29 = _ := hd 29 (by omega) (by kernel_rfl)
     have d35 : u 35 = _ := hd 35 (by omega) (by kernel_rfl)
     have d37 : u 37 = _ := hd 37 (by omega) (by kernel_rfl)
     clear hb hd
     rw [d29, d35, d37]
     clear d29 d35 d37
     go_wp2
     exact ⟨_, rfl, Below.refl _ _, rfl, fun h => absurd h (by decide)⟩
   ·as_aux_lemma =>
     intro u A w1 hA hb hd
     simp only [putAll, dstOf, gtA, gtS, gtZ, Option.bind_some, Option.bind, Act.put, List.setIfInBounds_toArray, List.set_cons_succ, List.set_cons_zero] at hA; subst hA
     have HB1 := hI9 hb
     have d29 : u 29 = _ := hd 29 (by omega) (by kernel_rfl)
     have d38 : u 38 = _ := hd 38 (by omega) (by kernel_rfl)
     clear hb hd
     rw [d29, d38]
     clear d29 d38
     go_wp2
     exact ⟨_, rfl, Below.refl _ _, rfl, fun h => absurd h (by decide)⟩
   ·as_aux_lemma =>
     intro u A w1 hA hb hd
     simp only [putAll, dstOf, gtA, gtS, gtZ, Option.bind_some, Option.bind, Act.put, List.setIfInBounds_toArray, List.set_cons_succ, List.set_cons_zero] at hA; subst hA
     have HB1 := hI9 hb
     have d29 : u 29 = _ := hd 29 (by omega) (by kernel_rfl)
     have d39 : u 39 = _ := hd 39 (by omega) (by kernel_rfl)
     clear hb hd
     rw [d29, d39]
     clear d29 d39
     go_wp2
     exact ⟨_, rfl, Below.refl _ _, rfl, fun h => absurd h (by decide)⟩
   ·as_aux_lemma =>
     intro u A w1 hA hb hd
     simp only [putAll, dstOf, gtA, gtS, gtZ, Option.bind_some, Option.bind, Act.put, List.setIfInBounds_toArray, List.set_cons_succ, List.set_cons_zero] at hA; subst hA
     have HB1 := hI9 hb
     have d40 : u 40 = _ := hd 40 (by omega) (by kernel_rfl)
     clear hb hd
     rw [d40]
     clear d40
     go_wp2
     exact ⟨_, rfl, Below.refl _ _, rfl, fun h => absurd h (by decide)⟩
   ·as_aux_lemma =>
     intro u A w1 hA hb hd
     simp only [putAll, dstOf, gtA, gtS, gtZ, Option.bind_some, Option.bind, Act.put, List.setIfInBounds_toArray, List.set_cons_succ, List.set_cons_zero] at hA; subst hA
     have HB1 := hI9 hb
     have d40 : u 40 = _ := hd 40 (by omega) (by kernel_rfl)
     have d41 : u 41 = _ := hd 41 (by omega) (by kernel_rfl)
     clear hb hd
     rw [d40, d41]
     clear d40 d41
     go_wp2_with (go_at_call 18; (with_reducible refine (HTB.out _ _ (HSY.out.below HB1.out)).mono ?_); rintro e w2 ⟨rfl, hb2⟩)
     exact ⟨_, rfl, hb2, rfl, fun h => absurd h (by decide)⟩
  case htail2 =>
   as_aux_lemma =>
    intro u A w1 hA hb hd hf
    simp only [putAll, dstOf, gtA, gtS, gtZ, Option.bind_some, Option.bind, Act.put, List.setIfInBounds_toArray, List.set_cons_succ, List.set_cons_zero] at hA; subst hA
    have e0 : u 0 = _ := hd 0 (by omega)
    have e1 : u 1 = _ := hd 1 (by omega)
    have e2 : u 2 = _ := hd 2 (by omega)
    have e3 : u 3 = _ := hd 3 (by omega)
    have e4 : u 4 = _ := hd 4 (by omega)
    have e5 : u 5 = _ := hd 5 (by omega)
    have e6 : u 6 = _ := hd 6 (by omega)
    have e7 : u 7 = _ := hd 7 (by omega)
    have e8 : u 8 = _ := hd 8 (by omega)
    have e9 : u 9 = _ := hd 9 (by omega)
    have e10 : u 10 = _ := hd 10 (by omega)
    have e11 : u 11 = _ := hd 11 (by omega)
    have e12 : u 12 = _ := hd 12 (by omega)
    have e13 : u 13 = _ := hd 13 (by omega)
    have e14 : u 14 = _ := hd 14 (by omega)
    have e15 : u 15 = _ := hd 15 (by omega)
    have e16 : u 16 = _ := hd 16 (by omega)
    have e17 : u 17 = _ := hd 17 (by omega)
    have e18 : u 18 = _ := hd 18 (by omega)
    have e19 : u 19 = _ := hd 19 (by omega)
    have e20 : u 20 = _ := hd 20 (by omega)
    have e21 : u 21 = _ := hd 21 (by omega)
    have e22 : u 22 = _ := hd 22 (by omega)
    have e23 : u 23 = _ := hd 23 (by omega)
    have e24 : u 24 = _ := hd 24 (by omega)
    have e25 : u 25 = _ := hd 25 (by omega)
    have e26 : u 26 = _ := hd 26 (by omega)
    have e27 : u 27 = _ := hd 27 (by omega)
    have e28 : u 28 = _ := hd 28 (by omega)
    have e29 : u 29 = _ := hd 29 (by omega)
    have e30 : u 30 = _ := hd 30 (by omega)
    have e31 : u 31 = _ := hd 31 (by omega)
    have e32 : u 32 = _ := hd 32 (by omega)
    have e33 : u 33 = _ := hd 33 (by omega)
    have e34 : u 34 = _ := hd 34 (by omega)
    have e35 : u 35 = _ := hd 35 (by omega)
    have e36 : u 36 = _ := hd 36 (by omega)
    have e37 : u 37 = _ := hd 37 (by omega)
    have e38 : u 38 = _ := hd 38 (by omega)
    have e39 : u 39 = _ := hd 39 (by omega)
    have e40 : u 40 = _ := hd 40 (by omega)
    have e41 : u 41 = _ := hd 41 (by omega)
    have e42 : u 42 = _ := hd 42 (by omega)
    first | rw [e0, e1, e2, e3, e4, e5, e6, e7, e8, e9, e10, e11, e12, e13, e14, e15, e16, e17, e18, e19, e20, e21, e22, e23, e24, e25, e26, e27, e28, e29, e30, e31, e32, e33, e34, e35, e36, e37, e38, e39, e40, e41, e42] | simp only [e0, e1, e2, e3, e4, e5, e6, e7, e8, e9, e10, e11, e12, e13, e14, e15, e16, e17, e18, e19, e20, e21, e22, e23, e24, e25, e26, e27, e28, e29, e30, e31, e32, e33, e34, e35, e36, e37, e38, e39, e40, e41, e42]
    clear e0 e1 e2 e3 e4 e5 e6 e7 e8 e9 e10 e11 e12 e13 e14 e15 e16 e17 e18 e19 e20 e21 e22 e23 e24 e25 e26 e27 e28 e29 e30 e31 e32 e33 e34 e35 e36 e37 e38 e39 e40 e41 e42
    clear hd hf
    have a1 := HLC.out _ hb
    have nHX := hI9 (HX.out.below hb)
    have nHY := hI9 (HY.out.below hb)
    have nHZ := hI9 (HZ.out.below hb)
    have nHG := hI9 (HG.out.below hb)
    have nHSY := hI9 (HSY.out.below hb)
    have nHB := hI9 (bthen HB.out hb)
    clear HX HY HZ HG HSY HB hb
    have HX := nHX
    have HY := nHY
    have HZ := nHZ
    have HG := nHG
    have HSY := nHSY
    have HB := nHB
    clear nHX nHY nHZ nHG nHSY nHB
    have hmz := HMZ.out
    have hez := HKE.out
    go_wp2_with (fail)
    clear a1 hmz hez HLC HC0 HCE2 HMZ HK0 HKZ HKE HYF HTB
    generalize w3.heap.size = gG at *
    obtain ⟨w4, rfl⟩ : ∃ q, q = w1 := ⟨_, rfl⟩
    obtain ⟨zA, hzA⟩ : ∃ q, q = ((m : Int) == 0) := ⟨_, rfl⟩
    obtain ⟨e1, he1⟩ : ∃ q, q = m - 1 := ⟨_, rfl⟩
    obtain ⟨zB, hzB⟩ : ∃ q, q = (R 0 != (fr : Int)) := ⟨_, rfl⟩
    obtain ⟨zC, hzC⟩ : ∃ q, q = (R e1 != (t0 : Int)) := ⟨_, rfl⟩
    obtain ⟨z1, hz1⟩ : ∃ q, q = (zA || zB) := ⟨_, rfl⟩
    obtain ⟨z2, hz2⟩ : ∃ q, q = (z1 || zC) := ⟨_, rfl⟩
    have HM0 := hI9 (show zA = false → 0 < m from fun h => by rw [h] at hzA; have := beq_eq_false_iff_ne.1 hzA.symm; omega)
    have HM1 := hI9 (show z1 = false → m = e1 + 1 from fun h => by rw [h] at hz1; have := HM0.out (Bool.or_eq_false_iff.1 hz1.symm).1; omega)
    have hmB := (show (m : Int) ≤ 9223372036854775807 from HMB.out)
    have HWZ := hI9 (show z1 = false → IntKind.i64.wrap ((m : Int) - 1) = (e1 : Int) from fun h => by have := HM1.out h; rw [IntKind.wrap_i64]; omega)
    clear he1
    obtain ⟨zD, hzD⟩ : ∃ q : Bool, (q = true ↔ ∃ i j, j < i ∧ i < m ∧ R i = R j) := ⟨@decide (∃ i j, j < i ∧ i < m ∧ R i = R j) (Classical.propDecidable _), by simp⟩
    have HZB := hI9 (And.intro hzA (And.intro hzB (And.intro hzC (And.intro hz1 hz2))))
    have HZD := hI9 hzD
    clear hzA hzB hzC hzD hz1 hz2 hmB
    have HCW := hI9 (fun wr (hb : RowKit.Below w4.heap.size w4 wr) (h : 0 < m) i (hi : i < m) => ((bthen HB.out hb).cell (p := ⟨bW, oW + i, none⟩) (HAW.out h).2.1).trans ((HAW.out h).2.2 i hi))
    have HTW := hI9 (show ∀ w1, SlI w1 (.slice AW m cW) m R → Calls Tryz.prog 18 #[.slice AW m cW] w1 fun e w' => e = .returned (.bool zD) ∧ RowKit.Below w1.heap.size w1 w' from fun w1 h => (twice_c _ m R w1 h).mono (by rintro e w' ⟨b, rfl, h1, h2⟩; exact ⟨by rw [Bool.eq_iff_iff.2 (h1.trans HZD.out.symm)], h2⟩))
    refine wp_region_spec 29 (tsR (w.heap.size + 2) bW oW m cW AW R (fr : Int) (t0 : Int) e1 zA zB zC zD z1 z2) (fun i => false) (by kernel_rfl) (by kernel_rfl) tsR_below ?hop3 ?htail3
    case hop3 =>
     simp only [List.take_succ_cons, List.take_zero, allOps]
     refine ⟨?_, ?_, ?_, ?_, ?_, ?_, ?_, ?_, ?_, ?_, ?_, ?_, ?_, ?_, ?_, ?_, ?_, ?_, ?_, ?_, ?_, ?_, ?_, ?_, ?_, ?_, ?_, ?_, ?_, trivial⟩
     ·as_aux_lemma =>
       intro u A w1 hA hb hd
       simp only [putAll, dstOf, gtA, gtS, gtZ, Option.bind_some, Option.bind, Act.put, List.setIfInBounds_toArray, List.set_cons_succ, List.set_cons_zero] at hA; subst hA
       have HB1 := hI9 hb
       clear hb hd
       go_wp2
       exact ⟨_, rfl, Below.refl _ _, rfl, fun h => absurd h (by decide)⟩
     ·as_aux_lemma =>
       intro u A w1 hA hb hd
       simp only [putAll, dstOf, gtA, gtS, gtZ, Option.bind_some, Option.bind, Act.put, List.setIfInBounds_toArray, List.set_cons_succ, List.set_cons_zero] at hA; subst hA
       have HB1 := hI9 hb
       have d0 : u 0 = _ := hd 0 (by omega) (by kernel_rfl)
       clear hb hd
       rw [d0]
       clear d0
       have xz := (HZ.out.below HB1.out).cell 1
       simp only [gtA, gtS, gtZ] at xz
       go_wp2
       exact ⟨_, rfl, Below.refl _ _, rfl, fun h => absurd h (by decide)⟩
     ·as_aux_lemma =>
       intro u A w1 hA hb hd
       simp only [putAll, dstOf, gtA, gtS, gtZ, Option.bind_some, Option.bind, Act.put, List.setIfInBounds_toArray, List.set_cons_succ, List.set_cons_zero] at hA; subst hA
       have HB1 := hI9 hb
       have d1 : u 1 = _ := hd 1 (by omega) (by kernel_rfl)
       clear hb hd
       rw [d1]
       clear d1
       go_wp2
       exact ⟨_, rfl, Below.refl _ _, rfl, fun h => absurd h (by decide)⟩
     ·as_aux_lemma =>
       intro u A w1 hA hb hd
       simp only [putAll, dstOf, gtA, gtS, gtZ, Option.bind_some, Option.bind, Act.put, List.setIfInBounds_toArray, List.set_cons_succ, List.set_cons_zero] at hA; subst hA
       have HB1 := hI9 hb
       have d2 : u 2 = _ := hd 2 (by omega) (by kernel_rfl)
       clear hb hd
       rw [d2]
       clear d2
       go_wp2
       exact ⟨_, rfl, RowKit.Below.refl _ _, congrArg Value.bool HZB.out.1.symm, fun h => absurd h (by decide)⟩
     ·as_aux_lemma =>
       intro u A w1 hA hb hd
       simp only [putAll, dstOf, gtA, gtS, gtZ, Option.bind_some, Option.bind, Act.put, List.setIfInBounds_toArray, List.set_cons_succ, List.set_cons_zero] at hA; subst hA
       have HB1 := hI9 hb
       have d3 : u 3 = _ := hd 3 (by omega) (by kernel_rfl)
       clear hb hd
       rw [d3]
       clear d3
       go_wp2
       exact ⟨_, rfl, Below.refl _ _, rfl, fun h => absurd h (by decide)⟩
     ·as_aux_lemma =>
       intro u A w1 hA hb hd
       simp only [putAll, dstOf, gtA, gtS, gtZ, Option.bind_some, Option.bind, Act.put, List.setIfInBounds_toArray, List.set_cons_succ, List.set_cons_zero] at hA; subst hA
       have HB1 := hI9 hb
       have d4 : u 4 = _ := hd 4 (by omega) (by kernel_rfl)
       clear hb hd
       rw [d4]
       clear d4
       rcases zA with _ | _
       ·(focus (go_wp2; exact ⟨_, rfl, RowKit.Below.refl _ _, fun _ => rfl, fun h => absurd h (by decide)⟩))
       ·(focus (go_wp2; exact ⟨_, rfl, RowKit.Below.refl _ _, (fun h => by cases h), fun h => absurd h (by decide)⟩))
       done
     ·as_aux_lemma =>
       intro u A w1 hA hb hd
       simp only [putAll, dstOf, gtA, gtS, gtZ, Option.bind_some, Option.bind, Act.put, List.setIfInBounds_toArray, List.set_cons_succ, List.set_cons_zero] at hA; subst hA
       have HB1 := hI9 hb
       have d4 : u 4 = _ := hd 4 (by omega) (by kernel_rfl)
       have d5 := hd 5 (by omega) (by kernel_rfl)
       clear hb hd
       rw [d4]
       clear d4
       rcases zA with _ | _
       ·(focus (have e5 : u 5 = _ := d5 rfl; rw [e5]; clear e5; have xz := (HZ.out.below HB1.out).cell 1; simp only [gtA, gtS, gtZ] at xz; go_wp2; exact ⟨_, rfl, RowKit.Below.refl _ _, fun _ => congrArg (fun q => Value.slice q m cW) (HAW.out (HM0.out (by first | rfl | trivial))).1, fun h => absurd h (by decide)⟩))
       ·(focus (go_wp2; exact ⟨_, rfl, RowKit.Below.refl _ _, (fun h => by cases h), fun h => absurd h (by decide)⟩))
       done
     ·as_aux_lemma =>
       intro u A w1 hA hb hd
       simp only [putAll, dstOf, gtA, gtS, gtZ, Option.bind_some, Option.bind, Act.put, List.setIfInBounds_toArray, List.set_cons_succ, List.set_cons_zero] at hA; subst hA
       have HB1 := hI9 hb
       have d4 : u 4 = _ := hd 4 (by omega) (by kernel_rfl)
       have d6 := hd 6 (by omega) (by kernel_rfl)
       clear hb hd
       rw [d4]
       clear d4
       rcases zA with _ | _
       ·(focus (have e6 : u 6 = _ := d6 rfl; rw [e6]; clear e6; have hm := HM0.out (by first | rfl | trivial); have hm0 : (0 : Int) < (m : Int) := (by omega); go_wp2; exact ⟨_, rfl, RowKit.Below.refl _ _, fun _ => rfl, fun h => absurd h (by decide)⟩))
       ·(focus (go_wp2; exact ⟨_, rfl, RowKit.Below.refl _ _, (fun h => by cases h), fun h => absurd h (by decide)⟩))
       done
     ·as_aux_lemma =>
       intro u A w1 hA hb hd
       simp only [putAll, dstOf, gtA, gtS, gtZ, Option.bind_some, Option.bind, Act.put, List.setIfInBounds_toArray, List.set_cons_succ, List.set_cons_zero] at hA; subst hA
       have HB1 := hI9 hb
       have d4 : u 4 = _ := hd 4 (by omega) (by kernel_rfl)
       have d7 := hd 7 (by omega) (by kernel_rfl)
       clear hb hd
       rw [d4]
       clear d4
       rcases zA with _ | _
       ·(focus (have e7 : u 7 = _ := d7 rfl; rw [e7]; clear e7; have xr := HCW.out _ HB1.out (HM0.out (by first | rfl | trivial)) 0 (HM0.out (by first | rfl | trivial)); simp only [Nat.add_zero] at xr; go_wp2; exact ⟨_, rfl, RowKit.Below.refl _ _, fun _ => rfl, fun h => absurd h (by decide)⟩))
       ·(focus (go_wp2; exact ⟨_, rfl, RowKit.Below.refl _ _, (fun h => by cases h), fun h => absurd h (by decide)⟩))
       done
     ·as_aux_lemma =>
       intro u A w1 hA hb hd
       simp only [putAll, dstOf, gtA, gtS, gtZ, Option.bind_some, Option.bind, Act.put, List.setIfInBounds_toArray, List.set_cons_succ, List.set_cons_zero] at hA; subst hA
       have HB1 := hI9 hb
       have d4 : u 4 = _ := hd 4 (by omega) (by kernel_rfl)
       clear hb hd
       rw [d4]
       clear d4
       rcases zA with _ | _
       ·(focus (go_wp2; exact ⟨_, rfl, RowKit.Below.refl _ _, fun _ => rfl, fun h => absurd h (by decide)⟩))
       ·(focus (go_wp2; exact ⟨_, rfl, RowKit.Below.refl _ _, (fun h => by cases h), fun h => absurd h (by decide)⟩))
       done
     ·as_aux_lemma =>
       intro u A w1 hA hb hd
       simp only [putAll, dstOf, gtA, gtS, gtZ, Option.bind_some, Option.bind, Act.put, List.setIfInBounds_toArray, List.set_cons_succ, List.set_cons_zero] at hA; subst hA
       have HB1 := hI9 hb
       have d4 : u 4 = _ := hd 4 (by omega) (by kernel_rfl)
       have d8 := hd 8 (by omega) (by kernel_rfl)
       have d9 := hd 9 (by omega) (by kernel_rfl)
       clear hb hd
       rw [d4]
       clear d4
       rcases zA with _ | _
       ·(focus (have e8 : u 8 = _ := d8 rfl; rw [e8]; clear e8; have e9 : u 9 = _ := d9 rfl; rw [e9]; clear e9; go_wp2; exact ⟨_, rfl, RowKit.Below.refl _ _, fun _ => congrArg Value.bool HZB.out.2.1.symm, fun h => absurd h (by decide)⟩))
       ·(focus (go_wp2; exact ⟨_, rfl, RowKit.Below.refl _ _, (fun h => by cases h), fun h => absurd h (by decide)⟩))
       done
     ·as_aux_lemma =>
       intro u A w1 hA hb hd
       simp only [putAll, dstOf, gtA, gtS, gtZ, Option.bind_some, Option.bind, Act.put, List.setIfInBounds_toArray, List.set_cons_succ, List.set_cons_zero] at hA; subst hA
       have HB1 := hI9 hb
       have d4 : u 4 = _ := hd 4 (by omega) (by kernel_rfl)
       have d10 := hd 10 (by omega) (by kernel_rfl)
       clear hb hd
       rw [d4]
       clear d4
       rcases zA with _ | _
       ·(focus (have e10 : u 10 = _ := d10 rfl; rw [e10]; clear e10; go_wp2; exact ⟨_, rfl, RowKit.Below.refl _ _, congrArg Value.bool HZB.out.2.2.2.1.symm, fun h => absurd h (by decide)⟩))
       ·(focus (go_wp2; exact ⟨_, rfl, RowKit.Below.refl _ _, congrArg Value.bool HZB.out.2.2.2.1.symm, fun h => absurd h (by decide)⟩))
       done
     ·as_aux_lemma =>
       intro u A w1 hA hb hd
       simp only [putAll, dstOf, gtA, gtS, gtZ, Option.bind_some, Option.bind, Act.put, List.setIfInBounds_toArray, List.set_cons_succ, List.set_cons_zero] at hA; subst hA
       have HB1 := hI9 hb
       have d4 : u 4 = _ := hd 4 (by omega) (by kernel_rfl)
       have d11 : u 11 = _ := hd 11 (by omega) (by kernel_rfl)
       clear hb hd
       rw [d4, d11]
       clear d4 d11
       go_wp2
       exact ⟨_, rfl, Below.refl _ _, rfl, fun h => absurd h (by decide)⟩
     ·as_aux_lemma =>
       intro u A w1 hA hb hd
       simp only [putAll, dstOf, gtA, gtS, gtZ, Option.bind_some, Option.bind, Act.put, List.setIfInBounds_toArray, List.set_cons_succ, List.set_cons_zero] at hA; subst hA
       have HB1 := hI9 hb
       have d12 : u 12 = _ := hd 12 (by omega) (by kernel_rfl)
       clear hb hd
       rw [d12]
       clear d12
       rcases z1 with _ | _
       ·(focus (go_wp2; exact ⟨_, rfl, RowKit.Below.refl _ _, fun _ => rfl, fun h => absurd h (by decide)⟩))
       ·(focus (go_wp2; exact ⟨_, rfl, RowKit.Below.refl _ _, (fun h => by cases h), fun h => absurd h (by decide)⟩))
       done
     ·as_aux_lemma =>
       intro u A w1 hA hb hd
       simp only [putAll, dstOf, gtA, gtS, gtZ, Option.bind_some, Option.bind, Act.put, List.setIfInBounds_toArray, List.set_cons_succ, List.set_cons_zero] at hA; subst hA
       have HB1 := hI9 hb
       have d12 : u 12 = _ := hd 12 (by omega) (by kernel_rfl)
       have d13 := hd 13 (by omega) (by kernel_rfl)
       clear hb hd
       rw [d12]
       clear d12
       rcases z1 with _ | _
       ·(focus (have e13 : u 13 = _ := d13 rfl; rw [e13]; clear e13; have xz := (HZ.out.below HB1.out).cell 1; simp only [gtA, gtS, gtZ] at xz; go_wp2; exact ⟨_, rfl, RowKit.Below.refl _ _, fun _ => congrArg (fun q => Value.slice q m cW) (HAW.out ((by have := HM1.out (by first | rfl | trivial); omega))).1, fun h => absurd h (by decide)⟩))
       ·(focus (go_wp2; exact ⟨_, rfl, RowKit.Below.refl _ _, (fun h => by cases h), fun h => absurd h (by decide)⟩))
       done
     ·as_aux_lemma =>
       intro u A w1 hA hb hd
       simp only [putAll, dstOf, gtA, gtS, gtZ, Option.bind_some, Option.bind, Act.put, List.setIfInBounds_toArray, List.set_cons_succ, List.set_cons_zero] at hA; subst hA
       have HB1 := hI9 hb
       have d12 : u 12 = _ := hd 12 (by omega) (by kernel_rfl)
       clear hb hd
       rw [d12]
       clear d12
       rcases z1 with _ | _
       ·(focus (go_wp2; exact ⟨_, rfl, RowKit.Below.refl _ _, fun _ => rfl, fun h => absurd h (by decide)⟩))
       ·(focus (go_wp2; exact ⟨_, rfl, RowKit.Below.refl _ _, (fun h => by cases h), fun h => absurd h (by decide)⟩))
       done
     ·as_aux_lemma =>
       intro u A w1 hA hb hd
       simp only [putAll, dstOf, gtA, gtS, gtZ, Option.bind_some, Option.bind, Act.put, List.setIfInBounds_toArray, List.set_cons_succ, List.set_cons_zero] at hA; subst hA
       have HB1 := hI9 hb
       have d12 : u 12 = _ := hd 12 (by omega) (by kernel_rfl)
       have d15 := hd 15 (by omega) (by kernel_rfl)
       clear hb hd
       rw [d12]
       clear d12
       rcases z1 with _ | _
       ·(focus (have e15 : u 15 = _ := d15 rfl; rw [e15]; clear e15; have xz := (HZ.out.below HB1.out).cell 1; simp only [gtA, gtS, gtZ] at xz; go_wp2; exact ⟨_, rfl, RowKit.Below.refl _ _, fun _ => rfl, fun h => absurd h (by decide)⟩))
       ·(focus (go_wp2; exact ⟨_, rfl, RowKit.Below.refl _ _, (fun h => by cases h), fun h => absurd h (by decide)⟩))
       done
     ·as_aux_lemma =>
       intro u A w1 hA hb hd
       simp only [putAll, dstOf, gtA, gtS, gtZ, Option.bind_some, Option.bind, Act.put, List.setIfInBounds_toArray, List.set_cons_succ, List.set_cons_zero] at hA; subst hA
       have HB1 := hI9 hb
       have d12 : u 12 = _ := hd 12 (by omega) (by kernel_rfl)
       have d16 := hd 16 (by omega) (by kernel_rfl)
       clear hb hd
       rw [d12]
       clear d12
       rcases z1 with _ | _
       ·(focus (have e16 : u 16 = _ := d16 rfl; rw [e16]; clear e16; go_wp2; exact ⟨_, rfl, RowKit.Below.refl _ _, fun _ => rfl, fun h => absurd h (by decide)⟩))
       ·(focus (go_wp2; exact ⟨_, rfl, RowKit.Below.refl _ _, (fun h => by cases h), fun h => absurd h (by decide)⟩))
       done
     ·as_aux_lemma =>
       intro u A w1 hA hb hd
       simp only [putAll, dstOf, gtA, gtS, gtZ, Option.bind_some, Option.bind, Act.put, List.setIfInBounds_toArray, List.set_cons_succ, List.set_cons_zero] at hA; subst hA
       have HB1 := hI9 hb
       have d12 : u 12 = _ := hd 12 (by omega) (by kernel_rfl)
       have d17 := hd 17 (by omega) (by kernel_rfl)
       clear hb hd
       rw [d12]
       clear d12
       rcases z1 with _ | _
       ·(focus (have e17 : u 17 = _ := d17 rfl; rw [e17]; clear e17; have hmz := HWZ.out (by first | rfl | trivial); go_wp2; exact ⟨_, rfl, RowKit.Below.refl _ _, fun _ => rfl, fun h => absurd h (by decide)⟩))
       ·(focus (go_wp2; exact ⟨_, rfl, RowKit.Below.refl _ _, (fun h => by cases h), fun h => absurd h (by decide)⟩))
       done
     ·as_aux_lemma =>
       intro u A w1 hA hb hd
       simp only [putAll, dstOf, gtA, gtS, gtZ, Option.bind_some, Option.bind, Act.put, List.setIfInBounds_toArray, List.set_cons_succ, List.set_cons_zero] at hA; subst hA
       have HB1 := hI9 hb
       have d12 : u 12 = _ := hd 12 (by omega) (by kernel_rfl)
       have d14 := hd 14 (by omega) (by kernel_rfl)
       have d18 := hd 18 (by omega) (by kernel_rfl)
       clear hb hd
       rw [d12]
       clear d12
       rcases z1 with _ | _
       ·(focus (have e14 : u 14 = _ := d14 rfl; rw [e14]; clear e14; have e18 : u 18 = _ := d18 rfl; rw [e18]; clear e18; have hm1 := HM1.out (by first | rfl | trivial); have hez : (e1 : Int) < (m : Int) := (by omega); go_wp2; exact ⟨_, rfl, RowKit.Below.refl _ _, fun _ => rfl, fun h => absurd h (by decide)⟩))
       ·(focus (go_wp2; exact ⟨_, rfl, RowKit.Below.refl _ _, (fun h => by cases h), fun h => absurd h (by decide)⟩))
       done
     ·as_aux_lemma =>
       intro u A w1 hA hb hd
       simp only [putAll, dstOf, gtA, gtS, gtZ, Option.bind_some, Option.bind, Act.put, List.setIfInBounds_toArray, List.set_cons_succ, List.set_cons_zero] at hA; subst hA
       have HB1 := hI9 hb
       have d12 : u 12 = _ := hd 12 (by omega) (by kernel_rfl)
       have d19 := hd 19 (by omega) (by kernel_rfl)
       clear hb hd
       rw [d12]
       clear d12
       rcases z1 with _ | _
       ·(focus (have e19 : u 19 = _ := d19 rfl; rw [e19]; clear e19; have xr := HCW.out _ HB1.out (by have := HM1.out (by first | rfl | trivial); omega) e1 (by have := HM1.out (by first | rfl | trivial); omega); go_wp2; exact ⟨_, rfl, RowKit.Below.refl _ _, fun _ => rfl, fun h => absurd h (by decide)⟩))
       ·(focus (go_wp2; exact ⟨_, rfl, RowKit.Below.refl _ _, (fun h => by cases h), fun h => absurd h (by decide)⟩))
       done
     ·as_aux_lemma =>
       intro u A w1 hA hb hd
       simp only [putAll, dstOf, gtA, gtS, gtZ, Option.bind_some, Option.bind, Act.put, List.setIfInBounds_toArray, List.set_cons_succ, List.set_cons_zero] at hA; subst hA
       have HB1 := hI9 hb
       have d12 : u 12 = _ := hd 12 (by omega) (by kernel_rfl)
       clear hb hd
       rw [d12]
       clear d12
       rcases z1 with _ | _
       ·(focus (go_wp2; exact ⟨_, rfl, RowKit.Below.refl _ _, fun _ => rfl, fun h => absurd h (by decide)⟩))
       ·(focus (go_wp2; exact ⟨_, rfl, RowKit.Below.refl _ _, (fun h => by cases h), fun h => absurd h (by decide)⟩))
       done
     ·as_aux_lemma =>
       intro u A w1 hA hb hd
       simp only [putAll, dstOf, gtA, gtS, gtZ, Option.bind_some, Option.bind, Act.put, List.setIfInBounds_toArray, List.set_cons_succ, List.set_cons_zero] at hA; subst hA
       have HB1 := hI9 hb
       have d12 : u 12 = _ := hd 12 (by omega) (by kernel_rfl)
       have d21 := hd 21 (by omega) (by kernel_rfl)
       clear hb hd
       rw [d12]
       clear d12
       rcases z1 with _ | _
       ·(focus (have e21 : u 21 = _ := d21 rfl; rw [e21]; clear e21; have xz := (HZ.out.below HB1.out).cell 0; simp only [gtA, gtS, gtZ] at xz; go_wp2; exact ⟨_, rfl, RowKit.Below.refl _ _, fun _ => rfl, fun h => absurd h (by decide)⟩))
       ·(focus (go_wp2; exact ⟨_, rfl, RowKit.Below.refl _ _, (fun h => by cases h), fun h => absurd h (by decide)⟩))
       done
     ·as_aux_lemma =>
       intro u A w1 hA hb hd
       simp only [putAll, dstOf, gtA, gtS, gtZ, Option.bind_some, Option.bind, Act.put, List.setIfInBounds_toArray, List.set_cons_succ, List.set_cons_zero] at hA; subst hA
       have HB1 := hI9 hb
       have d12 : u 12 = _ := hd 12 (by omega) (by kernel_rfl)
       have d20 := hd 20 (by omega) (by kernel_rfl)
       have d22 := hd 22 (by omega) (by kernel_rfl)
       clear hb hd
       rw [d12]
       clear d12
       rcases z1 with _ | _
       ·(focus (have e20 : u 20 = _ := d20 rfl; rw [e20]; clear e20; have e22 : u 22 = _ := d22 rfl; rw [e22]; clear e22; go_wp2; exact ⟨_, rfl, RowKit.Below.refl _ _, fun _ => congrArg Value.bool HZB.out.2.2.1.symm, fun h => absurd h (by decide)⟩))
       ·(focus (go_wp2; exact ⟨_, rfl, RowKit.Below.refl _ _, (fun h => by cases h), fun h => absurd h (by decide)⟩))
       done
     ·as_aux_lemma =>
       intro u A w1 hA hb hd
       simp only [putAll, dstOf, gtA, gtS, gtZ, Option.bind_some, Option.bind, Act.put, List.setIfInBounds_toArray, List.set_cons_succ, List.set_cons_zero] at hA; subst hA
       have HB1 := hI9 hb
       have d12 : u 12 = _ := hd 12 (by omega) (by kernel_rfl)
       have d23 := hd 23 (by omega) (by kernel_rfl)
       clear hb hd
       rw [d12]
       clear d12
       rcases z1 with _ | _
       ·(focus (have e23 : u 23 = _ := d23 rfl; rw [e23]; clear e23; go_wp2; exact ⟨_, rfl, RowKit.Below.refl _ _, congrArg Value.bool HZB.out.2.2.2.2.symm, fun h => absurd h (by decide)⟩))
       ·(focus (go_wp2; exact ⟨_, rfl, RowKit.Below.refl _ _, congrArg Value.bool HZB.out.2.2.2.2.symm, fun h => absurd h (by decide)⟩))
       done
     ·as_aux_lemma =>
       intro u A w1 hA hb hd
       simp only [putAll, dstOf, gtA, gtS, gtZ, Option.bind_some, Option.bind, Act.put, List.setIfInBounds_toArray, List.set_cons_succ, List.set_cons_zero] at hA; subst hA
       have HB1 := hI9 hb
       have d12 : u 12 = _ := hd 12 (by omega) (by kernel_rfl)
       have d24 : u 24 = _ := hd 24 (by omega) (by kernel_rfl)
       clear hb hd
       rw [d12, d24]
       clear d12 d24
       go_wp2
       exact ⟨_, rfl, Below.refl _ _, rfl, fun h => absurd h (by decide)⟩
     ·as_aux_lemma =>
       intro u A w1 hA hb hd
       simp only [putAll, dstOf, gtA, gtS, gtZ, Option.bind_some, Option.bind, Act.put, List.setIfInBounds_toArray, List.set_cons_succ, List.set_cons_zero] at hA; subst hA
       have HB1 := hI9 hb
       have d25 : u 25 = _ := hd 25 (by omega) (by kernel_rfl)
       clear hb hd
       rw [d25]
       clear d25
       rcases z2 with _ | _
       ·(focus (go_wp2; exact ⟨_, rfl, RowKit.Below.refl _ _, fun _ => rfl, fun h => absurd h (by decide)⟩))
       ·(focus (go_wp2; exact ⟨_, rfl, RowKit.Below.refl _ _, (fun h => by cases h), fun h => absurd h (by decide)⟩))
       done
     ·as_aux_lemma =>
       intro u A w1 hA hb hd
       simp only [putAll, dstOf, gtA, gtS, gtZ, Option.bind_some, Option.bind, Act.put, List.setIfInBounds_toArray, List.set_cons_succ, List.set_cons_zero] at hA; subst hA
       have HB1 := hI9 hb
       have d25 : u 25 = _ := hd 25 (by omega) (by kernel_rfl)
       have d26 := hd 26 (by omega) (by kernel_rfl)
       clear hb hd
       rw [d25]
       clear d25
       rcases z2 with _ | _
       ·(focus (have e26 : u 26 = _ := d26 rfl; rw [e26]; clear e26; have xz := (HZ.out.below HB1.out).cell 1; simp only [gtA, gtS, gtZ] at xz; go_wp2; exact ⟨_, rfl, RowKit.Below.refl _ _, fun _ => rfl, fun h => absurd h (by decide)⟩))
       ·(focus (go_wp2; exact ⟨_, rfl, RowKit.Below.refl _ _, (fun h => by cases h), fun h => absurd h (by decide)⟩))
       done
     ·as_aux_lemma =>
       intro u A w1 hA hb hd
       simp only [putAll, dstOf, gtA, gtS, gtZ, Option.bind_some, Option.bind, Act.put, List.setIfInBounds_toArray, List.set_cons_succ, List.set_cons_zero] at hA; subst hA
       have HB1 := hI9 hb
       have d25 : u 25 = _ := hd 25 (by omega) (by kernel_rfl)
       have d27 := hd 27 (by omega) (by kernel_rfl)
       clear hb hd
       rw [d25]
       clear d25
       rcases z2 with _ | _
       ·(focus (have e27 : u 27 = _ := d27 rfl; rw [e27]; clear e27; go_wp2_with (go_at_call 18; (with_reducible refine (HTW.out _ (HWW.out.below (bthen HB.out HB1.out))).mono ?_); rintro e w2 ⟨rfl, hb2⟩); exact ⟨_, rfl, hb2, fun _ => rfl, fun h => absurd h (by decide)⟩))
       ·(focus (go_wp2; exact ⟨_, rfl, RowKit.Below.refl _ _, (fun h => by cases h), fun h => absurd h (by decide)⟩))
       done
    case htail3 =>
     as_aux_lemma =>
      intro u A w1 hA hb hd hf
      simp only [putAll, dstOf, gtA, gtS, gtZ, Option.bind_some, Option.bind, Act.put, List.setIfInBounds_toArray, List.set_cons_succ, List.set_cons_zero] at hA; subst hA
      have e0 : u 0 = _ := hd 0 (by omega)
      have e1 : u 1 = _ := hd 1 (by omega)
      have e2 : u 2 = _ := hd 2 (by omega)
      have e3 : u 3 = _ := hd 3 (by omega)
      have e4 : u 4 = _ := hd 4 (by omega)
      have p5 := hd 5 (by omega)
      have p6 := hd 6 (by omega)
      have p7 := hd 7 (by omega)
      have p8 := hd 8 (by omega)
      have p9 := hd 9 (by omega)
      have p10 := hd 10 (by omega)
      have e11 : u 11 = _ := hd 11 (by omega)
      have e12 : u 12 = _ := hd 12 (by omega)
      have p13 := hd 13 (by omega)
      have p14 := hd 14 (by omega)
      have p15 := hd 15 (by omega)
      have p16 := hd 16 (by omega)
      have p17 := hd 17 (by omega)
      have p18 := hd 18 (by omega)
      have p19 := hd 19 (by omega)
      have p20 := hd 20 (by omega)
      have p21 := hd 21 (by omega)
      have p22 := hd 22 (by omega)
      have p23 := hd 23 (by omega)
      have e24 : u 24 = _ := hd 24 (by omega)
      have e25 : u 25 = _ := hd 25 (by omega)
      have p26 := hd 26 (by omega)
      have p27 := hd 27 (by omega)
      have p28 := hd 28 (by omega)
      first | rw [e0, e1, e2, e3, e4, e11, e12, e24, e25] | simp only [e0, e1, e2, e3, e4, e11, e12, e24, e25]
      clear e0 e1 e2 e3 e4 e11 e12 e24 e25
      clear hd hf
      have nHX := hI9 (HX.out.below hb)
      have nHY := hI9 (HY.out.below hb)
      have nHZ := hI9 (HZ.out.below hb)
      have nHG := hI9 (HG.out.below hb)
      have nHB := hI9 (bthen HB.out hb)
      clear HX HY HZ HG HB hb
      have HX := nHX
      have HY := nHY
      have HZ := nHZ
      have HG := nHG
      have HB := nHB
      clear nHX nHY nHZ nHG nHB
      clear HCW HTW p5 p6 p7 p8 p9 p10 p13 p14 p15 p16 p17 p18 p19 p20 p21 p22 p23 p26 p27
      rcases z2 with _ | _
      case true =>
       clear p28
       go_wp2_with (first | (go_at_call 7; (with_reducible refine (rworks_c _).mono ?_); rintro e w1 ⟨rfl, hb1⟩; have nHX := hI9 (HX.out.below hb1); have nHY := hI9 (HY.out.below hb1); have nHZ := hI9 (HZ.out.below hb1); have nHB := hI9 (bthen HB.out hb1); have zz1 := hb1.size; clear HX HY HZ HB hb1; have HX := nHX; have HY := nHY; have HZ := nHZ; have HB := nHB; clear nHX nHY nHZ nHB))
       go_ret
       exact ⟨rfl, HB.out⟩
      rw [p28 rfl]
      clear p28
      rcases zD with _ | _
      case true =>
       go_wp2_with (first | (go_at_call 7; (with_reducible refine (rworks_c _).mono ?_); rintro e w1 ⟨rfl, hb1⟩; have nHX := hI9 (HX.out.below hb1); have nHY := hI9 (HY.out.below hb1); have nHZ := hI9 (HZ.out.below hb1); have nHB := hI9 (bthen HB.out hb1); have zz1 := hb1.size; clear HX HY HZ HB hb1; have HX := nHX; have HY := nHY; have HZ := nHZ; have HB := nHB; clear nHX nHY nHZ nHB))
       go_ret
       exact ⟨rfl, HB.out⟩
      obtain ⟨hm, hR0, hRe, hz1⟩ := short_z HZB.out
      have hme1 : m = e1 + 1 := HM1.out hz1
      obtain ⟨rfl, hbW, hcW⟩ := HAW.out hm
      have hnd : ¬ ∃ i j, j < i ∧ i < m ∧ R i = R j := fun h => by have := HZD.out.2 h; cases this
      have HRF := hI9 (And.intro hm (And.intro hR0 (And.intro hRe (And.intro hme1 hnd))))
      clear HZB HZD HM0 HM1 HWZ hz1 hm hR0 hRe hme1 hnd hbW hcW HAW
      obtain ⟨CE, hCE⟩ : ∃ q, q = nfE (netE M S n) M S n (F.onR m R) := ⟨_, rfl⟩
      have HCK := hI9 (show ∀ w1, MetAt w1 vF vS M → RecsAt w1 A n 3 (nV S) → SlI w1 (.slice (some ⟨bW, oW, none⟩) m cW) m R → Calls Tryz.prog 10 #[.agg #[.int .i64 M.places, .int .i64 M.any.a0, .int .i64 M.any.a1, .int .i64 M.any.a2, .int .i64 M.any.a3, .int .i64 M.any.a4, .int .i64 M.any.a5, .bool M.any.i, .bool M.any.s, .int .i64 M.mw, .int .i64 M.ms, .int .i64 M.mc, vF, vS], .slice A n c, .agg #[.slice (some ⟨bW, oW, none⟩) m cW, .int .i64 F.dep, .int .i64 F.fuel, .int .i64 F.burn, .int .i64 F.res]] w1 fun e w' => e = .returned (.int .i64 CE) ∧ RowKit.Below w1.heap.size w1 w' from fun w1 h1 h2 h3 => hCE ▸ r5Check_c M vF vS A n c S (F.onR m R) (.slice (some ⟨bW, oW, none⟩) m cW) w1 h1 hc1 hc2 h2 h3)
      have HCE := hI9 hCE
      clear hCE
      have g0 := HG.out.cell 0
      have gf := fun i => HG.out.frozen i
      have z1 := HZ.out.cell 1
      simp only [gtA, gtS, gtZ] at g0 z1
      have hneX : w.heap.size ≠ gG := by omega
      have hneY : w.heap.size + 1 ≠ gG := by omega
      have hneZ : w.heap.size + 2 ≠ gG := by omega
      have hneB : w.heap.size ≤ gG := by omega
      have tok3 : True := trivial
      have tokH : True := trivial
      go_wp2_with (first | (have _t := tok3; refine wpl_mid rfl 29 _ rfl w.heap.size 0 rfl 34 _ #[.int .i64 M.places, .int .i64 M.any.a0, .int .i64 M.any.a1, .int .i64 M.any.a2, .int .i64 M.any.a3, .int .i64 M.any.a4, .int .i64 M.any.a5, .bool M.any.i, .bool M.any.s, .int .i64 M.mw, .int .i64 M.ms, .int .i64 M.mc, vF, vS] 14 (HX.out.far (p := ⟨gG, 0, none⟩) hneX (.slice (some ⟨bW, oW, none⟩) m cW)) Tryz.rowMet [] [.int .i64 lw, .int .i64 ls, .int .i64 lc, .bool li, .bool lb, .slice A n c] rfl rfl rfl ?_; simp only [Act.put]; clear tok3; generalize hWX : World.setCell w1 _ _ = w6; have nX := HX.out.far (p := ⟨gG, 0, none⟩) hneX (.slice (some ⟨bW, oW, none⟩) m cW); have nY := HY.out.far (p := ⟨gG, 0, none⟩) hneY (.slice (some ⟨bW, oW, none⟩) m cW); have nZ := HZ.out.far (p := ⟨gG, 0, none⟩) hneZ (.slice (some ⟨bW, oW, none⟩) m cW); have nB := bset HB.out hneB (.slice (some ⟨bW, oW, none⟩) m cW) (i := 0); have nG := HG.out.set_ 0 (.slice (some ⟨bW, oW, none⟩) m cW); rw [hWX] at nX nY nZ nB nG; clear hWX HX HY HZ HB HG g0 gf z1; have HX := hI9 nX; have HY := hI9 nY; have HZ := hI9 nZ; have HB := hI9 nB; have HG := hI9 nG; clear nX nY nZ nB nG; have x19 := HX.out.cell 19; simp only [gtA, gtS, gtZ] at x19) | (have _t := tokH; refine wpl_row rfl 37 (.tmp 10) rfl _ rfl _ 5 HG.out Tryz.rowFli rfl ?_; simp only [Act.put]; clear tokH))
      refine (HCK.out _ (HM.out.below HB.out) (HL.out.below HB.out) (HWW.out.below HB.out)).mono ?_
      rintro e w7 ⟨rfl, hbX⟩
      clear x19 HCK
      have nHX := hI9 (HX.out.below hbX)
      have nHY := hI9 (HY.out.below hbX)
      have nHZ := hI9 (HZ.out.below hbX)
      have nHG := hI9 (HG.out.below hbX)
      have nHB := hI9 (bthen HB.out hbX)
      clear HX HY HZ HG HB hbX
      have HX := nHX
      have HY := nHY
      have HZ := nHZ
      have HG := nHG
      have HB := nHB
      clear nHX nHY nHZ nHG nHB
      by_cases h0 : CE = 0
      case neg =>
       obtain rfl : CE = 51 := chk_51 HNE.out HCE.out h0
       go_wp2_with (first | (go_at_call 7; (with_reducible refine (rworks_c _).mono ?_); rintro e w1 ⟨rfl, hb1⟩; have nHX := hI9 (HX.out.below hb1); have nHY := hI9 (HY.out.below hb1); have nHZ := hI9 (HZ.out.below hb1); have nHB := hI9 (bthen HB.out hb1); have zz1 := hb1.size; clear HX HY HZ HB hb1; have HX := nHX; have HY := nHY; have HZ := nHZ; have HB := nHB; clear nHX nHY nHZ nHB))
       go_ret
       exact ⟨rfl, HB.out⟩
      subst h0
      have hok := chk_ok HNE.out HCE.out
      obtain ⟨GB, hGB⟩ : ∃ q, q = F.goodR M.places.toNat (lgT S n) (timT S n M.places.toNat) (opM M lw ls lc li lb) (lsR m R) := ⟨_, rfl⟩
      obtain ⟨tW, htW⟩ : ∃ q, q = F.finR (lgT S n) (lsR m R) := ⟨_, rfl⟩
      have hokW : (F.wayR (lsR m R)).okB M.places.toNat (lgT S n) = true := FliD.okB_iff.2 (ok_on (FliD.okB_iff.1 hok))
      have HWL := hI9 (sl_on HWW.out fun i hi => ((FliD.okB_iff.1 hok).2.1.1 i hi).1)
      have HSF := hI9 (fun w1 h1 h2 h3 => safe_way M vF vS lw ls lc li lb A n c S F (.slice (some ⟨bW, oW, none⟩) m cW) (lsR m R) w1 HNM.out hokW h1 hc1 hc2 h2 h3)
      have HAV := hI9 (fun w1 h1 h2 h3 => arr_way M vF vS A n c S F (.slice (some ⟨bW, oW, none⟩) m cW) (lsR m R) w1 HNE.out hokW h1 hc1 hc2 h2 h3)
      rw [← hGB] at HSF
      have hat : (F.wayR (lsR m R)).at_ (lgT S n) e1 = tW := by rw [htW]; unfold FliD.finR FliD.arr; rw [show (F.wayR (lsR m R)).m = m from lsR_len m R, HRF.out.2.2.2.1]; rfl
      have HOW := hI9 (And.intro hok (And.intro hGB htW))
      clear hok hokW hGB htW HCE
      have x19 := HX.out.cell 19
      simp only [gtA, gtS, gtZ] at x19
      have tok3 : True := trivial
      have tok4 : True := trivial
      have tokH : True := trivial
      go_wp2_with (first | (have _t := tok3; refine wpl_mid rfl 29 _ rfl w.heap.size 0 rfl 34 _ #[.int .i64 M.places, .int .i64 M.any.a0, .int .i64 M.any.a1, .int .i64 M.any.a2, .int .i64 M.any.a3, .int .i64 M.any.a4, .int .i64 M.any.a5, .bool M.any.i, .bool M.any.s, .int .i64 M.mw, .int .i64 M.ms, .int .i64 M.mc, vF, vS] 14 HX.out Tryz.rowMet [] [.int .i64 lw, .int .i64 ls, .int .i64 lc, .bool li, .bool lb, .slice A n c] rfl rfl rfl ?_; simp only [Act.put]; clear tok3) | (have _t := tok4; refine wpl_mid rfl 31 _ rfl w.heap.size 14 rfl 34 _ #[.int .i64 lw, .int .i64 ls, .int .i64 lc, .bool li, .bool lb] 5 HX.out Tryz.rowMin [.int .i64 M.places, .int .i64 M.any.a0, .int .i64 M.any.a1, .int .i64 M.any.a2, .int .i64 M.any.a3, .int .i64 M.any.a4, .int .i64 M.any.a5, .bool M.any.i, .bool M.any.s, .int .i64 M.mw, .int .i64 M.ms, .int .i64 M.mc, vF, vS] [.slice A n c] rfl rfl rfl ?_; simp only [Act.put]; clear tok4) | (have _t := tokH; refine wpl_row rfl 37 (.tmp 10) rfl _ rfl _ 5 HG.out Tryz.rowFli rfl ?_; simp only [Act.put]; clear tokH))
      refine (HSF.out _ (HM.out.below HB.out) (HL.out.below HB.out) (HWL.out.below HB.out)).mono ?_
      rintro e w8 ⟨⟨s2, rfl⟩, hbX⟩
      clear x19 HSF
      have nHX := hI9 (HX.out.below hbX)
      have nHY := hI9 (HY.out.below hbX)
      have nHZ := hI9 (HZ.out.below hbX)
      have nHG := hI9 (HG.out.below hbX)
      have nHB := hI9 (bthen HB.out hbX)
      clear HX HY HZ HG HB hbX
      have HX := nHX
      have HY := nHY
      have HZ := nHZ
      have HG := nHG
      have HB := nHB
      clear nHX nHY nHZ nHG nHB
      have x19 := HX.out.cell 19
      simp only [gtA, gtS, gtZ] at x19
      have tok3 : True := trivial
      have tokH : True := trivial
      go_wp2_with (first | (have _t := tok3; refine wpl_mid rfl 29 _ rfl w.heap.size 0 rfl 34 _ #[.int .i64 M.places, .int .i64 M.any.a0, .int .i64 M.any.a1, .int .i64 M.any.a2, .int .i64 M.any.a3, .int .i64 M.any.a4, .int .i64 M.any.a5, .bool M.any.i, .bool M.any.s, .int .i64 M.mw, .int .i64 M.ms, .int .i64 M.mc, vF, vS] 14 HX.out Tryz.rowMet [] [.int .i64 lw, .int .i64 ls, .int .i64 lc, .bool li, .bool lb, .slice A n c] rfl rfl rfl ?_; simp only [Act.put]; clear tok3) | (have _t := tokH; refine wpl_row rfl 37 (.tmp 10) rfl _ rfl _ 5 HG.out Tryz.rowFli rfl ?_; simp only [Act.put]; clear tokH))
      refine (HAV.out _ (HM.out.below HB.out) (HL.out.below HB.out) (HWL.out.below HB.out)).mono ?_
      rintro e w9 ⟨vE, rfl, hbX, hEs⟩
      rw [lsR_len] at hEs
      obtain ⟨AE, cE, rfl, hE1, hE2, hEc⟩ := hEs
      obtain ⟨bE, oE, rfl, hbE, hcE⟩ := hEc HRF.out.1
      have hme1 := HRF.out.2.2.2.1
      have a1 := hcE e1 (by omega) 0 (by omega)
      simp only [nL, Nat.mul_one, Nat.add_zero] at a1
      rw [hat] at a1
      clear hat hcE hEc x19 HAV
      have nHX := hI9 (HX.out.below hbX)
      have nHY := hI9 (HY.out.below hbX)
      have nHZ := hI9 (HZ.out.below hbX)
      have nHG := hI9 (HG.out.below hbX)
      have nHB := hI9 (bthen HB.out hbX)
      clear HX HY HZ HG HB hbX
      have HX := nHX
      have HY := nHY
      have HZ := nHZ
      have HG := nHG
      have HB := nHB
      clear nHX nHY nHZ nHG nHB
      have z1 := HZ.out.cell 1
      simp only [gtA, gtS, gtZ] at z1
      have hmB := HMB.out
      have hmz : IntKind.i64.wrap ((m : Int) - 1) = (e1 : Int) := by rw [IntKind.wrap_i64]; omega
      have hez : (e1 : Int) < (m : Int) := by omega
      obtain ⟨hok, hGB, htW⟩ := HOW.out
      obtain ⟨-, hR0, hRe, -, hnd⟩ := HRF.out
      have hRl : R (m - 1) = (t0 : Int) := by rw [hme1]; exact hRe
      clear HOW HRF hmB hbE hE1 hE2
      cases GB with
      | false =>
       clear hok hGB htW hR0 hRe hnd hRl hme1
       go_wp2_with (first | (go_at_call 7; (with_reducible refine (rworks_c _).mono ?_); rintro e w1 ⟨rfl, hb1⟩; have nHX := hI9 (HX.out.below hb1); have nHY := hI9 (HY.out.below hb1); have nHZ := hI9 (HZ.out.below hb1); have nHB := hI9 (bthen HB.out hb1); have zz1 := hb1.size; clear HX HY HZ HB hb1; have HX := nHX; have HY := nHY; have HZ := nHZ; have HB := nHB; clear nHX nHY nHZ nHB))
       go_ret
       exact ⟨rfl, HB.out⟩
      | true =>
       have hb := short_some HBE.out hok hR0 hRl hnd hGB.symm
       rw [← htW, HTB9.out.1, HTB9.out.2] at hb
       clear hok hGB htW hR0 hRe hnd hRl hme1
       rcases hb with hb | ⟨rfl, hb⟩
       ·
        go_wp2_with (first | (go_at_call 7; (with_reducible refine (rworks_c _).mono ?_); rintro e w1 ⟨rfl, hb1⟩; have nHX := hI9 (HX.out.below hb1); have nHY := hI9 (HY.out.below hb1); have nHZ := hI9 (HZ.out.below hb1); have nHB := hI9 (bthen HB.out hb1); have zz1 := hb1.size; clear HX HY HZ HB hb1; have HX := nHX; have HY := nHY; have HZ := nHZ; have HB := nHB; clear nHX nHY nHZ nHB))
        go_ret
        exact ⟨rfl, HB.out⟩
       ·have hkm : (k : Int) ≤ (m : Int) := by omega
        clear hb
        go_wp2_with (first | (go_at_call 7; (with_reducible refine (rworks_c _).mono ?_); rintro e w1 ⟨rfl, hb1⟩; have nHX := hI9 (HX.out.below hb1); have nHY := hI9 (HY.out.below hb1); have nHZ := hI9 (HZ.out.below hb1); have nHB := hI9 (bthen HB.out hb1); have zz1 := hb1.size; clear HX HY HZ HB hb1; have HX := nHX; have HY := nHY; have HZ := nHZ; have HB := nHB; clear nHX nHY nHZ nHB))
        go_ret
        exact ⟨rfl, HB.out⟩
end Go.Proofs.YtlabfpjlckdmfaaGreat
