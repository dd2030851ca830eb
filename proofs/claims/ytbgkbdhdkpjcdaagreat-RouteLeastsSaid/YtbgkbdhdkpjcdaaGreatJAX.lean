/- Texts joined: JAX. -/
import Derived.Test.YtbgkbdhdkpjcdaaGreatJAW
import Derived.Test.YtbgkbdhdkpjcdaaGreatJAT
import Derived.Test.YtbgkbdhdkpjcdaaGreatNbM
import Derived.Test.YtbgkbdhdkpjcdaaGreatNbE
set_option linter.all false
namespace Go.Proofs.YtbgkbdhdkpjcdaaGreat
open Go Go.RowKit Go.Proofs
set_option maxRecDepth 100000
set_option maxHeartbeats 8000000
theorem minH_go {f : Nat → HavD} {k : Nat} {y : HavD} (hy : y = minH f (k - 1)) : (if (f k).t < y.t then f k else y) = minH f (k + 1 - 1) := by
  rw [show k + 1 - 1 = k by omega]
  rcases k with _ | j
  · rw [hy]
    show (if (f 0).t < (f 0).t then f 0 else f 0) = f 0
    rw [if_neg (Int.lt_irrefl _)]
  · rw [hy]; rfl
theorem r5Best_c (M : MetD) (vF vS : Value) (lw ls lc : Int) (li lb : Bool) (A : Option Addr) (n c : Nat) (S : Tab) (F : FliD) (vR : Value) (t : Int) (w : World) (hM : MetAt w vF vS M) (hc1 : n ≤ c) (hc2 : c ≤ 9223372036854775807) (hL : RecsAt w A n 3 (nV S)) (hR : SlI w vR F.m F.R) :
   Calls Tryz.prog 30 #[.agg #[.int .i64 M.places, .int .i64 M.any.a0, .int .i64 M.any.a1, .int .i64 M.any.a2, .int .i64 M.any.a3, .int .i64 M.any.a4, .int .i64 M.any.a5, .bool M.any.i, .bool M.any.s, .int .i64 M.mw, .int .i64 M.ms, .int .i64 M.mc, vF, vS], .agg #[.int .i64 lw, .int .i64 ls, .int .i64 lc, .bool li, .bool lb], .slice A n c, .agg #[vR, .int .i64 F.dep, .int .i64 F.fuel, .int .i64 F.burn, .int .i64 F.res], .int .i64 t] w fun e w' => e = .returned (.tuple #[.agg (hvC (bsE (tkE (nfE (netME M lw ls lc S n) M S n F) F (lgT S n) t) M lw ls lc li lb S n F t).1), .int .i64 (bsE (tkE (nfE (netME M lw ls lc S n) M S n F) F (lgT S n) t) M lw ls lc li lb S n F t).2]) ∧ RowKit.Below w.heap.size w w' := by
  have HM := Lib.hid hM
  have HL := Lib.hid hL
  have HR := Lib.hid hR
  have HCT := Lib.hid (fun w1 h1 h2 h3 => r5checkTick_c M vF vS lw ls lc li lb A n c S F vR t w1 h1 hc1 hc2 h2 h3)
  have tok : True := trivial
  have tok2 : True := trivial
  have tok3 : True := trivial
  have hto := fun h => tkE_ok (NE := nfE (netME M lw ls lc S n) M S n F) (F := F) (lt := lgT S n) (t := t) h
  have hok := fun h => nfM_ok (M := M) (lw := lw) (ls := ls) (lc := lc) (S := S) (n := n) (F := F) (hto h).1
  have hir := fun h => inB_iff.1 (hto h).2
  clear hto hM hL hR
  generalize tkE (nfE (netME M lw ls lc S n) M S n F) F (lgT S n) t = TE at *
  unfold bsE
  by_cases h0 : TE = 0
  case neg =>
    rw [if_neg h0]
    have hz : (TE != 0) = true := by simpa using h0
    clear h0 hok hir
    go_enter Tryz.func30, Tryz.ntmps30
    go_wp2_with (fail)
    have _x := frm4 w #[.int .i64 M.places, .int .i64 M.any.a0, .int .i64 M.any.a1, .int .i64 M.any.a2, .int .i64 M.any.a3, .int .i64 M.any.a4, .int .i64 M.any.a5, .bool M.any.i, .bool M.any.s, .int .i64 M.mw, .int .i64 M.ms, .int .i64 M.mc, vF, vS] 29 #[.int .i64 lw, .int .i64 ls, .int .i64 lc, .bool li, .bool lb] 31 #[vR, .int .i64 F.dep, .int .i64 F.fuel, .int .i64 F.burn, .int .i64 F.res] 37 #[.int .i64 0, .int .i64 0, .bool false] 47
    have HX := Lib.hid _x.1
    have HI := Lib.hid _x.2.1
    have HF := Lib.hid _x.2.2.1
    have HZ := Lib.hid _x.2.2.2.1
    have HB := Lib.hid _x.2.2.2.2.1
    have zW := _x.2.2.2.2.2
    clear _x
    generalize World.alloc (World.alloc (World.alloc (World.alloc w _) _) _) _ = W at *
    go_wp2_with (first | (have _t := tok; refine wpl_row rfl 29 (.tmp 5) rfl _ rfl #[.int .i64 M.places, .int .i64 M.any.a0, .int .i64 M.any.a1, .int .i64 M.any.a2, .int .i64 M.any.a3, .int .i64 M.any.a4, .int .i64 M.any.a5, .bool M.any.i, .bool M.any.s, .int .i64 M.mw, .int .i64 M.ms, .int .i64 M.mc, vF, vS] 14 HX.out Tryz.rowMet rfl ?_; simp only [Act.put]; clear tok) | (have _t := tok2; refine wpl_row rfl 31 (.tmp 6) rfl _ rfl #[.int .i64 lw, .int .i64 ls, .int .i64 lc, .bool li, .bool lb] 5 HI.out Tryz.rowMin rfl ?_; simp only [Act.put]; clear tok2) | (have _t := tok3; refine wpl_row rfl 37 (.tmp 8) rfl _ rfl #[vR, .int .i64 F.dep, .int .i64 F.fuel, .int .i64 F.burn, .int .i64 F.res] 5 HF.out Tryz.rowFli rfl ?_; simp only [Act.put]; clear tok3) | (go_at_call 82; (with_reducible refine (HCT.out _ (HM.out.below HB.out) (HL.out.below HB.out) (HR.out.below HB.out)).mono ?_); rintro e w1 ⟨rfl, hb1⟩; have nHX := Lib.hid (HX.out.below hb1); have nHI := Lib.hid (HI.out.below hb1); have nHF := Lib.hid (HF.out.below hb1); have nHZ := Lib.hid (HZ.out.below hb1); have nHB := Lib.hid (bthen HB.out hb1); have zz1 := hb1.size; clear HX HI HF HZ HB hb1; have HX := nHX; have HI := nHI; have HF := nHF; have HZ := nHZ; have HB := nHB; clear nHX nHI nHF nHZ nHB; (try clear zHZ); have zHZ := HZ.out.lt; (try clear cHZ0); have cHZ0 := HZ.out.cell 0; (try clear cHZ1); have cHZ1 := HZ.out.cell 1; (try clear cHZ2); have cHZ2 := HZ.out.cell 2; (try clear fHZ); have fHZ := fun i => HZ.out.frozen i))
    exact bodyPost_ret (res_ct rfl _ _ #[.int .i64 0, .int .i64 0, .bool false] 3 rfl (((HZ.out.set_ 0 _).set_ 1 _).set_ 2 _) Tryz.rowHav rfl) rfl ⟨rfl, bset (bset (bset HB.out (by omega) _) (by omega) _) (by omega) _⟩
  subst h0
  rw [if_pos rfl]
  obtain ⟨f3, f4, f5, f6, f7⟩ := hok rfl
  have hi := hir rfl
  have HHV := Lib.hid (fun w1 h1 h2 h3 => r5havens_c M vF vS lw ls lc li lb A n c S M.places.toNat F vR t w1 h1 hc1 hc2 h2 h3 f7 f6 f3 f4 hi.1 hi.2)
  have hlen := FliD.havK_len (F := F) (lt := lgT S n) (tt := timT S n M.places.toNat) (op := opM M lw ls lc li lb) (t := t) (dry := false) M.places.toNat
  have hl3 : (F.havK (lgT S n) (timT S n M.places.toNat) (opM M lw ls lc li lb) t false M.places.toNat).length ≤ 3000 := by omega
  clear f3 f4 f5 f6 f7 hi hok hir hlen
  generalize F.havK (lgT S n) (timT S n M.places.toNat) (opM M lw ls lc li lb) t false M.places.toNat = l at *
  have tok4 : True := trivial
  have tok5 : True := trivial
  have tok6 : True := trivial
  go_enter Tryz.func30, Tryz.ntmps30
  go_wp2_with (fail)
  have _x := frm4 w #[.int .i64 M.places, .int .i64 M.any.a0, .int .i64 M.any.a1, .int .i64 M.any.a2, .int .i64 M.any.a3, .int .i64 M.any.a4, .int .i64 M.any.a5, .bool M.any.i, .bool M.any.s, .int .i64 M.mw, .int .i64 M.ms, .int .i64 M.mc, vF, vS] 29 #[.int .i64 lw, .int .i64 ls, .int .i64 lc, .bool li, .bool lb] 31 #[vR, .int .i64 F.dep, .int .i64 F.fuel, .int .i64 F.burn, .int .i64 F.res] 37 #[.int .i64 0, .int .i64 0, .bool false] 47
  have HX := Lib.hid _x.1
  have HI := Lib.hid _x.2.1
  have HF := Lib.hid _x.2.2.1
  have HZ := Lib.hid _x.2.2.2.1
  have HB := Lib.hid _x.2.2.2.2.1
  have zW := _x.2.2.2.2.2
  clear _x
  generalize World.alloc (World.alloc (World.alloc (World.alloc w _) _) _) _ = W at *
  go_wp2_with (first | (have _t := tok; refine wpl_row rfl 29 (.tmp 5) rfl _ rfl #[.int .i64 M.places, .int .i64 M.any.a0, .int .i64 M.any.a1, .int .i64 M.any.a2, .int .i64 M.any.a3, .int .i64 M.any.a4, .int .i64 M.any.a5, .bool M.any.i, .bool M.any.s, .int .i64 M.mw, .int .i64 M.ms, .int .i64 M.mc, vF, vS] 14 HX.out Tryz.rowMet rfl ?_; simp only [Act.put]; clear tok) | (have _t := tok4; refine wpl_row rfl 29 (.tmp 5) rfl _ rfl #[.int .i64 M.places, .int .i64 M.any.a0, .int .i64 M.any.a1, .int .i64 M.any.a2, .int .i64 M.any.a3, .int .i64 M.any.a4, .int .i64 M.any.a5, .bool M.any.i, .bool M.any.s, .int .i64 M.mw, .int .i64 M.ms, .int .i64 M.mc, vF, vS] 14 HX.out Tryz.rowMet rfl ?_; simp only [Act.put]; clear tok4) | (have _t := tok2; refine wpl_row rfl 31 (.tmp 6) rfl _ rfl #[.int .i64 lw, .int .i64 ls, .int .i64 lc, .bool li, .bool lb] 5 HI.out Tryz.rowMin rfl ?_; simp only [Act.put]; clear tok2) | (have _t := tok5; refine wpl_row rfl 31 (.tmp 6) rfl _ rfl #[.int .i64 lw, .int .i64 ls, .int .i64 lc, .bool li, .bool lb] 5 HI.out Tryz.rowMin rfl ?_; simp only [Act.put]; clear tok5) | (have _t := tok3; refine wpl_row rfl 37 (.tmp 8) rfl _ rfl #[vR, .int .i64 F.dep, .int .i64 F.fuel, .int .i64 F.burn, .int .i64 F.res] 5 HF.out Tryz.rowFli rfl ?_; simp only [Act.put]; clear tok3) | (have _t := tok6; refine wpl_row rfl 37 (.tmp 8) rfl _ rfl #[vR, .int .i64 F.dep, .int .i64 F.fuel, .int .i64 F.burn, .int .i64 F.res] 5 HF.out Tryz.rowFli rfl ?_; simp only [Act.put]; clear tok6) | (go_at_call 82; (with_reducible refine (HCT.out _ (HM.out.below HB.out) (HL.out.below HB.out) (HR.out.below HB.out)).mono ?_); rintro e w1 ⟨rfl, hb1⟩; have nHX := Lib.hid (HX.out.below hb1); have nHI := Lib.hid (HI.out.below hb1); have nHF := Lib.hid (HF.out.below hb1); have nHZ := Lib.hid (HZ.out.below hb1); have nHB := Lib.hid (bthen HB.out hb1); have zz1 := hb1.size; clear HX HI HF HZ HB hb1; have HX := nHX; have HI := nHI; have HF := nHF; have HZ := nHZ; have HB := nHB; clear nHX nHI nHF nHZ nHB))
  refine (HHV.out _ (HM.out.below HB.out) (HL.out.below HB.out) (HR.out.below HB.out)).mono ?_
  rintro e w3 ⟨vO, rfl, hb3, hO⟩
  obtain ⟨AO, cO, rfl, -, -, hO⟩ := hO
  have HO := Lib.hid hO
  clear hO HX HI HF
  have nHZ := Lib.hid (HZ.out.below hb3)
  have nHB := Lib.hid (bthen HB.out hb3)
  clear HZ HB hb3
  have HZ := nHZ
  have HB := nHB
  clear nHZ nHB
  have z0 := HZ.out.cell 0
  have z1 := HZ.out.cell 1
  have z2 := HZ.out.cell 2
  have zf := fun i => HZ.out.frozen i
  simp only [List.getElem?_toArray, List.getElem?_cons_succ, List.getElem?_cons_zero] at z0 z1 z2
  by_cases hl0 : l.length = 0
  · have HE := Lib.hid (show bestL l = none from if_pos hl0)
    have hlz : ((l.length : Int) == 0) = true := by simp [hl0]
    clear hl0
    go_wp2_with (fail)
    exact bodyPost_ret (res_ct rfl _ _ #[.int .i64 0, .int .i64 0, .bool false] 3 rfl (((HZ.out.set_ 0 _).set_ 1 _).set_ 2 _) Tryz.rowHav rfl) rfl ⟨by rw [HE.out]; rfl, bset (bset (bset HB.out (by omega) _) (by omega) _) (by omega) _⟩
  have HE := Lib.hid (show bestL l = some (minH (hvx l) (l.length - 1)) from if_neg hl0)
  obtain ⟨k0, hk0⟩ : ∃ k0, k0 = l.length := ⟨_, rfl⟩
  rw [← hk0] at HE HO hl0 hl3 ⊢
  clear hk0
  have hlz : ((k0 : Int) == 0) = false := by simp; omega
  have hln : (0 : Int) < (k0 : Int) := by omega
  obtain ⟨b, off, rfl, hlb, hc⟩ := HO.out (by omega)
  have HC := Lib.hid hc
  clear hc HO
  have c0 : w3.cell? ⟨b, off, none⟩ = some (.int .i64 (hvx l 0).p) := by have := HC.out 0 (by omega) 0 (by omega); rw [Nat.zero_mul, Nat.add_zero] at this; exact this
  have c1 : w3.cell? ⟨b, off + 1, none⟩ = some (.int .i64 (hvx l 0).t) := by have := HC.out 0 (by omega) 1 (by omega); rw [Nat.zero_mul, Nat.add_zero] at this; exact this
  have c2 : w3.cell? ⟨b, off + 2, none⟩ = some (.bool (hvx l 0).b) := by have := HC.out 0 (by omega) 2 (by omega); rw [Nat.zero_mul, Nat.add_zero] at this; exact this
  have HB4 := Lib.hid (bal (RowKit.Below.refl w3.heap.size w3) (.cells #[.int .i64 (hvx l 0).p, .int .i64 (hvx l 0).t, .bool (hvx l 0).b] 47))
  have HK := Lib.hid (Blk.new w3 47 #[.int .i64 (hvx l 0).p, .int .i64 (hvx l 0).t, .bool (hvx l 0).b])
  have hzl := HZ.out.lt
  go_wp2_with (fail)
  generalize w3.alloc _ = W at *
  clear c0 c1 c2 z0 z1 z2 zf
  go_loopg [15] k0 (fun gy iv wr => ∃ k : Nat, iv = .int .i64 k ∧ k ≤ k0 ∧ k0 - k ≤ gy ∧ Hid (RowKit.Below w3.heap.size w3 wr) ∧ Hid (Blk wr w3.heap.size 47 (hvC (minH (hvx l) (k - 1)))))
  case atStart => exact ⟨0, rfl, Nat.zero_le _, Nat.sub_le _ _, HB4, HK⟩
  case round =>
    clear HB4 HK
    obtain ⟨k, rfl, hk, hgy, HW, HK⟩ := hrel
    rcases hmv : minH (hvx l) (k - 1) with ⟨mp, mt, mb⟩
    rw [hmv] at HK
    have HMV := Lib.hid hmv
    clear hmv
    have m0 := HK.out.cell 0
    have m1 := HK.out.cell 1
    have m2 := HK.out.cell 2
    have mf := fun i => HK.out.frozen i
    unfold hvC at m0 m1 m2
    simp only [List.getElem?_toArray, List.getElem?_cons_succ, List.getElem?_cons_zero] at m0 m1 m2
    by_cases hlt : k < k0
    case pos =>
      have hltz : (k : Int) < (k0 : Int) := by omega
      rcases hfv : hvx l k with ⟨fp, ft, fb⟩
      have q0 : wr.cell? ⟨b, off + k * 3, none⟩ = some (.int .i64 (hvx l k).p) := (HW.out.cell (p := ⟨b, off + k * 3, none⟩) hlb).trans (by have := HC.out k hlt 0 (by omega); rw [Nat.add_zero] at this; exact this)
      have q1 : wr.cell? ⟨b, off + k * 3 + 1, none⟩ = some (.int .i64 (hvx l k).t) := (HW.out.cell (p := ⟨b, off + k * 3 + 1, none⟩) hlb).trans (HC.out k hlt 1 (by omega))
      have q2 : wr.cell? ⟨b, off + k * 3 + 2, none⟩ = some (.bool (hvx l k).b) := (HW.out.cell (p := ⟨b, off + k * 3 + 2, none⟩) hlb).trans (HC.out k hlt 2 (by omega))
      have hgo := minH_go (f := hvx l) (k := k) HMV.out.symm
      rw [hfv] at q0 q1 q2 hgo
      dsimp only at q0 q1 q2 hgo
      have HGO := Lib.hid hgo
      clear hgo hfv
      go_wp2_with (fail)
      go_quiet (fail)
      have nW := Lib.hid (bdn HW.out nq)
      have nK := Lib.hid (HK.out.below (bdn (RowKit.Below.refl _ _) nq))
      have p0 : (wr.drewN nq).cell? ⟨b, off + k * 3, none⟩ = some (.int .i64 fp) := q0
      have p1 : (wr.drewN nq).cell? ⟨b, off + k * 3 + 1, none⟩ = some (.int .i64 ft) := q1
      have p2 : (wr.drewN nq).cell? ⟨b, off + k * 3 + 2, none⟩ = some (.bool fb) := q2
      clear HW HK m0 m1 m2 mf q0 q1 q2
      generalize wr.drewN nq = wq at *
      have m0 := nK.out.cell 0
      have m1 := nK.out.cell 1
      have m2 := nK.out.cell 2
      have mf := fun i => nK.out.frozen i
      unfold hvC at m0 m1 m2
      simp only [List.getElem?_toArray, List.getElem?_cons_succ, List.getElem?_cons_zero] at m0 m1 m2
      by_cases hc : ft < mt
      · have HM2 := Lib.hid (HGO.out.symm.trans (if_pos hc))
        go_wp2_with (fail)
        go_roundg (k0 - (k + 1))
        case measure => omega
        case rel => exact ⟨k + 1, by first | rfl | go_num | (congr 1; omega), by omega, Nat.le_refl _, Lib.hid (bset (bset (bset nW.out (Nat.le_refl _) _) (Nat.le_refl _) _) (Nat.le_refl _) _), Lib.hid (by rw [HM2.out]; exact (((nK.out.set_ 0 _).set_ 1 _).set_ 2 _))⟩
      · have HM2 := Lib.hid (HGO.out.symm.trans (if_neg hc))
        go_wp2_with (fail)
        go_roundg (k0 - (k + 1))
        case measure => omega
        case rel => exact ⟨k + 1, by first | rfl | go_num | (congr 1; omega), by omega, Nat.le_refl _, nW, Lib.hid (by rw [HM2.out]; exact nK.out)⟩
    obtain rfl : k0 = k := by omega
    have nZ := Lib.hid (HZ.out.below HW.out)
    have z0 := nZ.out.cell 0
    have z1 := nZ.out.cell 1
    have z2 := nZ.out.cell 2
    have zf := fun i => nZ.out.frozen i
    simp only [List.getElem?_toArray, List.getElem?_cons_succ, List.getElem?_cons_zero] at z0 z1 z2
    have HB5 := Lib.hid (bthen HB.out HW.out)
    go_wp2_with (fail)
    exact bodyPost_ret (res_ct rfl _ _ #[.int .i64 mp, .int .i64 mt, .bool mb] 3 rfl (((nZ.out.set_ 0 _).set_ 1 _).set_ 2 _) Tryz.rowHav rfl) rfl ⟨by rw [HE.out, HMV.out]; rfl, bset (bset (bset HB5.out (by omega) _) (by omega) _) (by omega) _⟩
end Go.Proofs.YtbgkbdhdkpjcdaaGreat

namespace Go.Proofs.YtbgkbdhdkpjcdaaGreat
open Go Go.RowKit Go.Proofs
set_option maxRecDepth 100000
set_option maxHeartbeats 8000000
/-- The first tick that has no haven, n ticks from t on; -1: there is none. -/
def safR (bf : Int → Option HavD) : Nat → Int → Int
  | 0, _ => -1
  | n + 1, t => if (bf t).isNone = true then t else safR bf n (t + 1)
theorem prf_saf {bf : Int → Option HavD} : ∀ (n : Nat) (t : Int) (l : List HavD), 0 ≤ t → (prfR bf n t l).2 = (max (safR bf n t) 0, decide (safR bf n t < 0))
  | 0, _, _, _ => rfl
  | n + 1, t, l, h => by
    unfold prfR safR
    cases e : bf t with
    | none =>
      dsimp only
      rw [if_pos (by rfl), Int.max_eq_left h, decide_eq_false (by omega)]
    | some x =>
      dsimp only
      rw [if_neg (by simp)]
      exact prf_saf n (t + 1) _ (by omega)
theorem bestL_none {l : List HavD} : (bestL l).isNone = decide (l.length = 0) := by
  unfold bestL
  by_cases h : l.length = 0
  · rw [if_pos h, decide_eq_true h]; rfl
  · rw [if_neg h, decide_eq_false h]; rfl
theorem r5safe_c (M : MetD) (vF vS : Value) (lw ls lc : Int) (li lb : Bool) (A : Option Addr) (n c : Nat) (S : Tab) (F : FliD) (vR : Value) (w : World) (hM : MetAt w vF vS M) (hc1 : n ≤ c) (hc2 : c ≤ 9223372036854775807) (hL : RecsAt w A n 3 (nV S)) (hR : SlI w vR F.m F.R) (h0 : nfE (netME M lw ls lc S n) M S n F = 0) :
   Calls Tryz.prog 100 #[.agg #[.int .i64 M.places, .int .i64 M.any.a0, .int .i64 M.any.a1, .int .i64 M.any.a2, .int .i64 M.any.a3, .int .i64 M.any.a4, .int .i64 M.any.a5, .bool M.any.i, .bool M.any.s, .int .i64 M.mw, .int .i64 M.ms, .int .i64 M.mc, vF, vS], .agg #[.int .i64 lw, .int .i64 ls, .int .i64 lc, .bool li, .bool lb], .slice A n c, .agg #[vR, .int .i64 F.dep, .int .i64 F.fuel, .int .i64 F.burn, .int .i64 F.res]] w fun e w' => e = .returned (.int .i64 (safR (fun t => bestL (F.havK (lgT S n) (timT S n M.places.toNat) (opM M lw ls lc li lb) t false M.places.toNat)) (F.ticks (lgT S n)) F.dep)) ∧ RowKit.Below w.heap.size w w' := by
  have HM := Lib.hid hM
  have HL := Lib.hid hL
  have HR := Lib.hid hR
  obtain ⟨f3, f4, f5, f6, f7⟩ := nfM_ok h0
  have HEN := Lib.hid (fun w1 h2 h3 => r5end_c A n c S M.places.toNat F vR w1 hc1 hc2 h2 h3 f6 f7)
  have hdl := FliD.dep_le f7
  have hend := f7.2.2
  have hd0 := (FliD.nums_iff.1 f7.1).2.1
  have har : F.at_ (lgT S n) (F.m - 1) = F.arr (lgT S n) := rfl
  have HHV := Lib.hid (fun t w1 h1 h2 h3 ha hb => r5havens_c M vF vS lw ls lc li lb A n c S M.places.toNat F vR t w1 h1 hc1 hc2 h2 h3 f7 f6 f3 f4 ha hb)
  rw [har] at HHV hend
  obtain ⟨RES, hRES⟩ : ∃ z, z = safR (fun t => bestL (F.havK (lgT S n) (timT S n M.places.toNat) (opM M lw ls lc li lb) t false M.places.toNat)) (F.ticks (lgT S n)) F.dep := ⟨_, rfl⟩
  rw [← hRES]
  obtain ⟨nn, hnn⟩ : ∃ nn, nn = F.ticks (lgT S n) := ⟨_, rfl⟩
  rw [← hnn] at hRES
  have hnz : (nn : Int) = F.arr (lgT S n) - F.dep + 1 := by rw [hnn]; unfold FliD.ticks; omega
  have HRES := Lib.hid (show safR (fun t => bestL (F.havK (lgT S n) (timT S n M.places.toNat) (opM M lw ls lc li lb) t false M.places.toNat)) (nn - 0) (F.dep + (0 : Nat)) = RES by rw [hRES, Nat.sub_zero]; simp)
  clear hM hL hR f3 f4 f5 f6 f7 h0 har hRES hnn
  go_enter Tryz.func100, Tryz.ntmps100
  go_wp2_with (fail)
  have _x := tri_r w #[.int .i64 M.places, .int .i64 M.any.a0, .int .i64 M.any.a1, .int .i64 M.any.a2, .int .i64 M.any.a3, .int .i64 M.any.a4, .int .i64 M.any.a5, .bool M.any.i, .bool M.any.s, .int .i64 M.mw, .int .i64 M.ms, .int .i64 M.mc, vF, vS] #[.int .i64 lw, .int .i64 ls, .int .i64 lc, .bool li, .bool lb] #[vR, .int .i64 F.dep, .int .i64 F.fuel, .int .i64 F.burn, .int .i64 F.res] 29 31 37
  have HX := Lib.hid _x.1
  have HI := Lib.hid _x.2.1
  have HF := Lib.hid _x.2.2.1
  have HB := Lib.hid _x.2.2.2
  clear _x
  generalize World.alloc (World.alloc (World.alloc w _) _) _ = W at *
  have HW0 := Lib.hid (RowKit.Below.refl W.heap.size W)
  go_loopg [9] nn (fun gy iv wr => ∃ j : Nat, iv = .int .i64 (F.dep + j) ∧ j ≤ nn ∧ nn - j ≤ gy ∧ Hid (safR (fun t => bestL (F.havK (lgT S n) (timT S n M.places.toNat) (opM M lw ls lc li lb) t false M.places.toNat)) (nn - j) (F.dep + j) = RES) ∧ Hid (RowKit.Below W.heap.size W wr))
  case atStart => exact ⟨0, by simp, Nat.zero_le _, Nat.sub_le _ _, HRES, HW0⟩
  case round =>
    clear HRES HW0
    obtain ⟨j, rfl, hj, hgy, HN, HW⟩ := hrel
    obtain ⟨t, hte⟩ : ∃ t, t = F.dep + (j : Int) := ⟨_, rfl⟩
    have HTE := Lib.hid hte
    have hN := HN.out
    rw [← hte] at hN ⊢
    clear hte
    have HX2 := Lib.hid (HX.out.below HW.out)
    have HI2 := Lib.hid (HI.out.below HW.out)
    have HF2 := Lib.hid (HF.out.below HW.out)
    have tok : True := trivial
    have tok2 : True := trivial
    have tok3 : True := trivial
    go_wp2_with (first | (have _t := tok3; refine wpl_row rfl 37 (.tmp 7) rfl _ rfl #[vR, .int .i64 F.dep, .int .i64 F.fuel, .int .i64 F.burn, .int .i64 F.res] 5 HF2.out Tryz.rowFli rfl ?_; simp only [Act.put]; clear tok3))
    refine (HEN.out _ (HL.out.below (bthen HB.out HW.out)) (HR.out.below (bthen HB.out HW.out))).mono ?_
    rintro e w3 ⟨rfl, hb3⟩
    have nW := Lib.hid (bthen HW.out hb3)
    clear HW hb3 HX2 HI2 HF2 tok tok2
    have HW := nW
    clear nW
    have hte := HTE.out
    by_cases hlt : j < nn
    case pos =>
      have h0 : F.dep ≤ t := by omega
      have h1 : t ≤ F.arr (lgT S n) := by omega
      have ht3 : 0 ≤ t ∧ t ≤ 10000 := by omega
      obtain ⟨i, hi⟩ : ∃ i, nn - j = i + 1 := ⟨nn - j - 1, by omega⟩
      rw [hi] at hN
      have hN2 : (if (bestL (F.havK (lgT S n) (timT S n M.places.toNat) (opM M lw ls lc li lb) t false M.places.toNat)).isNone = true then t else safR (fun t => bestL (F.havK (lgT S n) (timT S n M.places.toNat) (opM M lw ls lc li lb) t false M.places.toNat)) i (t + 1)) = RES := hN
      rw [bestL_none] at hN2
      have hhv := fun w1 h1' h2 h3 => HHV.out t w1 h1' h2 h3 h0 h1
      clear hN hte
      generalize F.havK (lgT S n) (timT S n M.places.toNat) (opM M lw ls lc li lb) t false M.places.toNat = l at *
      have HH := Lib.hid hhv
      clear hhv
      have HX2 := Lib.hid (HX.out.below HW.out)
      have HI2 := Lib.hid (HI.out.below HW.out)
      have HF2 := Lib.hid (HF.out.below HW.out)
      have tok : True := trivial
      have tok2 : True := trivial
      have tok3 : True := trivial
      go_wp2_with (first | (have _t := tok; refine wpl_row rfl 29 (.tmp 4) rfl _ rfl #[.int .i64 M.places, .int .i64 M.any.a0, .int .i64 M.any.a1, .int .i64 M.any.a2, .int .i64 M.any.a3, .int .i64 M.any.a4, .int .i64 M.any.a5, .bool M.any.i, .bool M.any.s, .int .i64 M.mw, .int .i64 M.ms, .int .i64 M.mc, vF, vS] 14 HX2.out Tryz.rowMet rfl ?_; simp only [Act.put]; clear tok) | (have _t := tok2; refine wpl_row rfl 31 (.tmp 5) rfl _ rfl #[.int .i64 lw, .int .i64 ls, .int .i64 lc, .bool li, .bool lb] 5 HI2.out Tryz.rowMin rfl ?_; simp only [Act.put]; clear tok2) | (have _t := tok3; refine wpl_row rfl 37 (.tmp 7) rfl _ rfl #[vR, .int .i64 F.dep, .int .i64 F.fuel, .int .i64 F.burn, .int .i64 F.res] 5 HF2.out Tryz.rowFli rfl ?_; simp only [Act.put]; clear tok3))
      refine (HH.out _ (HM.out.below (bthen HB.out HW.out)) (HL.out.below (bthen HB.out HW.out)) (HR.out.below (bthen HB.out HW.out))).mono ?_
      rintro e w4 ⟨vO, rfl, hb4, hO⟩
      obtain ⟨AO, cO, rfl, -⟩ := hO
      have nW := Lib.hid (bthen HW.out hb4)
      clear HW hb4 HX2 HI2 HF2
      by_cases hl : l.length = 0
      · rw [decide_eq_true hl, if_pos rfl] at hN2
        obtain rfl : t = RES := hN2
        rw [hl]
        go_wp2_with (fail)
        go_ret
        exact ⟨rfl, bthen HB.out nW.out⟩
      · rw [decide_eq_false hl, if_neg (by decide)] at hN2
        have hlz : ((l.length : Int) == 0) = false := beq_eq_false_iff_ne.2 (by omega)
        have HN2 := Lib.hid hN2
        clear hN2
        go_wp2_with (fail)
        go_roundg (nn - (j + 1))
        case measure => omega
        case rel => exact ⟨j + 1, by first | rfl | go_num | (congr 1; have := HTE.out; omega), by omega, Nat.le_refl _, Lib.hid (by rw [show nn - (j + 1) = i by omega, show F.dep + ((j + 1 : Nat) : Int) = t + 1 by have := HTE.out; omega]; exact HN2.out), nW⟩
    obtain rfl : nn = j := by omega
    rw [Nat.sub_self] at hN
    unfold safR at hN
    subst hN
    have hge : ¬ t ≤ F.arr (lgT S n) := by omega
    clear hte
    go_wp2_with (fail)
    go_ret
    exact ⟨rfl, bthen HB.out HW.out⟩
end Go.Proofs.YtbgkbdhdkpjcdaaGreat

namespace Go.Proofs.YtbgkbdhdkpjcdaaGreat
open Go Go.RowKit Go.Proofs
set_option maxRecDepth 100000
set_option maxHeartbeats 8000000
theorem r5Safe_c (M : MetD) (vF vS : Value) (lw ls lc : Int) (li lb : Bool) (A : Option Addr) (n c : Nat) (S : Tab) (F : FliD) (vR : Value) (w : World) (hM : MetAt w vF vS M) (hc1 : n ≤ c) (hc2 : c ≤ 9223372036854775807) (hL : RecsAt w A n 3 (nV S)) (hR : SlI w vR F.m F.R) :
   Calls Tryz.prog 49 #[.agg #[.int .i64 M.places, .int .i64 M.any.a0, .int .i64 M.any.a1, .int .i64 M.any.a2, .int .i64 M.any.a3, .int .i64 M.any.a4, .int .i64 M.any.a5, .bool M.any.i, .bool M.any.s, .int .i64 M.mw, .int .i64 M.ms, .int .i64 M.mc, vF, vS], .agg #[.int .i64 lw, .int .i64 ls, .int .i64 lc, .bool li, .bool lb], .slice A n c, .agg #[vR, .int .i64 F.dep, .int .i64 F.fuel, .int .i64 F.burn, .int .i64 F.res]] w fun e w' => e = .returned (.tuple #[.int .i64 (sfE (nfE (netME M lw ls lc S n) M S n F) M lw ls lc li lb S n F).1, .bool (sfE (nfE (netME M lw ls lc S n) M S n F) M lw ls lc li lb S n F).2.1, .int .i64 (sfE (nfE (netME M lw ls lc S n) M S n F) M lw ls lc li lb S n F).2.2]) ∧ RowKit.Below w.heap.size w w' := by
  have HM := Lib.hid hM
  have HL := Lib.hid hL
  have HR := Lib.hid hR
  clear hM hL hR
  have HCA := Lib.hid (fun w1 h1 h2 h3 => r5checkAll_c M vF vS lw ls lc li lb A n c S F vR w1 h1 hc1 hc2 h2 h3)
  have hsa := fun h0 w1 h1 h2 h3 => r5safe_c M vF vS lw ls lc li lb A n c S F vR w1 h1 hc1 hc2 h2 h3 h0
  have hok := fun h => nfM_ok (M := M) (lw := lw) (ls := ls) (lc := lc) (S := S) (n := n) (F := F) h
  generalize nfE (netME M lw ls lc S n) M S n F = NE at *
  have tok : True := trivial
  have tok2 : True := trivial
  have tok3 : True := trivial
  unfold sfE
  by_cases h0 : NE = 0
  case neg =>
    rw [if_neg h0]
    have hz : (NE != 0) = true := by simpa using h0
    clear h0 hok hsa
    go_enter Tryz.func49, Tryz.ntmps49
    go_wp2_with (fail)
    have _x := frm3 w #[.int .i64 M.places, .int .i64 M.any.a0, .int .i64 M.any.a1, .int .i64 M.any.a2, .int .i64 M.any.a3, .int .i64 M.any.a4, .int .i64 M.any.a5, .bool M.any.i, .bool M.any.s, .int .i64 M.mw, .int .i64 M.ms, .int .i64 M.mc, vF, vS] 29 #[.int .i64 lw, .int .i64 ls, .int .i64 lc, .bool li, .bool lb] 31 #[vR, .int .i64 F.dep, .int .i64 F.fuel, .int .i64 F.burn, .int .i64 F.res] 37
    have HX := Lib.hid _x.1
    have HI := Lib.hid _x.2.1
    have HF := Lib.hid _x.2.2.1
    have HB := Lib.hid _x.2.2.2.1
    have zW := _x.2.2.2.2
    clear _x
    generalize World.alloc (World.alloc (World.alloc w _) _) _ = W at *
    go_wp2_with (first | (have _t := tok; refine wpl_row rfl 29 (.tmp 4) rfl _ rfl #[.int .i64 M.places, .int .i64 M.any.a0, .int .i64 M.any.a1, .int .i64 M.any.a2, .int .i64 M.any.a3, .int .i64 M.any.a4, .int .i64 M.any.a5, .bool M.any.i, .bool M.any.s, .int .i64 M.mw, .int .i64 M.ms, .int .i64 M.mc, vF, vS] 14 HX.out Tryz.rowMet rfl ?_; simp only [Act.put]; clear tok) | (have _t := tok2; refine wpl_row rfl 31 (.tmp 5) rfl _ rfl #[.int .i64 lw, .int .i64 ls, .int .i64 lc, .bool li, .bool lb] 5 HI.out Tryz.rowMin rfl ?_; simp only [Act.put]; clear tok2) | (have _t := tok3; refine wpl_row rfl 37 (.tmp 7) rfl _ rfl #[vR, .int .i64 F.dep, .int .i64 F.fuel, .int .i64 F.burn, .int .i64 F.res] 5 HF.out Tryz.rowFli rfl ?_; simp only [Act.put]; clear tok3) | (go_at_call 95; (with_reducible refine (HCA.out _ (HM.out.below HB.out) (HL.out.below HB.out) (HR.out.below HB.out)).mono ?_); rintro e w1 ⟨rfl, hb1⟩; have nHX := Lib.hid (HX.out.below hb1); have nHI := Lib.hid (HI.out.below hb1); have nHF := Lib.hid (HF.out.below hb1); have nHB := Lib.hid (bthen HB.out hb1); have zz1 := hb1.size; clear HX HI HF HB hb1; have HX := nHX; have HI := nHI; have HF := nHF; have HB := nHB; clear nHX nHI nHF nHB))
    go_ret3
    exact ⟨rfl, HB.out⟩
  subst h0
  rw [if_pos rfl]
  have hsa2 := hsa rfl
  have hd0 := (FliD.nums_iff.1 (hok rfl).2.2.2.2.1).2.1.1
  have hps := prf_saf (bf := fun t => bestL (F.havK (lgT S n) (timT S n M.places.toNat) (opM M lw ls lc li lb) t false M.places.toNat)) (F.ticks (lgT S n)) F.dep [] hd0
  have hpe : (F.prf (lgT S n) (timT S n M.places.toNat) (opM M lw ls lc li lb) M.places.toNat).2 = (max (safR (fun t => bestL (F.havK (lgT S n) (timT S n M.places.toNat) (opM M lw ls lc li lb) t false M.places.toNat)) (F.ticks (lgT S n)) F.dep) 0, decide (safR (fun t => bestL (F.havK (lgT S n) (timT S n M.places.toNat) (opM M lw ls lc li lb) t false M.places.toNat)) (F.ticks (lgT S n)) F.dep < 0)) := hps
  rw [hpe]
  clear hpe hps hsa hok
  generalize safR (fun t => bestL (F.havK (lgT S n) (timT S n M.places.toNat) (opM M lw ls lc li lb) t false M.places.toNat)) (F.ticks (lgT S n)) F.dep = s at *
  have HSA := Lib.hid hsa2
  clear hsa2
  have tok4 : True := trivial
  have tok5 : True := trivial
  have tok6 : True := trivial
  go_enter Tryz.func49, Tryz.ntmps49
  go_wp2_with (fail)
  have _x := frm3 w #[.int .i64 M.places, .int .i64 M.any.a0, .int .i64 M.any.a1, .int .i64 M.any.a2, .int .i64 M.any.a3, .int .i64 M.any.a4, .int .i64 M.any.a5, .bool M.any.i, .bool M.any.s, .int .i64 M.mw, .int .i64 M.ms, .int .i64 M.mc, vF, vS] 29 #[.int .i64 lw, .int .i64 ls, .int .i64 lc, .bool li, .bool lb] 31 #[vR, .int .i64 F.dep, .int .i64 F.fuel, .int .i64 F.burn, .int .i64 F.res] 37
  have HX := Lib.hid _x.1
  have HI := Lib.hid _x.2.1
  have HF := Lib.hid _x.2.2.1
  have HB := Lib.hid _x.2.2.2.1
  have zW := _x.2.2.2.2
  clear _x
  generalize World.alloc (World.alloc (World.alloc w _) _) _ = W at *
  go_wp2_with (first | (have _t := tok; refine wpl_row rfl 29 (.tmp 4) rfl _ rfl #[.int .i64 M.places, .int .i64 M.any.a0, .int .i64 M.any.a1, .int .i64 M.any.a2, .int .i64 M.any.a3, .int .i64 M.any.a4, .int .i64 M.any.a5, .bool M.any.i, .bool M.any.s, .int .i64 M.mw, .int .i64 M.ms, .int .i64 M.mc, vF, vS] 14 HX.out Tryz.rowMet rfl ?_; simp only [Act.put]; clear tok) | (have _t := tok4; refine wpl_row rfl 29 (.tmp 4) rfl _ rfl #[.int .i64 M.places, .int .i64 M.any.a0, .int .i64 M.any.a1, .int .i64 M.any.a2, .int .i64 M.any.a3, .int .i64 M.any.a4, .int .i64 M.any.a5, .bool M.any.i, .bool M.any.s, .int .i64 M.mw, .int .i64 M.ms, .int .i64 M.mc, vF, vS] 14 HX.out Tryz.rowMet rfl ?_; simp only [Act.put]; clear tok4) | (have _t := tok2; refine wpl_row rfl 31 (.tmp 5) rfl _ rfl #[.int .i64 lw, .int .i64 ls, .int .i64 lc, .bool li, .bool lb] 5 HI.out Tryz.rowMin rfl ?_; simp only [Act.put]; clear tok2) | (have _t := tok5; refine wpl_row rfl 31 (.tmp 5) rfl _ rfl #[.int .i64 lw, .int .i64 ls, .int .i64 lc, .bool li, .bool lb] 5 HI.out Tryz.rowMin rfl ?_; simp only [Act.put]; clear tok5) | (have _t := tok3; refine wpl_row rfl 37 (.tmp 7) rfl _ rfl #[vR, .int .i64 F.dep, .int .i64 F.fuel, .int .i64 F.burn, .int .i64 F.res] 5 HF.out Tryz.rowFli rfl ?_; simp only [Act.put]; clear tok3) | (have _t := tok6; refine wpl_row rfl 37 (.tmp 7) rfl _ rfl #[vR, .int .i64 F.dep, .int .i64 F.fuel, .int .i64 F.burn, .int .i64 F.res] 5 HF.out Tryz.rowFli rfl ?_; simp only [Act.put]; clear tok6) | (go_at_call 95; (with_reducible refine (HCA.out _ (HM.out.below HB.out) (HL.out.below HB.out) (HR.out.below HB.out)).mono ?_); rintro e w1 ⟨rfl, hb1⟩; have nHX := Lib.hid (HX.out.below hb1); have nHI := Lib.hid (HI.out.below hb1); have nHF := Lib.hid (HF.out.below hb1); have nHB := Lib.hid (bthen HB.out hb1); have zz1 := hb1.size; clear HX HI HF HB hb1; have HX := nHX; have HI := nHI; have HF := nHF; have HB := nHB; clear nHX nHI nHF nHB) | (go_at_call 100; (with_reducible refine (HSA.out _ (HM.out.below HB.out) (HL.out.below HB.out) (HR.out.below HB.out)).mono ?_); rintro e w1 ⟨rfl, hb1⟩; have nHX := Lib.hid (HX.out.below hb1); have nHI := Lib.hid (HI.out.below hb1); have nHF := Lib.hid (HF.out.below hb1); have nHB := Lib.hid (bthen HB.out hb1); have zz1 := hb1.size; clear HX HI HF HB hb1; have HX := nHX; have HI := nHI; have HF := nHF; have HB := nHB; clear nHX nHI nHF nHB))
  go_ret3
  exact ⟨rfl, HB.out⟩
end Go.Proofs.YtbgkbdhdkpjcdaaGreat
