/- Contracts: Heaviest of package rotor. -/
import Derived.Test.YtechkkgmdjgddaaGreatRoN
import Derived.Test.YtechkkgmdjgddaaGreatLwB
set_option linter.all false
namespace Go.Proofs.YtechkkgmdjgddaaGreat
open Go Go.RowKit Go.Proofs
set_option maxRecDepth 100000
set_option maxHeartbeats 4000000

def heavE (S : Tabs) (cl bu : Int) (wl wh tl th el eh nl nh : Int) (sl sh res : Int) : Int := if margE S cl bu wl wh tl th el eh nl nh sl sh = 0 then (if heavN S wl wh tl th el eh nl nh sl sh res < wl then 3 else 0) else margE S cl bu wl wh tl th el eh nl nh sl sh
def heavV (S : Tabs) (cl bu : Int) (wl wh tl th el eh nl nh : Int) (sl sh res : Int) : Int := okN (heavE S cl bu wl wh tl th el eh nl nh sl sh res) (heavN S wl wh tl th el eh nl nh sl sh res)
theorem heavE_m {S : Tabs} {cl bu wl wh tl th el eh nl nh sl sh res : Int} (h : margE S cl bu wl wh tl th el eh nl nh sl sh ≠ 0) : heavE S cl bu wl wh tl th el eh nl nh sl sh res = margE S cl bu wl wh tl th el eh nl nh sl sh := by simp [heavE, h]
theorem heavE_n {S : Tabs} {cl bu wl wh tl th el eh nl nh sl sh res : Int} (h : margE S cl bu wl wh tl th el eh nl nh sl sh = 0) (h2 : heavN S wl wh tl th el eh nl nh sl sh res < wl) : heavE S cl bu wl wh tl th el eh nl nh sl sh res = 3 := by simp [heavE, h, h2]
theorem heavE_o {S : Tabs} {cl bu wl wh tl th el eh nl nh sl sh res : Int} (h : margE S cl bu wl wh tl th el eh nl nh sl sh = 0) (h2 : ¬ heavN S wl wh tl th el eh nl nh sl sh res < wl) : heavE S cl bu wl wh tl th el eh nl nh sl sh res = 0 := by simp [heavE, h, h2]


theorem Heaviest_c (hx hy hv gx gy gv lx ly lv px py pv nx ny nv ax ay av cx cy cv dx dy dv : Value) (cl bu : Int) (wl wh tl th el eh nl nh : Int) (S : Tabs) (sl sh res : Int) (w : World) (hR : RotAt w hx hy hv gx gy gv lx ly lv px py pv nx ny nv ax ay av cx cy cv dx dy dv cl bu S) :
   Calls Tryz.prog 18 #[.agg #[hx, hy, hv, gx, gy, gv, lx, ly, lv, px, py, pv, nx, ny, nv, ax, ay, av, cx, cy, cv, dx, dy, dv, .int .i64 cl, .int .i64 bu], .agg #[.int .i64 wl, .int .i64 wh, .int .i64 tl, .int .i64 th, .int .i64 el, .int .i64 eh, .int .i64 nl, .int .i64 nh], .agg #[.int .i64 sl, .int .i64 sh], .int .i64 res] w fun e w' => e = .returned (.tuple #[.int .i64 (heavV S cl bu wl wh tl th el eh nl nh sl sh res), .int .i64 (heavE S cl bu wl wh tl th el eh nl nh sl sh res)]) ∧ Below w.heap.size w w' := by
  have HR := Lib.hid hR
  have HC := Lib.hid (fun w1 hR => checkMargin_c hx hy hv gx gy gv lx ly lv px py pv nx ny nv ax ay av cx cy cv dx dy dv cl bu wl wh tl th el eh nl nh S sl sh w1 hR)
  clear hR
  by_cases h : margE S cl bu wl wh tl th el eh nl nh sl sh = 0
  · obtain ⟨hr, hH, hG, hP⟩ := margE_ok h
    have hw := vspan_iff.1 hH.vx
    have F := Lib.hid (fun w1 n (h1 : wl ≤ n) (h2 : n ≤ wh) hR => margin_c hx hy hv gx gy gv lx ly lv px py pv nx ny nv ax ay av cx cy cv dx dy dv cl bu wl n tl th el eh nl nh sl sh S w1 hR (rotB_h hr) (rotB_g hr) (rotB_p hr) (hH.sub (a := wl) (b := n) (by omega) h1 h2) hG hP)
    have hfin := fun low g1 g2 g3 g4 => heavN_eq (S := S) (wl := wl) (wh := wh) (el := el) (eh := eh) (res := res) (low := low) (rotB_h hr) (rotB_g hr) hH hG g1 g2 g3 g4
    have HFIN := Lib.hid hfin
    have HM := Lib.hid h
    rw [h] at HC
    clear h hH hG hP hr hfin
    go_enter Tryz.func18, Tryz.ntmps18
    go_wp2_with (first | (refine wpl_row rfl 27 _ rfl _ rfl #[hx, hy, hv, gx, gy, gv, lx, ly, lv, px, py, pv, nx, ny, nv, ax, ay, av, cx, cy, cv, dx, dy, dv, .int .i64 cl, .int .i64 bu] 26 ?_ Tryz.rowRot rfl ?_; (focus exact (by repeat (first | (refine Blk.newAt _ _ _ ?_; first | rfl | (simp; done)) | refine Blk.alloc ?_ _))); simp only [Act.put]) | (refine wpl_row rfl 31 _ rfl _ rfl #[.int .i64 wl, .int .i64 wh, .int .i64 tl, .int .i64 th, .int .i64 el, .int .i64 eh, .int .i64 nl, .int .i64 nh] 8 ?_ Tryz.rowAir rfl ?_; (focus exact (by repeat (first | (refine Blk.newAt _ _ _ ?_; first | rfl | (simp; done)) | refine Blk.alloc ?_ _))); simp only [Act.put]) | (refine wpl_store_new rfl 51 _ _ rfl #[hx, hy, hv, gx, gy, gv, lx, ly, lv, px, py, pv, nx, ny, nv, ax, ay, av, cx, cy, cv, dx, dy, dv, .int .i64 cl, .int .i64 bu, .int .i64 wl, .int .i64 wh, .int .i64 tl, .int .i64 th, .int .i64 el, .int .i64 eh, .int .i64 nl, .int .i64 nh] _ _ rfl ?_ rfl Tryz.sizeMach rfl (RotAt.one HR.out wl wh tl th el eh nl nh) ?_; (focus (simp; done)); simp only [Act.put]) | (refine wpl_row rfl 51 _ rfl _ rfl #[hx, hy, hv, gx, gy, gv, lx, ly, lv, px, py, pv, nx, ny, nv, ax, ay, av, cx, cy, cv, dx, dy, dv, .int .i64 cl, .int .i64 bu, .int .i64 wl, .int .i64 wh, .int .i64 tl, .int .i64 th, .int .i64 el, .int .i64 eh, .int .i64 nl, .int .i64 nh] 34 ?_ Tryz.rowMach rfl ?_; (focus exact (by repeat (first | (refine Blk.newAt _ _ _ ?_; first | rfl | (simp; done)) | refine Blk.alloc ?_ _))); simp only [Act.put]) | (go_at_call 43; refine (HC.out _ (HR.out.below (by repeat' (first | exact Below.refl _ _ | assumption | refine Below.drew ?_ | refine bdn ?_ _ | refine bal ?_ _ | refine Below.setCell ?_ (by first | (simp; done) | omega | (simp; omega)) _)))).mono ?_; rintro e w1 ⟨rfl, hb1⟩; have hB1 := bthen (show Below w.heap.size w _ from (by repeat' (first | exact Below.refl _ _ | assumption | refine Below.drew ?_ | refine bdn ?_ _ | refine bal ?_ _ | refine Below.setCell ?_ (by first | (simp; done) | omega | (simp; omega)) _))) hb1; have M1 := Lib.hid (show Blk w1 (w.heap.size + 1 + 1 + 1) 51 #[hx, hy, hv, gx, gy, gv, lx, ly, lv, px, py, pv, nx, ny, nv, ax, ay, av, cx, cy, cv, dx, dy, dv, .int .i64 cl, .int .i64 bu, .int .i64 wl, .int .i64 wh, .int .i64 tl, .int .i64 th, .int .i64 el, .int .i64 eh, .int .i64 nl, .int .i64 nh] from Blk.below (by repeat (first | (refine Blk.newAt _ _ _ ?_; first | rfl | (simp; done)) | refine Blk.alloc ?_ _)) hb1); have D1 := Lib.hid (show Blk w1 (w.heap.size + 1 + 1) 29 #[.int .i64 sl, .int .i64 sh] from Blk.below (by repeat (first | (refine Blk.newAt _ _ _ ?_; first | rfl | (simp; done)) | refine Blk.alloc ?_ _)) hb1); have A1 := Lib.hid (show Blk w1 (w.heap.size + 1) 31 #[.int .i64 wl, .int .i64 wh, .int .i64 tl, .int .i64 th, .int .i64 el, .int .i64 eh, .int .i64 nl, .int .i64 nh] from Blk.below (by repeat (first | (refine Blk.newAt _ _ _ ?_; first | rfl | (simp; done)) | refine Blk.alloc ?_ _)) hb1); have a0 := A1.out.cell 0; have a1 := A1.out.cell 1; have hz1 := hb1.size; (try simp at hz1); clear hb1))
    go_quiet (fail)
    go_wp2
    have HB1 := Lib.hid (bdn hB1 nq)
    have HM1 := Lib.hid (Blk.below M1.out (bdn (Below.refl w1.heap.size w1) nq))
    have HD1 := Lib.hid (Blk.below D1.out (bdn (Below.refl w1.heap.size w1) nq))
    have HA1 := Lib.hid (Blk.below A1.out (bdn (Below.refl w1.heap.size w1) nq))
    clear a0 a1 hB1 M1 D1 A1
    go_loopw [12, 13] (fun l h wr => ∃ lo hi X : Int, wl - 1 ≤ lo ∧ lo ≤ hi ∧ hi ≤ wh ∧ l = .int .i64 lo ∧ h = .int .i64 hi ∧ RowKit.Hid (Blk wr (w.heap.size + 1 + 1 + 1) 51 #[hx, hy, hv, gx, gy, gv, lx, ly, lv, px, py, pv, nx, ny, nv, ax, ay, av, cx, cy, cv, dx, dy, dv, .int .i64 cl, .int .i64 bu, .int .i64 wl, .int .i64 X, .int .i64 tl, .int .i64 th, .int .i64 el, .int .i64 eh, .int .i64 nl, .int .i64 nh]) ∧ RowKit.Hid (Blk wr (w.heap.size + 1 + 1) 29 #[.int .i64 sl, .int .i64 sh]) ∧ RowKit.Hid (Blk wr (w.heap.size + 1) 31 #[.int .i64 wl, .int .i64 wh, .int .i64 tl, .int .i64 th, .int .i64 el, .int .i64 eh, .int .i64 nl, .int .i64 nh]) ∧ RowKit.Hid (Below w.heap.size w wr) ∧ RowKit.Hid (wl ≤ lo → okW S wl tl th el eh nl nh sl sh res lo = true) ∧ RowKit.Hid (hi < wh → okW S wl tl th el eh nl nh sl sh res (hi + 1) = false)) (fun l h _ => (intOf h - intOf l).toNat)
    case atStart => exact ⟨wl - 1, wh, wh, by omega, by omega, by omega, rfl, rfl, HM1.out, HD1.out, HA1.out, HB1.out, fun h => absurd h (by omega), fun h => absurd h (by omega)⟩
    case round =>
      obtain ⟨lo, hi, X, g1, g2, g3, rfl, rfl, hM, hD, hA, hB, hlo, hhi⟩ := hrel
      clear HM1 HD1 HA1 HB1
      by_cases hlt : lo < hi
      · have r27 := hM.out.cell 27
        have rf := fun i => hM.out.frozen i
        have d0 := hD.out.cell 0
        have d1 := hD.out.cell 1
        have zM := hM.out.lt
        have zD := hD.out.lt
        have zA := hA.out.lt
        have HN : RowKit.Hid (Blk (wr.setCell ⟨w.heap.size + 1 + 1 + 1, 27, none⟩ (.int .i64 (hi - (hi - lo) / 2))) (w.heap.size + 1 + 1 + 1) 51 #[hx, hy, hv, gx, gy, gv, lx, ly, lv, px, py, pv, nx, ny, nv, ax, ay, av, cx, cy, cv, dx, dy, dv, .int .i64 cl, .int .i64 bu, .int .i64 wl, .int .i64 (hi - (hi - lo) / 2), .int .i64 tl, .int .i64 th, .int .i64 el, .int .i64 eh, .int .i64 nl, .int .i64 nh]) := hM.out.set_ 27 _
        have HND : RowKit.Hid (Blk (wr.setCell ⟨w.heap.size + 1 + 1 + 1, 27, none⟩ (.int .i64 (hi - (hi - lo) / 2))) (w.heap.size + 1 + 1) 29 #[.int .i64 sl, .int .i64 sh]) := hD.out.far' (by omega) _
        have HNA : RowKit.Hid (Blk (wr.setCell ⟨w.heap.size + 1 + 1 + 1, 27, none⟩ (.int .i64 (hi - (hi - lo) / 2))) (w.heap.size + 1) 31 #[.int .i64 wl, .int .i64 wh, .int .i64 tl, .int .i64 th, .int .i64 el, .int .i64 eh, .int .i64 nl, .int .i64 nh]) := hA.out.far' (by omega) _
        have HNB : RowKit.Hid (Below w.heap.size w (wr.setCell ⟨w.heap.size + 1 + 1 + 1, 27, none⟩ (.int .i64 (hi - (hi - lo) / 2)))) := bset hB.out (by omega) _
        have hF := fun w1 hR => F.out w1 (hi - (hi - lo) / 2) (by omega) (by omega) hR
        have HF := Lib.hid hF
        clear hF
        cases ht : decide (res ≤ marU S wl tl th el eh nl nh sl sh (hi - (hi - lo) / 2))
        all_goals
          have Ht := Lib.hid ht
          unfold marU at ht
          generalize margV S wl (hi - (hi - lo) / 2) tl th el eh nl nh sl sh = mm at *
          go_wp2_with (first | (refine wpl_row rfl 51 (.tmp 10) rfl _ rfl _ 34 HN.out Tryz.rowMach rfl ?_; simp only [Act.put]) | (go_at_call 44; refine (HF.out _ (HR.out.below HNB.out)).mono ?_; rintro e w3 ⟨rfl, hb3⟩; have K1 := Lib.hid (HN.out.below hb3); have K2 := Lib.hid (HND.out.below hb3); have K3 := Lib.hid (HNA.out.below hb3); have K4 := Lib.hid (bthen HNB.out hb3); clear hb3))
          go_roundw
        case rel => exact ⟨lo, hi - (hi - lo) / 2 - 1, hi - (hi - lo) / 2, by omega, by omega, by omega, rfl, rfl, K1.out, K2.out, K3.out, K4.out, hlo.out, fun _ => by rw [Int.sub_add_cancel]; exact Ht.out⟩
        case measure => simp [intOf]; omega
        case rel => exact ⟨hi - (hi - lo) / 2, hi, hi - (hi - lo) / 2, by omega, by omega, by omega, rfl, rfl, K1.out, K2.out, K3.out, K4.out, fun _ => Ht.out, hhi.out⟩
        case measure => simp [intOf]; omega
      · obtain rfl : lo = hi := by omega
        have hN := HFIN.out lo g1 g3 hlo.out hhi.out
        have a0 := hA.out.cell 0
        by_cases hl : lo < wl
        · have hE := heavE_n (res := res) HM.out (by rw [hN]; exact hl)
          have HE := Lib.hid hE
          clear hE hN
          go_wp2
          go_ret2
          exact ⟨by unfold heavV; rw [HE.out]; rfl, hB.out⟩
        · have hE := heavE_o (res := res) HM.out (by rw [hN]; exact hl)
          have HE := Lib.hid hE
          have HN := Lib.hid hN
          clear hE hN
          go_wp2
          go_ret2
          exact ⟨by unfold heavV; rw [HE.out, okN_ok, HN.out]; rfl, hB.out⟩
  · have hne : (margE S cl bu wl wh tl th el eh nl nh sl sh != 0) = true := by simpa using h
    unfold heavV
    rw [heavE_m h, okN_no h]
    generalize margE S cl bu wl wh tl th el eh nl nh sl sh = E at *
    clear h
    go_enter Tryz.func18, Tryz.ntmps18
    go_wp2_with (first | (refine wpl_row rfl 27 _ rfl _ rfl #[hx, hy, hv, gx, gy, gv, lx, ly, lv, px, py, pv, nx, ny, nv, ax, ay, av, cx, cy, cv, dx, dy, dv, .int .i64 cl, .int .i64 bu] 26 ?_ Tryz.rowRot rfl ?_; (focus exact (by repeat (first | (refine Blk.newAt _ _ _ ?_; first | rfl | (simp; done)) | refine Blk.alloc ?_ _))); simp only [Act.put]) | (refine wpl_row rfl 31 _ rfl _ rfl #[.int .i64 wl, .int .i64 wh, .int .i64 tl, .int .i64 th, .int .i64 el, .int .i64 eh, .int .i64 nl, .int .i64 nh] 8 ?_ Tryz.rowAir rfl ?_; (focus exact (by repeat (first | (refine Blk.newAt _ _ _ ?_; first | rfl | (simp; done)) | refine Blk.alloc ?_ _))); simp only [Act.put]) | (refine wpl_store_new rfl 51 _ _ rfl #[hx, hy, hv, gx, gy, gv, lx, ly, lv, px, py, pv, nx, ny, nv, ax, ay, av, cx, cy, cv, dx, dy, dv, .int .i64 cl, .int .i64 bu, .int .i64 wl, .int .i64 wh, .int .i64 tl, .int .i64 th, .int .i64 el, .int .i64 eh, .int .i64 nl, .int .i64 nh] _ _ rfl ?_ rfl Tryz.sizeMach rfl (RotAt.one HR.out wl wh tl th el eh nl nh) ?_; (focus (simp; done)); simp only [Act.put]) | (refine wpl_row rfl 51 _ rfl _ rfl #[hx, hy, hv, gx, gy, gv, lx, ly, lv, px, py, pv, nx, ny, nv, ax, ay, av, cx, cy, cv, dx, dy, dv, .int .i64 cl, .int .i64 bu, .int .i64 wl, .int .i64 wh, .int .i64 tl, .int .i64 th, .int .i64 el, .int .i64 eh, .int .i64 nl, .int .i64 nh] 34 ?_ Tryz.rowMach rfl ?_; (focus exact (by repeat (first | (refine Blk.newAt _ _ _ ?_; first | rfl | (simp; done)) | refine Blk.alloc ?_ _))); simp only [Act.put]) | (go_at_call 43; refine (HC.out _ (HR.out.below (by repeat' (first | exact Below.refl _ _ | assumption | refine Below.drew ?_ | refine bdn ?_ _ | refine bal ?_ _ | refine Below.setCell ?_ (by first | (simp; done) | omega | (simp; omega)) _)))).mono ?_; rintro e w1 ⟨rfl, hb1⟩; have hB1 := bthen (show Below w.heap.size w _ from (by repeat' (first | exact Below.refl _ _ | assumption | refine Below.drew ?_ | refine bdn ?_ _ | refine bal ?_ _ | refine Below.setCell ?_ (by first | (simp; done) | omega | (simp; omega)) _))) hb1))
    go_ret2
    exact ⟨rfl, hB1⟩
end Go.Proofs.YtechkkgmdjgddaaGreat
