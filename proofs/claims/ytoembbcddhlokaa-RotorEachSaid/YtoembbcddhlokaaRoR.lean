/- Contracts: Flow of package rotor. -/
import Derived.Test.YtoembbcddhlokaaRoP
set_option linter.all false
namespace Go.Proofs.Ytoembbcddhlokaa
open Go Go.RowKit Go.Proofs
set_option maxRecDepth 100000
set_option maxHeartbeats 4000000

def floLo (S : Tabs) (cl bu : Int) (wl wh tl th el eh nl nh : Int) (sl sh : Int) : Int := okN (levE S cl bu wl wh tl th el eh nl nh sl sh) (partLo (bLo S.l sl sh wl wh) bu 1000)
def floHi (S : Tabs) (cl bu : Int) (wl wh tl th el eh nl nh : Int) (sl sh : Int) : Int := okN (levE S cl bu wl wh tl th el eh nl nh sl sh) (partHi (bHi S.l sl sh wl wh) bu 1000)
theorem part_ok {lo hi bu : Int} (h0 : 0 ≤ lo) (h1 : lo ≤ hi) (h2 : hi ≤ 100000) (b0 : 1 ≤ bu) (b1 : bu ≤ 1000) : vspan lo hi = true ∧ vspan (partLo lo bu 1000) (partHi hi bu 1000) = true := by
  have m1 : 0 ≤ lo * bu := Int.mul_nonneg h0 (by omega)
  have m2 : lo * bu ≤ hi * bu := Int.mul_le_mul_of_nonneg_right h1 (by omega)
  have m3 := mul_bd (a := hi) (b := bu) (A := 100000) (B := 1000) (by omega) (by omega) (by omega) (by omega)
  constructor
  · unfold vspan inB; simp only [Bool.and_eq_true, decide_eq_true_eq]; omega
  · unfold vspan inB partLo partHi cdiv; simp only [Bool.and_eq_true, decide_eq_true_eq]; omega

theorem Flow_c (hx hy hv gx gy gv lx ly lv px py pv nx ny nv ax ay av cx cy cv dx dy dv : Value) (cl bu : Int) (wl wh tl th el eh nl nh : Int) (S : Tabs) (sl sh : Int) (w : World) (hR : RotAt w hx hy hv gx gy gv lx ly lv px py pv nx ny nv ax ay av cx cy cv dx dy dv cl bu S) :
   Calls Try.prog 43 #[.agg #[hx, hy, hv, gx, gy, gv, lx, ly, lv, px, py, pv, nx, ny, nv, ax, ay, av, cx, cy, cv, dx, dy, dv, .int .i64 cl, .int .i64 bu], .agg #[.int .i64 wl, .int .i64 wh, .int .i64 tl, .int .i64 th, .int .i64 el, .int .i64 eh, .int .i64 nl, .int .i64 nh], .agg #[.int .i64 sl, .int .i64 sh]] w fun e w' => e = .returned (.tuple #[.agg #[.int .i64 (floLo S cl bu wl wh tl th el eh nl nh sl sh), .int .i64 (floHi S cl bu wl wh tl th el eh nl nh sl sh)], .int .i64 (levE S cl bu wl wh tl th el eh nl nh sl sh)]) ∧ Below w.heap.size w w' := by
  have HR := Lib.hid hR
  have hC := fun w1 hR => Level_c hx hy hv gx gy gv lx ly lv px py pv nx ny nv ax ay av cx cy cv dx dy dv cl bu wl wh tl th el eh nl nh S sl sh w1 hR
  clear hR
  unfold floLo floHi
  by_cases h : levE S cl bu wl wh tl th el eh nl nh sl sh = 0
  · obtain ⟨hr, hF⟩ := levE_ok h
    have l1 := bnd_lim (rotB_l hr) hF
    have hbu := rotB_bu hr
    obtain ⟨v1, v2⟩ := part_ok l1.1 l1.2.1 l1.2.2 hbu.1 hbu.2
    unfold levLo levHi at hC
    rw [h] at hC ⊢
    rw [okN_ok, okN_ok]
    simp only [okN_ok] at hC
    have HC := Lib.hid hC
    clear h hF hr hC l1
    have F := Lib.hid (fun w1 => Part_c _ _ bu 1000 w1 v1 (inB_iff.2 (by omega)) (by rfl) v2)
    clear v1 v2 hbu
    generalize partLo (bLo S.l sl sh wl wh) bu 1000 = q0 at *
    generalize partHi (bHi S.l sl sh wl wh) bu 1000 = q1 at *
    generalize bLo S.l sl sh wl wh = p0 at *
    generalize bHi S.l sl sh wl wh = p1 at *
    go_enter Try.func43, Try.ntmps43
    go_wp2_with (first | (refine wpl_row rfl 27 _ rfl _ rfl #[hx, hy, hv, gx, gy, gv, lx, ly, lv, px, py, pv, nx, ny, nv, ax, ay, av, cx, cy, cv, dx, dy, dv, .int .i64 cl, .int .i64 bu] 26 ?_ Try.rowRot rfl ?_; (focus exact (by repeat (first | (refine Blk.newAt _ _ _ ?_; first | rfl | (simp; done)) | refine Blk.alloc ?_ _))); simp only [Act.put]) | (refine wpl_row rfl 36 _ rfl _ rfl #[.int .i64 wl, .int .i64 wh, .int .i64 tl, .int .i64 th, .int .i64 el, .int .i64 eh, .int .i64 nl, .int .i64 nh] 8 ?_ Try.rowAir rfl ?_; (focus exact (by repeat (first | (refine Blk.newAt _ _ _ ?_; first | rfl | (simp; done)) | refine Blk.alloc ?_ _))); simp only [Act.put]) | (go_at_call 41; go_loud (refine (HC.out _ (HR.out.below (by repeat' (first | exact Below.refl _ _ | assumption | refine Below.drew ?_ | refine bdn ?_ _ | refine bal ?_ _ | refine Below.setCell ?_ (by first | (simp; done) | omega | (simp; omega)) _)))).mono ?_; rintro e w1 ⟨rfl, hb1⟩; have hB1 := bthen (show Below w.heap.size w _ from (by repeat' (first | exact Below.refl _ _ | assumption | refine Below.drew ?_ | refine bdn ?_ _ | refine bal ?_ _ | refine Below.setCell ?_ (by first | (simp; done) | omega | (simp; omega)) _))) hb1; have C1 := Lib.hid (show Blk w1 (w.heap.size + 1 + 1 + 1) 34 #[.int .i64 0, .int .i64 0] from Blk.below (by repeat (first | (refine Blk.newAt _ _ _ ?_; first | rfl | (simp; done)) | refine Blk.alloc ?_ _)) hb1); have D1 := (show Blk w1 w.heap.size 27 #[hx, hy, hv, gx, gy, gv, lx, ly, lv, px, py, pv, nx, ny, nv, ax, ay, av, cx, cy, cv, dx, dy, dv, .int .i64 cl, .int .i64 bu] from Blk.below (by repeat (first | (refine Blk.newAt _ _ _ ?_; first | rfl | (simp; done)) | refine Blk.alloc ?_ _)) hb1); have s0 : w1.cell? ⟨w.heap.size, 25, none⟩ = some (.int .i64 bu) := D1.cell 25; clear D1; have hz1 := hb1.size; (try simp at hz1); have hz2 : w.heap.size < w1.heap.size := (by omega); have hz3 : w.heap.size + 1 + 1 + 1 < w1.heap.size := (by omega); clear hb1)) | (go_at_call 45; refine (F.out _).mono ?_; rintro e w3 ⟨rfl, hb3⟩; have C2 := C1.out.alloc (.cells #[.int .i64 p0, .int .i64 p1] 34); have C3 := C2.below hb3; have r0 := C3.cell 0; have r1 := C3.cell 1; have r2 := fun i => C3.frozen i; have K3 := Lib.hid C3; clear C2 C3; have hB := Lib.hid (bthen (bal hB1 _) hb3)))
    exact bodyPost_ret (res_ct rfl _ _ #[.int .i64 q0, .int .i64 q1] 2 rfl ((K3.out.set_ 0 _).set_ 1 _) Try.rowSpan rfl) rfl ⟨rfl, (by repeat' (first | exact hB.out | refine bset ?_ (by omega) _))⟩
  · have hne : (levE S cl bu wl wh tl th el eh nl nh sl sh != 0) = true := by simpa using h
    unfold levLo levHi at hC
    rw [okN_no h, okN_no h]
    simp only [okN_no h] at hC
    have HC := Lib.hid hC
    generalize levE S cl bu wl wh tl th el eh nl nh sl sh = E at *
    clear h hC
    go_enter Try.func43, Try.ntmps43
    go_wp2_with (first | (refine wpl_row rfl 27 _ rfl _ rfl #[hx, hy, hv, gx, gy, gv, lx, ly, lv, px, py, pv, nx, ny, nv, ax, ay, av, cx, cy, cv, dx, dy, dv, .int .i64 cl, .int .i64 bu] 26 ?_ Try.rowRot rfl ?_; (focus exact (by repeat (first | (refine Blk.newAt _ _ _ ?_; first | rfl | (simp; done)) | refine Blk.alloc ?_ _))); simp only [Act.put]) | (refine wpl_row rfl 36 _ rfl _ rfl #[.int .i64 wl, .int .i64 wh, .int .i64 tl, .int .i64 th, .int .i64 el, .int .i64 eh, .int .i64 nl, .int .i64 nh] 8 ?_ Try.rowAir rfl ?_; (focus exact (by repeat (first | (refine Blk.newAt _ _ _ ?_; first | rfl | (simp; done)) | refine Blk.alloc ?_ _))); simp only [Act.put]) | (go_at_call 41; refine (HC.out _ (HR.out.below (by repeat' (first | exact Below.refl _ _ | assumption | refine Below.drew ?_ | refine bdn ?_ _ | refine bal ?_ _ | refine Below.setCell ?_ (by first | (simp; done) | omega | (simp; omega)) _)))).mono ?_; rintro e w1 ⟨rfl, hb1⟩; have hB := Lib.hid (bthen (show Below w.heap.size w _ from (by repeat' (first | exact Below.refl _ _ | assumption | refine Below.drew ?_ | refine bdn ?_ _ | refine bal ?_ _ | refine Below.setCell ?_ (by first | (simp; done) | omega | (simp; omega)) _))) hb1); have C1 := (show Blk w1 (w.heap.size + 1 + 1 + 1) 34 #[.int .i64 0, .int .i64 0] from Blk.below (by repeat (first | (refine Blk.newAt _ _ _ ?_; first | rfl | (simp; done)) | refine Blk.alloc ?_ _)) hb1); have r0 := C1.cell 0; have r1 := C1.cell 1; have r2 := fun i => C1.frozen i; have K1 := Lib.hid C1; clear C1; have hz1 := hb1.size; (try simp at hz1); have hz2 : w.heap.size < w1.heap.size := (by omega); have hz3 : w.heap.size + 1 + 1 + 1 < w1.heap.size := (by omega)))
    exact bodyPost_ret (res_ct rfl _ _ #[.int .i64 0, .int .i64 0] 2 rfl (((K1.out.set_ 0 _).set_ 1 _).alloc _) Try.rowSpan rfl) rfl ⟨rfl, bal (bset (bset hB.out (by omega) _) (by omega) _) _⟩
end Go.Proofs.Ytoembbcddhlokaa
