/- Contracts: margin of package rotor. -/
import Derived.Test.YtechkkgmdjgddaaGreatRoH
set_option linter.all false
namespace Go.Proofs.YtechkkgmdjgddaaGreat
open Go Go.RowKit Go.Proofs
set_option maxRecDepth 100000
set_option maxHeartbeats 4000000

theorem margin_c (hx hy hv gx gy gv lx ly lv px py pv nx ny nv ax ay av cx cy cv dx dy dv : Value) (cl bu wl wh tl th el eh nl nh : Int) (sl sh : Int) (S : Tabs) (w : World) (hR : RotAt w hx hy hv gx gy gv lx ly lv px py pv nx ny nv ax ay av cx cy cv dx dy dv cl bu S) (h1 : rightB S.h 0 100000 = true) (h2 : rightB S.g 0 100 = true) (h3 : rightB S.p 0 100000 = true)
    (hH : Fits S.h wl wh tl th) (hG : Fits S.g sl sh nl nh) (hP : Fits S.p tl th el eh) :
   Calls Tryz.prog 44 #[.agg #[hx, hy, hv, gx, gy, gv, lx, ly, lv, px, py, pv, nx, ny, nv, ax, ay, av, cx, cy, cv, dx, dy, dv, .int .i64 cl, .int .i64 bu, .int .i64 wl, .int .i64 wh, .int .i64 tl, .int .i64 th, .int .i64 el, .int .i64 eh, .int .i64 nl, .int .i64 nh], .agg #[.int .i64 sl, .int .i64 sh]] w fun e w' => e = .returned (.int .i64 (margV S wl wh tl th el eh nl nh sl sh)) ∧ Below w.heap.size w w' := by
  have HR := Lib.hid hR
  have F := Lib.hid (fun w1 hR => needs_c hx hy hv gx gy gv lx ly lv px py pv nx ny nv ax ay av cx cy cv dx dy dv cl bu wl wh tl th el eh nl nh sl sh S w1 hR h1 h2 hH hG)
  have l1 := bnd_lim h3 hP
  have l2 := bnd_lim h1 hH
  have l3 := bnd_lim h2 hG
  have HP := Lib.hid hP
  have C1 := Lib.hid (fun w1 x y v => bnd_c x y v S.p tl th el eh w1)
  have hn : -10000000 ≤ needHi S wl wh tl th nl nh sl sh ∧ needHi S wl wh tl th nl nh sl sh ≤ 10000000 := by
    unfold needHi
    have m2 := mul_bd (a := bHi S.h wl wh tl th) (b := bHi S.g sl sh nl nh) (A := 100000) (B := 100) (by omega) (by omega) (by omega) (by omega)
    omega
  clear hR h1 h2 h3 hH hG hP l2 l3
  unfold margV
  generalize needHi S wl wh tl th nl nh sl sh = nhi at *
  generalize needLo S wl wh tl th nl nh sl sh = nlo at *
  generalize bLo S.p tl th el eh = p0 at *
  generalize bHi S.p tl th el eh = p1 at *
  have q1 := Tryz.fldLo
  have q2 := Tryz.fldHi
  have b : Blk ((w.alloc (.cells #[hx, hy, hv, gx, gy, gv, lx, ly, lv, px, py, pv, nx, ny, nv, ax, ay, av, cx, cy, cv, dx, dy, dv, .int .i64 cl, .int .i64 bu, .int .i64 wl, .int .i64 wh, .int .i64 tl, .int .i64 th, .int .i64 el, .int .i64 eh, .int .i64 nl, .int .i64 nh] 51)).alloc (.cells #[.int .i64 sl, .int .i64 sh] 29)) w.heap.size 51 #[hx, hy, hv, gx, gy, gv, lx, ly, lv, px, py, pv, nx, ny, nv, ax, ay, av, cx, cy, cv, dx, dy, dv, .int .i64 cl, .int .i64 bu, .int .i64 wl, .int .i64 wh, .int .i64 tl, .int .i64 th, .int .i64 el, .int .i64 eh, .int .i64 nl, .int .i64 nh] := (by repeat (first | (refine Blk.newAt _ _ _ ?_; first | rfl | (simp; done)) | refine Blk.alloc ?_ _))
  have b2 : Blk ((w.alloc (.cells #[hx, hy, hv, gx, gy, gv, lx, ly, lv, px, py, pv, nx, ny, nv, ax, ay, av, cx, cy, cv, dx, dy, dv, .int .i64 cl, .int .i64 bu, .int .i64 wl, .int .i64 wh, .int .i64 tl, .int .i64 th, .int .i64 el, .int .i64 eh, .int .i64 nl, .int .i64 nh] 51)).alloc (.cells #[.int .i64 sl, .int .i64 sh] 29)) (w.heap.size + 1) 29 #[.int .i64 sl, .int .i64 sh] := (by repeat (first | (refine Blk.newAt _ _ _ ?_; first | rfl | (simp; done)) | refine Blk.alloc ?_ _))
  have hBW : Below w.heap.size w ((w.alloc (.cells #[hx, hy, hv, gx, gy, gv, lx, ly, lv, px, py, pv, nx, ny, nv, ax, ay, av, cx, cy, cv, dx, dy, dv, .int .i64 cl, .int .i64 bu, .int .i64 wl, .int .i64 wh, .int .i64 tl, .int .i64 th, .int .i64 el, .int .i64 eh, .int .i64 nl, .int .i64 nh] 51)).alloc (.cells #[.int .i64 sl, .int .i64 sh] 29)) := (by repeat' (first | exact Below.refl _ _ | assumption | refine Below.drew ?_ | refine bdn ?_ _ | refine bal ?_ _ | refine Below.setCell ?_ (by first | (simp; done) | omega | (simp; omega)) _))
  go_enter Tryz.func44, Tryz.ntmps44
  go_wp2
  generalize (w.alloc (.cells #[hx, hy, hv, gx, gy, gv, lx, ly, lv, px, py, pv, nx, ny, nv, ax, ay, av, cx, cy, cv, dx, dy, dv, .int .i64 cl, .int .i64 bu, .int .i64 wl, .int .i64 wh, .int .i64 tl, .int .i64 th, .int .i64 el, .int .i64 eh, .int .i64 nl, .int .i64 nh] 51)).alloc (.cells #[.int .i64 sl, .int .i64 sh] 29) = W at *
  have hM := Lib.hid (fun r : After W => b.below r.below)
  have hRr := Lib.hid (fun r : After W => (HR.out.below hBW).below r.below)
  have c0 : ∀ r : After W, r.w.cell? ⟨w.heap.size + 1, 0, none⟩ = some (.int .i64 sl) := fun r => (b2.below r.below).cell 0
  have c1 : ∀ r : After W, r.w.cell? ⟨w.heap.size + 1, 1, none⟩ = some (.int .i64 sh) := fun r => (b2.below r.below).cell 1
  have HBW := Lib.hid hBW
  clear b b2 hBW
  refine wp_region_aftert 9 (by kernel_rfl) (by kernel_rfl) ?_
  simp only [List.take_succ_cons, List.take_zero, List.drop_succ_cons, List.drop_zero]
  repeat (first | (refine wpq_row rfl 51 (.tmp 2) rfl _ rfl _ 34 (fun _ hw => by obtain ⟨r, rfl⟩ := hw; exact hM.out r) Tryz.rowMach rfl ?_; simp only [Act.put, List.setIfInBounds_toArray, List.set_cons_succ, List.set_cons_zero]) | go_big_quiet_step (first | (go_at_call 33; (with_reducible refine qafter (power_c _ _ _ _ _ _ _ _ _ _ _ _ _ _ _ _ _ _ _ _ _ _ _ _ _ _ _ _ _ _ _ _ _ _ HR.out.p.s1 HR.out.p.s2 HR.out.p.s3 _))) | (go_at_call 73; (with_reducible refine qafter (F.out _ (hRr.out _)))) | (go_at_call 28; (with_reducible refine qafter (C1.out _ _ _ _ (hRr.out _).p HP.out)))))
  refine wpQuiet_nil ?_
  rintro _ ⟨r, rfl⟩
  have BR := bthen HBW.out r.below
  go_wp2
  go_ret
  exact ⟨rfl, BR⟩
end Go.Proofs.YtechkkgmdjgddaaGreat
