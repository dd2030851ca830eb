/- Contracts: wake of package rotor; what a rotor's value reads as. -/
import Derived.Test.YtoembbcddhlokaaRoB
import Derived.Test.YtoembbcddhlokaaRow
set_option linter.all false
namespace Go.Proofs.Ytoembbcddhlokaa
open Go Go.RowKit Go.Proofs

structure Tabs where
  h : Tbl
  g : Tbl
  l : Tbl
  p : Tbl
  n : Tbl
  a : Tbl
  c : Tbl
  d : Tbl

structure RotAt (w : World) (hx hy hv gx gy gv lx ly lv px py pv nx ny nv ax ay av cx cy cv dx dy dv : Value) (cl bu : Int) (S : Tabs) : Prop where
  h : TblAt w hx hy hv S.h
  g : TblAt w gx gy gv S.g
  l : TblAt w lx ly lv S.l
  p : TblAt w px py pv S.p
  n : TblAt w nx ny nv S.n
  a : TblAt w ax ay av S.a
  c : TblAt w cx cy cv S.c
  d : TblAt w dx dy dv S.d
  cl : I64 cl
  bu : I64 bu
theorem RotAt.below {w w' : World} {hx hy hv gx gy gv lx ly lv px py pv nx ny nv ax ay av cx cy cv dx dy dv : Value} {cl bu : Int} {S : Tabs} (h : RotAt w hx hy hv gx gy gv lx ly lv px py pv nx ny nv ax ay av cx cy cv dx dy dv cl bu S) (hb : Below w.heap.size w w') : RotAt w' hx hy hv gx gy gv lx ly lv px py pv nx ny nv ax ay av cx cy cv dx dy dv cl bu S :=
  ⟨h.h.below hb, h.g.below hb, h.l.below hb, h.p.below hb, h.n.below hb, h.a.below hb, h.c.below hb, h.d.below hb, h.cl, h.bu⟩

theorem TblAt.s1 {w : World} {x y v : Value} {T : Tbl} (h : TblAt w x y v T) : IsSl x := by obtain ⟨A, c, e, -⟩ := h.x; exact ⟨_, _, _, e⟩
theorem TblAt.s2 {w : World} {x y v : Value} {T : Tbl} (h : TblAt w x y v T) : IsSl y := by obtain ⟨A, c, e, -⟩ := h.y; exact ⟨_, _, _, e⟩
theorem TblAt.s3 {w : World} {x y v : Value} {T : Tbl} (h : TblAt w x y v T) : IsSl v := by obtain ⟨A, c, vs, e, -⟩ := h.v; exact ⟨_, _, _, e⟩

set_option maxRecDepth 100000
set_option maxHeartbeats 4000000

theorem Try.rowMach : RowTy Try.prog 88 34 := ⟨by kernel_rfl, by kernel_rfl⟩

theorem Try.fldLo (a b : Int) (w : World) : (Instr.field 34 (.agg #[.int .i64 a, .int .i64 b]) 0).run Try.prog w = .ok (.int .i64 a) w := by kernel_rfl
theorem Try.fldHi (a b : Int) (w : World) : (Instr.field 34 (.agg #[.int .i64 a, .int .i64 b]) 1).run Try.prog w = .ok (.int .i64 b) w := by kernel_rfl

noncomputable def wakeB (A C : Tbl) (wl wh sl sh kl kh : Int) : Bool := decide (bndLo A sl sh wl wh ≤ kh) && decide (kl ≤ bndHi C sl sh wl wh)

theorem wake_c (hx hy hv gx gy gv lx ly lv px py pv nx ny nv ax ay av cx cy cv dx dy dv : Value) (cl bu wl wh tl th el eh nl nh : Int) (sl sh kl kh : Int) (S : Tabs) (w : World) (hR : RotAt w hx hy hv gx gy gv lx ly lv px py pv nx ny nv ax ay av cx cy cv dx dy dv cl bu S) (hA : Fits S.a sl sh wl wh) (hC : Fits S.c sl sh wl wh) :
   Calls Try.prog 69 #[.agg #[hx, hy, hv, gx, gy, gv, lx, ly, lv, px, py, pv, nx, ny, nv, ax, ay, av, cx, cy, cv, dx, dy, dv, .int .i64 cl, .int .i64 bu, .int .i64 wl, .int .i64 wh, .int .i64 tl, .int .i64 th, .int .i64 el, .int .i64 eh, .int .i64 nl, .int .i64 nh], .agg #[.int .i64 sl, .int .i64 sh], .agg #[.int .i64 kl, .int .i64 kh]] w fun e w' => e = .returned (.bool (wakeB S.a S.c wl wh sl sh kl kh)) ∧ Below w.heap.size w w' := by
  have HA := Lib.hid hA
  have HC := Lib.hid hC
  have HR := Lib.hid hR
  clear hA hC hR
  unfold wakeB
  have hM : ∀ W, Below (w.heap.size + 3) ((w.alloc (.cells #[hx, hy, hv, gx, gy, gv, lx, ly, lv, px, py, pv, nx, ny, nv, ax, ay, av, cx, cy, cv, dx, dy, dv, .int .i64 cl, .int .i64 bu, .int .i64 wl, .int .i64 wh, .int .i64 tl, .int .i64 th, .int .i64 el, .int .i64 eh, .int .i64 nl, .int .i64 nh] 88)).alloc (.cells #[.int .i64 sl, .int .i64 sh] 34) |>.alloc (.cells #[.int .i64 kl, .int .i64 kh] 34)) W → Blk W w.heap.size 88 #[hx, hy, hv, gx, gy, gv, lx, ly, lv, px, py, pv, nx, ny, nv, ax, ay, av, cx, cy, cv, dx, dy, dv, .int .i64 cl, .int .i64 bu, .int .i64 wl, .int .i64 wh, .int .i64 tl, .int .i64 th, .int .i64 el, .int .i64 eh, .int .i64 nl, .int .i64 nh] := by
    intro W hW
    have b : Blk ((w.alloc (.cells #[hx, hy, hv, gx, gy, gv, lx, ly, lv, px, py, pv, nx, ny, nv, ax, ay, av, cx, cy, cv, dx, dy, dv, .int .i64 cl, .int .i64 bu, .int .i64 wl, .int .i64 wh, .int .i64 tl, .int .i64 th, .int .i64 el, .int .i64 eh, .int .i64 nl, .int .i64 nh] 88)).alloc (.cells #[.int .i64 sl, .int .i64 sh] 34) |>.alloc (.cells #[.int .i64 kl, .int .i64 kh] 34)) w.heap.size 88 #[hx, hy, hv, gx, gy, gv, lx, ly, lv, px, py, pv, nx, ny, nv, ax, ay, av, cx, cy, cv, dx, dy, dv, .int .i64 cl, .int .i64 bu, .int .i64 wl, .int .i64 wh, .int .i64 tl, .int .i64 th, .int .i64 el, .int .i64 eh, .int .i64 nl, .int .i64 nh] := (by repeat (first | (refine Blk.newAt _ _ _ ?_; first | rfl | (simp; done)) | refine Blk.alloc ?_ _))
    exact b.below (by simpa using hW)
  have HM := Lib.hid (hM _ (Below.refl _ _))
  clear hM
  have q1 := Try.fldLo
  have q2 := Try.fldHi
  cases p1 : decide (bndLo S.a sl sh wl wh ≤ kh)
  all_goals
    go_enter Try.func69, Try.ntmps69
    go_wp2_with (first | (refine wpl_row rfl 88 (.tmp 3) rfl _ rfl _ 34 HM.out Try.rowMach rfl ?_; simp only [Act.put]) | (go_at_call 68; (with_reducible refine (ring_c _ _ _ _ _ _ _ _ _ _ _ _ _ _ _ _ _ _ _ _ _ _ _ _ _ _ _ _ _ _ _ _ _ _ HR.out.a.s1 HR.out.a.s2 HR.out.a.s3 _ _ _).mono ?_); rintro e w1 ⟨rfl, hb1⟩; have hB1 := bthen (show Below w.heap.size w _ from (by repeat' (first | exact Below.refl _ _ | assumption | refine Below.drew ?_ | refine bdn ?_ _ | refine bal ?_ _ | refine Below.setCell ?_ (by first | (simp; done) | omega | (simp; omega)) _))) hb1; have hz1 := hb1.size; (try simp at hz1); obtain ⟨hc1, hf1⟩ := bcell hb1; first | (have hE1 := bthen2 hE (by repeat' (first | exact Below.refl _ _ | refine Below.drew ?_ | refine bdn ?_ _ | refine bal ?_ _ | refine Below.setCell ?_ (by first | (simp; done) | omega | (simp; omega)) _)) hb1; clear hE; have hE := hE1; clear hE1; obtain ⟨hd1, hg1⟩ := bcell hE) | (have hE := hb1)) | (go_at_call 79; (with_reducible refine (ro_bound_c _ _ _ S.a _ _ _ _ _ (HR.out.a.below (by repeat' (first | exact Below.refl _ _ | assumption | refine Below.drew ?_ | refine bdn ?_ _ | refine bal ?_ _ | refine Below.setCell ?_ (by first | (simp; done) | omega | (simp; omega)) _))) HA.out).mono ?_); rintro e w1 ⟨rfl, hb1⟩; have hB1 := bthen (show Below w.heap.size w _ from (by repeat' (first | exact Below.refl _ _ | assumption | refine Below.drew ?_ | refine bdn ?_ _ | refine bal ?_ _ | refine Below.setCell ?_ (by first | (simp; done) | omega | (simp; omega)) _))) hb1; have hz1 := hb1.size; (try simp at hz1); obtain ⟨hc1, hf1⟩ := bcell hb1; first | (have hE1 := bthen2 hE (by repeat' (first | exact Below.refl _ _ | refine Below.drew ?_ | refine bdn ?_ _ | refine bal ?_ _ | refine Below.setCell ?_ (by first | (simp; done) | omega | (simp; omega)) _)) hb1; clear hE; have hE := hE1; clear hE1; obtain ⟨hd1, hg1⟩ := bcell hE) | (have hE := hb1)) | (go_at_call 79; (with_reducible refine (ro_bound_c _ _ _ S.c _ _ _ _ _ (HR.out.c.below (by repeat' (first | exact Below.refl _ _ | assumption | refine Below.drew ?_ | refine bdn ?_ _ | refine bal ?_ _ | refine Below.setCell ?_ (by first | (simp; done) | omega | (simp; omega)) _))) HC.out).mono ?_); rintro e w1 ⟨rfl, hb1⟩; have hB1 := bthen (show Below w.heap.size w _ from (by repeat' (first | exact Below.refl _ _ | assumption | refine Below.drew ?_ | refine bdn ?_ _ | refine bal ?_ _ | refine Below.setCell ?_ (by first | (simp; done) | omega | (simp; omega)) _))) hb1; have hz1 := hb1.size; (try simp at hz1); obtain ⟨hc1, hf1⟩ := bcell hb1; first | (have hE1 := bthen2 hE (by repeat' (first | exact Below.refl _ _ | refine Below.drew ?_ | refine bdn ?_ _ | refine bal ?_ _ | refine Below.setCell ?_ (by first | (simp; done) | omega | (simp; omega)) _)) hb1; clear hE; have hE := hE1; clear hE1; obtain ⟨hd1, hg1⟩ := bcell hE) | (have hE := hb1)))
    go_ret
    exact ⟨ret_bool (by simp), (by repeat' (first | exact Below.refl _ _ | assumption | refine Below.drew ?_ | refine bdn ?_ _ | refine bal ?_ _ | refine Below.setCell ?_ (by first | (simp; done) | omega | (simp; omega)) _))⟩
end Go.Proofs.Ytoembbcddhlokaa
