/- Contracts: Has, Needs, Margin of package rotor. -/
import Derived.Test.YtoembbcddhlokaaRoJ
import Derived.Test.YtoembbcddhlokaaRoM
import Derived.Deep.WholeRow
set_option linter.all false
namespace Go.Proofs.Ytoembbcddhlokaa
open Go Go.RowKit Go.Proofs
set_option maxRecDepth 100000
set_option maxHeartbeats 4000000

theorem isSl_one {v : Value} (h : IsSl v) : v.oneCell' = true := by obtain ⟨a, n, c, rfl⟩ := h; rfl
theorem RotAt.one {w : World} {hx hy hv gx gy gv lx ly lv px py pv nx ny nv ax ay av cx cy cv dx dy dv : Value} {cl bu : Int} {S : Tabs} (h : RotAt w hx hy hv gx gy gv lx ly lv px py pv nx ny nv ax ay av cx cy cv dx dy dv cl bu S) (wl wh tl th el eh nl nh : Int) : (#[hx, hy, hv, gx, gy, gv, lx, ly, lv, px, py, pv, nx, ny, nv, ax, ay, av, cx, cy, cv, dx, dy, dv, .int .i64 cl, .int .i64 bu, .int .i64 wl, .int .i64 wh, .int .i64 tl, .int .i64 th, .int .i64 el, .int .i64 eh, .int .i64 nl, .int .i64 nh] : Array Value).all (·.oneCell') = true := by
  rw [Array.all_eq_true_iff_forall_mem]
  intro x hx'
  simp only [List.mem_toArray, List.mem_cons, List.not_mem_nil, or_false] at hx'
  rcases hx' with rfl | rfl | rfl | rfl | rfl | rfl | rfl | rfl | rfl | rfl | rfl | rfl | rfl | rfl | rfl | rfl | rfl | rfl | rfl | rfl | rfl | rfl | rfl | rfl | rfl | rfl | rfl | rfl | rfl | rfl | rfl | rfl | rfl | rfl
  any_goals rfl
  · exact isSl_one h.h.s1
  · exact isSl_one h.h.s2
  · exact isSl_one h.h.s3
  · exact isSl_one h.g.s1
  · exact isSl_one h.g.s2
  · exact isSl_one h.g.s3
  · exact isSl_one h.l.s1
  · exact isSl_one h.l.s2
  · exact isSl_one h.l.s3
  · exact isSl_one h.p.s1
  · exact isSl_one h.p.s2
  · exact isSl_one h.p.s3
  · exact isSl_one h.n.s1
  · exact isSl_one h.n.s2
  · exact isSl_one h.n.s3
  · exact isSl_one h.a.s1
  · exact isSl_one h.a.s2
  · exact isSl_one h.a.s3
  · exact isSl_one h.c.s1
  · exact isSl_one h.c.s2
  · exact isSl_one h.c.s3
  · exact isSl_one h.d.s1
  · exact isSl_one h.d.s2
  · exact isSl_one h.d.s3
theorem Try.rowAir : RowTy Try.prog 36 8 := ⟨by kernel_rfl, by kernel_rfl⟩
theorem Try.sizeMach : (Try.prog.info? 88).map (·.size) = some 34 := by kernel_rfl

/-- A whole row into the block that was made last. -/
theorem wpl_store_new {P : Program} {ops : Array Oper} {rest : List Oper} {o : Oper} {a : Act} {w : World} {Q : Exit → Act → World → Prop} (hgd : o.guard = none) (ty : TypeId) (x y : Operand) (ho : o.op = .store ty x y)
    (cells old : Array Value) (g : Nat) (hx : a.eval x = .pointer (some ⟨g, 0, none⟩)) (hg : g = w.heap.size) (hy : a.eval y = .agg cells) (hi : (P.info? ty).map (·.size) = some cells.size)
    (hold : old.size = cells.size) (h1 : cells.all (·.oneCell') = true)
    (h : wpList P ops Q rest (a.put o.dst undef) (w.alloc (.cells cells ty))) : wpList P ops Q (o :: rest) a (w.alloc (.cells old ty)) := by
  subst hg
  refine wpList_store_row hgd ty x y ho w.heap.size cells hx hy ty old (World.alloc_heap_new w _) hi hold h1 ?_
  rw [World.setRow_alloc_new]; exact h

def hasE (S : Tabs) (cl bu : Int) (wl wh tl th el eh nl nh : Int) : Int := chkE (rotB S cl bu) (airB wl wh tl th el eh nl nh) false (!lkE S.p tl th el eh)
def hasLo (S : Tabs) (cl bu : Int) (wl wh tl th el eh nl nh : Int) : Int := okN (hasE S cl bu wl wh tl th el eh nl nh) (bLo S.p tl th el eh)
def hasHi (S : Tabs) (cl bu : Int) (wl wh tl th el eh nl nh : Int) : Int := okN (hasE S cl bu wl wh tl th el eh nl nh) (bHi S.p tl th el eh)
theorem hasE_ok {S : Tabs} {cl bu wl wh tl th el eh nl nh : Int} (h : hasE S cl bu wl wh tl th el eh nl nh = 0) : rotB S cl bu = true ∧ Fits S.p tl th el eh := by
  obtain ⟨h1, h2, -, h3⟩ := chkE_zero h
  unfold airB at h2; simp only [Bool.and_eq_true] at h2
  exact ⟨h1, Fits.mk' (rotB_p h1) h2.1.1.2 h2.1.2 (by simpa using h3)⟩


theorem Has_c (hx hy hv gx gy gv lx ly lv px py pv nx ny nv ax ay av cx cy cv dx dy dv : Value) (cl bu : Int) (wl wh tl th el eh nl nh : Int) (S : Tabs) (w : World) (hR : RotAt w hx hy hv gx gy gv lx ly lv px py pv nx ny nv ax ay av cx cy cv dx dy dv cl bu S) :
   Calls Try.prog 31 #[.agg #[hx, hy, hv, gx, gy, gv, lx, ly, lv, px, py, pv, nx, ny, nv, ax, ay, av, cx, cy, cv, dx, dy, dv, .int .i64 cl, .int .i64 bu], .agg #[.int .i64 wl, .int .i64 wh, .int .i64 tl, .int .i64 th, .int .i64 el, .int .i64 eh, .int .i64 nl, .int .i64 nh]] w fun e w' => e = .returned (.tuple #[.agg #[.int .i64 (hasLo S cl bu wl wh tl th el eh nl nh), .int .i64 (hasHi S cl bu wl wh tl th el eh nl nh)], .int .i64 (hasE S cl bu wl wh tl th el eh nl nh)]) ∧ Below w.heap.size w w' := by
  have HR := Lib.hid hR
  have hc := fun w1 hR hT => check_c hx hy hv gx gy gv lx ly lv px py pv nx ny nv ax ay av cx cy cv dx dy dv cl bu wl wh tl th el eh nl nh S none 0 0 (fun _ => 0) (fun _ => 0) 77 #[.pointer (some ⟨w.heap.size + 1 + 1 + 1, 0, none⟩)] 1 (look1 ⟨S.p, tl, th, el, eh⟩) w1 hR (by omega) (fun h => absurd h (by omega)) (enters_of Try.func77 (by kernel_rfl) rfl) hT
  rw [show chkE (rotB S cl bu) (airB wl wh tl th el eh nl nh) (anyBad 0 (fun _ => 0) (fun _ => 0)) (offL 1 (look1 ⟨S.p, tl, th, el, eh⟩)) = hasE S cl bu wl wh tl th el eh nl nh by rw [offL1]; rfl] at hc
  have HC := Lib.hid hc
  clear hc hR
  unfold hasLo hasHi
  by_cases h : hasE S cl bu wl wh tl th el eh nl nh = 0
  · obtain ⟨hr, hF⟩ := hasE_ok h
    have HF := Lib.hid hF
    have Hr := Lib.hid hr
    have B := fun w1 x y v => bnd_c x y v S.p tl th el eh w1
    rw [h] at HC ⊢
    rw [okN_ok, okN_ok]
    clear h hF hr
    generalize bLo S.p tl th el eh = p0 at *
    generalize bHi S.p tl th el eh = p1 at *
    have HB := Lib.hid B
    clear B
    go_enter Try.func31, Try.ntmps31
    go_wp2_with (first | (refine wpl_row rfl 27 _ rfl _ rfl #[hx, hy, hv, gx, gy, gv, lx, ly, lv, px, py, pv, nx, ny, nv, ax, ay, av, cx, cy, cv, dx, dy, dv, .int .i64 cl, .int .i64 bu] 26 ?_ Try.rowRot rfl ?_; (focus exact (by repeat (first | (refine Blk.newAt _ _ _ ?_; first | rfl | (simp; done)) | refine Blk.alloc ?_ _))); simp only [Act.put]) | (refine wpl_row rfl 36 _ rfl _ rfl #[.int .i64 wl, .int .i64 wh, .int .i64 tl, .int .i64 th, .int .i64 el, .int .i64 eh, .int .i64 nl, .int .i64 nh] 8 ?_ Try.rowAir rfl ?_; (focus exact (by repeat (first | (refine Blk.newAt _ _ _ ?_; first | rfl | (simp; done)) | refine Blk.alloc ?_ _))); simp only [Act.put]) | (refine wpl_store_new rfl 88 _ _ rfl #[hx, hy, hv, gx, gy, gv, lx, ly, lv, px, py, pv, nx, ny, nv, ax, ay, av, cx, cy, cv, dx, dy, dv, .int .i64 cl, .int .i64 bu, .int .i64 wl, .int .i64 wh, .int .i64 tl, .int .i64 th, .int .i64 el, .int .i64 eh, .int .i64 nl, .int .i64 nh] _ _ rfl ?_ rfl Try.sizeMach rfl (RotAt.one HR.out wl wh tl th el eh nl nh) ?_; (focus (simp; done)); simp only [Act.put]) | (go_at_call 66; refine (HC.out _ (HR.out.below (by repeat' (first | exact Below.refl _ _ | assumption | refine Below.drew ?_ | refine bdn ?_ _ | refine bal ?_ _ | refine Below.setCell ?_ (by first | (simp; done) | omega | (simp; omega)) _))) (fun hr W hW => hasT_c _ _ _ _ _ _ _ _ _ _ _ _ _ _ _ _ _ _ _ _ _ _ _ _ _ _ _ _ _ _ _ _ _ _ S _ w W HR.out (bthen (by repeat' (first | exact Below.refl _ _ | assumption | refine Below.drew ?_ | refine bdn ?_ _ | refine bal ?_ _ | refine Below.setCell ?_ (by first | (simp; done) | omega | (simp; omega)) _)) hW) (Blk.below (by repeat (first | (refine Blk.newAt _ _ _ ?_; first | rfl | (simp; done)) | refine Blk.alloc ?_ _)) hW) (rotB_p hr))).mono ?_; rintro e w1 ⟨rfl, hb1⟩; have hB1 := bthen (show Below w.heap.size w _ from (by repeat' (first | exact Below.refl _ _ | assumption | refine Below.drew ?_ | refine bdn ?_ _ | refine bal ?_ _ | refine Below.setCell ?_ (by first | (simp; done) | omega | (simp; omega)) _))) hb1; have M1 := Lib.hid (show Blk w1 (w.heap.size + 1 + 1 + 1) 88 #[hx, hy, hv, gx, gy, gv, lx, ly, lv, px, py, pv, nx, ny, nv, ax, ay, av, cx, cy, cv, dx, dy, dv, .int .i64 cl, .int .i64 bu, .int .i64 wl, .int .i64 wh, .int .i64 tl, .int .i64 th, .int .i64 el, .int .i64 eh, .int .i64 nl, .int .i64 nh] from Blk.below (by repeat (first | (refine Blk.newAt _ _ _ ?_; first | rfl | (simp; done)) | refine Blk.alloc ?_ _)) hb1); have C1 := Lib.hid (show Blk w1 (w.heap.size + 1 + 1) 34 #[.int .i64 0, .int .i64 0] from Blk.below (by repeat (first | (refine Blk.newAt _ _ _ ?_; first | rfl | (simp; done)) | refine Blk.alloc ?_ _)) hb1); have hz1 := hb1.size; (try simp at hz1); clear hb1) | (refine wpl_row rfl 88 (.tmp 6) rfl _ rfl _ 34 M1.out Try.rowMach rfl ?_; simp only [Act.put]) | (go_at_call 78; (with_reducible refine (power_c _ _ _ _ _ _ _ _ _ _ _ _ _ _ _ _ _ _ _ _ _ _ _ _ _ _ _ _ _ _ _ _ _ _ HR.out.p.s1 HR.out.p.s2 HR.out.p.s3 _).mono ?_); rintro e w2 ⟨rfl, hb2⟩; have C2 := Lib.hid (C1.out.below hb2); have hB2 := bthen hB1 hb2) | (go_at_call 79; refine (HB.out _ _ _ _ (HR.out.p.below hB2) HF.out).mono ?_; rintro e w3 ⟨rfl, hb3⟩; have C3 := C2.out.below hb3; have r0 := C3.cell 0; have r1 := C3.cell 1; have r2 := fun i => C3.frozen i; have K3 := Lib.hid C3; clear C3; have hB := Lib.hid (bthen hB2 hb3)))
    exact bodyPost_ret (res_ct rfl _ _ #[.int .i64 p0, .int .i64 p1] 2 rfl ((K3.out.set_ 0 _).set_ 1 _) Try.rowSpan rfl) rfl ⟨rfl, (by repeat' (first | exact hB.out | refine bset ?_ (by omega) _))⟩
  · have hne : (hasE S cl bu wl wh tl th el eh nl nh != 0) = true := by simpa using h
    rw [okN_no h, okN_no h]
    generalize hasE S cl bu wl wh tl th el eh nl nh = E at *
    clear h
    go_enter Try.func31, Try.ntmps31
    go_wp2_with (first | (refine wpl_row rfl 27 _ rfl _ rfl #[hx, hy, hv, gx, gy, gv, lx, ly, lv, px, py, pv, nx, ny, nv, ax, ay, av, cx, cy, cv, dx, dy, dv, .int .i64 cl, .int .i64 bu] 26 ?_ Try.rowRot rfl ?_; (focus exact (by repeat (first | (refine Blk.newAt _ _ _ ?_; first | rfl | (simp; done)) | refine Blk.alloc ?_ _))); simp only [Act.put]) | (refine wpl_row rfl 36 _ rfl _ rfl #[.int .i64 wl, .int .i64 wh, .int .i64 tl, .int .i64 th, .int .i64 el, .int .i64 eh, .int .i64 nl, .int .i64 nh] 8 ?_ Try.rowAir rfl ?_; (focus exact (by repeat (first | (refine Blk.newAt _ _ _ ?_; first | rfl | (simp; done)) | refine Blk.alloc ?_ _))); simp only [Act.put]) | (refine wpl_store_new rfl 88 _ _ rfl #[hx, hy, hv, gx, gy, gv, lx, ly, lv, px, py, pv, nx, ny, nv, ax, ay, av, cx, cy, cv, dx, dy, dv, .int .i64 cl, .int .i64 bu, .int .i64 wl, .int .i64 wh, .int .i64 tl, .int .i64 th, .int .i64 el, .int .i64 eh, .int .i64 nl, .int .i64 nh] _ _ rfl ?_ rfl Try.sizeMach rfl (RotAt.one HR.out wl wh tl th el eh nl nh) ?_; (focus (simp; done)); simp only [Act.put]) | (go_at_call 66; refine (HC.out _ (HR.out.below (by repeat' (first | exact Below.refl _ _ | assumption | refine Below.drew ?_ | refine bdn ?_ _ | refine bal ?_ _ | refine Below.setCell ?_ (by first | (simp; done) | omega | (simp; omega)) _))) (fun hr W hW => hasT_c _ _ _ _ _ _ _ _ _ _ _ _ _ _ _ _ _ _ _ _ _ _ _ _ _ _ _ _ _ _ _ _ _ _ S _ w W HR.out (bthen (by repeat' (first | exact Below.refl _ _ | assumption | refine Below.drew ?_ | refine bdn ?_ _ | refine bal ?_ _ | refine Below.setCell ?_ (by first | (simp; done) | omega | (simp; omega)) _)) hW) (Blk.below (by repeat (first | (refine Blk.newAt _ _ _ ?_; first | rfl | (simp; done)) | refine Blk.alloc ?_ _)) hW) (rotB_p hr))).mono ?_; rintro e w1 ⟨rfl, hb1⟩; have hB := Lib.hid (bthen (show Below w.heap.size w _ from (by repeat' (first | exact Below.refl _ _ | assumption | refine Below.drew ?_ | refine bdn ?_ _ | refine bal ?_ _ | refine Below.setCell ?_ (by first | (simp; done) | omega | (simp; omega)) _))) hb1); have C1 := (show Blk w1 (w.heap.size + 1 + 1) 34 #[.int .i64 0, .int .i64 0] from Blk.below (by repeat (first | (refine Blk.newAt _ _ _ ?_; first | rfl | (simp; done)) | refine Blk.alloc ?_ _)) hb1); have r0 := C1.cell 0; have r1 := C1.cell 1; have r2 := fun i => C1.frozen i; have K1 := Lib.hid C1; clear C1; have hz1 := hb1.size; (try simp at hz1)))
    exact bodyPost_ret (res_ct rfl _ _ #[.int .i64 0, .int .i64 0] 2 rfl ((K1.out.set_ 0 _).set_ 1 _) Try.rowSpan rfl) rfl ⟨rfl, (by repeat' (first | exact hB.out | refine bset ?_ (by omega) _))⟩
end Go.Proofs.Ytoembbcddhlokaa
