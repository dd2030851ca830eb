/- Contracts: checkMargin, checkLevel of package rotor. -/
import Derived.Test.YtechkkgmdjgddaaGreatRoK
import Derived.Test.YtechkkgmdjgddaaGreatBas
set_option linter.all false
namespace Go.Proofs.YtechkkgmdjgddaaGreat
open Go Go.RowKit Go.Proofs
set_option maxRecDepth 100000
set_option maxHeartbeats 4000000

def margE (S : Tabs) (cl bu : Int) (wl wh tl th el eh nl nh : Int) (sl sh : Int) : Int := chkE (rotB S cl bu) (airB wl wh tl th el eh nl nh) (!vspan sl sh) (!lkE S.h wl wh tl th || (!lkE S.g sl sh nl nh || !lkE S.p tl th el eh))
theorem margE_ok {S : Tabs} {cl bu wl wh tl th el eh nl nh sl sh : Int} (h : margE S cl bu wl wh tl th el eh nl nh sl sh = 0) : rotB S cl bu = true ∧ Fits S.h wl wh tl th ∧ Fits S.g sl sh nl nh ∧ Fits S.p tl th el eh := by
  obtain ⟨h1, h2, h3, h4⟩ := chkE_zero h
  unfold airB at h2; simp only [Bool.and_eq_true] at h2
  simp only [Bool.or_eq_false_iff, Bool.not_eq_false'] at h3 h4
  exact ⟨h1, Fits.mk' (rotB_h h1) h2.1.1.1 h2.1.1.2 h4.1, Fits.mk' (rotB_g h1) h3 h2.2 h4.2.1, Fits.mk' (rotB_p h1) h2.1.1.2 h2.1.2 h4.2.2⟩
def levE (S : Tabs) (cl bu : Int) (wl wh tl th el eh nl nh : Int) (sl sh : Int) : Int := chkE (rotB S cl bu) (airB wl wh tl th el eh nl nh) (!vspan sl sh) (!lkE S.l sl sh wl wh)
theorem levE_ok {S : Tabs} {cl bu wl wh tl th el eh nl nh sl sh : Int} (h : levE S cl bu wl wh tl th el eh nl nh sl sh = 0) : rotB S cl bu = true ∧ Fits S.l sl sh wl wh := by
  obtain ⟨h1, h2, h3, h4⟩ := chkE_zero h
  unfold airB at h2; simp only [Bool.and_eq_true] at h2
  simp only [Bool.not_eq_false'] at h3 h4
  exact ⟨h1, Fits.mk' (rotB_l h1) h3 h2.1.1.1 h4⟩

/-- check with one further span, in a slice of one. -/
theorem check1s_c (hx hy hv gx gy gv lx ly lv px py pv nx ny nv ax ay av cx cy cv dx dy dv : Value) (cl bu : Int) (wl wh tl th el eh nl nh : Int) (S : Tabs) (b c : Nat) (sl sh : Int) (g : Nat) (lb : Array Value) (m : Nat) (L : Nat → Look) (w : World) (hR : RotAt w hx hy hv gx gy gv lx ly lv px py pv nx ny nv ax ay av cx cy cv dx dy dv cl bu S)
    (h0 : w.cell? ⟨b, 0, none⟩ = some (.int .i64 sl)) (h1 : w.cell? ⟨b, 1, none⟩ = some (.int .i64 sh)) (hg : ∀ args w, (callFunc g args).run Tryz.prog w = .ok (.enter g args) w) (hT : rotB S cl bu = true → Tables Tryz.prog g lb m L w) :
   Calls Tryz.prog 31 #[.agg #[hx, hy, hv, gx, gy, gv, lx, ly, lv, px, py, pv, nx, ny, nv, ax, ay, av, cx, cy, cv, dx, dy, dv, .int .i64 cl, .int .i64 bu], .agg #[.int .i64 wl, .int .i64 wh, .int .i64 tl, .int .i64 th, .int .i64 el, .int .i64 eh, .int .i64 nl, .int .i64 nh], .slice (some ⟨b, 0, none⟩) 1 c, .func (.func g) #[] lb] w fun e w' => e = .returned (.int .i64 (chkE (rotB S cl bu) (airB wl wh tl th el eh nl nh) (!vspan sl sh) (offL m L))) ∧ Below w.heap.size w w' := by
  have h := check_c hx hy hv gx gy gv lx ly lv px py pv nx ny nv ax ay av cx cy cv dx dy dv cl bu wl wh tl th el eh nl nh S (some ⟨b, 0, none⟩) 1 c (fun _ => sl) (fun _ => sh) g lb m L w hR (by omega) (fun _ => ⟨b, 0, rfl, blk_lt h0, fun k hk => by
      obtain rfl : k = 0 := by omega
      simpa using ⟨h0, h1⟩⟩) hg hT
  rw [anyBad1] at h
  exact h


theorem checkMargin_c (hx hy hv gx gy gv lx ly lv px py pv nx ny nv ax ay av cx cy cv dx dy dv : Value) (cl bu wl wh tl th el eh nl nh : Int) (S : Tabs) (sl sh : Int) (w : World) (hR : RotAt w hx hy hv gx gy gv lx ly lv px py pv nx ny nv ax ay av cx cy cv dx dy dv cl bu S) :
   Calls Tryz.prog 43 #[.agg #[hx, hy, hv, gx, gy, gv, lx, ly, lv, px, py, pv, nx, ny, nv, ax, ay, av, cx, cy, cv, dx, dy, dv, .int .i64 cl, .int .i64 bu, .int .i64 wl, .int .i64 wh, .int .i64 tl, .int .i64 th, .int .i64 el, .int .i64 eh, .int .i64 nl, .int .i64 nh], .agg #[.int .i64 sl, .int .i64 sh]] w fun e w' => e = .returned (.int .i64 (margE S cl bu wl wh tl th el eh nl nh sl sh)) ∧ Below w.heap.size w w' := by
  have HR := Lib.hid hR
  have hc := fun w1 b c hR h0 h1 hT => check1s_c hx hy hv gx gy gv lx ly lv px py pv nx ny nv ax ay av cx cy cv dx dy dv cl bu wl wh tl th el eh nl nh S b c sl sh 70 #[.pointer (some ⟨w.heap.size, 0, none⟩), .pointer (some ⟨w.heap.size + 1, 0, none⟩)] 3 (look3 ⟨S.h, wl, wh, tl, th⟩ ⟨S.g, sl, sh, nl, nh⟩ ⟨S.p, tl, th, el, eh⟩) w1 hR h0 h1 (enters_of Tryz.func70 (by kernel_rfl) rfl) hT
  rw [show chkE (rotB S cl bu) (airB wl wh tl th el eh nl nh) (!vspan sl sh) (offL 3 (look3 ⟨S.h, wl, wh, tl, th⟩ ⟨S.g, sl, sh, nl, nh⟩ ⟨S.p, tl, th, el, eh⟩)) = margE S cl bu wl wh tl th el eh nl nh sl sh by rw [offL3]; rfl] at hc
  have HC := Lib.hid hc
  clear hc hR
  generalize margE S cl bu wl wh tl th el eh nl nh sl sh = E at *
  go_enter Tryz.func43, Tryz.ntmps43
  go_wp2_with (first | (refine wpl_mid rfl 27 _ rfl _ 0 rfl 51 #[hx, hy, hv, gx, gy, gv, lx, ly, lv, px, py, pv, nx, ny, nv, ax, ay, av, cx, cy, cv, dx, dy, dv, .int .i64 cl, .int .i64 bu, .int .i64 wl, .int .i64 wh, .int .i64 tl, .int .i64 th, .int .i64 el, .int .i64 eh, .int .i64 nl, .int .i64 nh] #[hx, hy, hv, gx, gy, gv, lx, ly, lv, px, py, pv, nx, ny, nv, ax, ay, av, cx, cy, cv, dx, dy, dv, .int .i64 cl, .int .i64 bu] 26 ?_ Tryz.rowRot [] [.int .i64 wl, .int .i64 wh, .int .i64 tl, .int .i64 th, .int .i64 el, .int .i64 eh, .int .i64 nl, .int .i64 nh] rfl rfl rfl ?_; (focus exact (by repeat (first | (refine Blk.newAt _ _ _ ?_; first | rfl | (simp; done)) | refine Blk.alloc ?_ _))); simp only [Act.put]) | (refine wpl_mid rfl 31 _ rfl _ 26 rfl 51 #[hx, hy, hv, gx, gy, gv, lx, ly, lv, px, py, pv, nx, ny, nv, ax, ay, av, cx, cy, cv, dx, dy, dv, .int .i64 cl, .int .i64 bu, .int .i64 wl, .int .i64 wh, .int .i64 tl, .int .i64 th, .int .i64 el, .int .i64 eh, .int .i64 nl, .int .i64 nh] #[.int .i64 wl, .int .i64 wh, .int .i64 tl, .int .i64 th, .int .i64 el, .int .i64 eh, .int .i64 nl, .int .i64 nh] 8 ?_ Tryz.rowAir [hx, hy, hv, gx, gy, gv, lx, ly, lv, px, py, pv, nx, ny, nv, ax, ay, av, cx, cy, cv, dx, dy, dv, .int .i64 cl, .int .i64 bu] [] rfl rfl rfl ?_; (focus exact (by repeat (first | (refine Blk.newAt _ _ _ ?_; first | rfl | (simp; done)) | refine Blk.alloc ?_ _))); simp only [Act.put]) | (go_at_call 31; refine (HC.out _ _ _ (HR.out.below (by repeat' (first | exact Below.refl _ _ | assumption | refine Below.drew ?_ | refine bdn ?_ _ | refine bal ?_ _ | refine Below.setCell ?_ (by first | (simp; done) | omega | (simp; omega)) _))) (by first | (simp; done) | (rw [cell_new_at _ _ _ _ _ (by simp)]; first | rfl | (simp; done))) (by first | (simp; done) | (rw [cell_new_at _ _ _ _ _ (by simp)]; first | rfl | (simp; done))) (fun hr W hW => marginT_c _ _ _ _ _ _ _ _ _ _ _ _ _ _ _ _ _ _ _ _ _ _ _ _ _ _ _ _ _ _ _ _ _ _ S _ _ _ _ w W HR.out (bthen (by repeat' (first | exact Below.refl _ _ | assumption | refine Below.drew ?_ | refine bdn ?_ _ | refine bal ?_ _ | refine Below.setCell ?_ (by first | (simp; done) | omega | (simp; omega)) _)) hW) (Blk.below (by repeat (first | (refine Blk.newAt _ _ _ ?_; first | rfl | (simp; done)) | refine Blk.alloc ?_ _)) hW) (Blk.below (by repeat (first | (refine Blk.newAt _ _ _ ?_; first | rfl | (simp; done)) | refine Blk.alloc ?_ _)) hW) (rotB_h hr) (rotB_g hr) (rotB_p hr))).mono ?_; rintro e w1 ⟨rfl, hb1⟩; have hB1 := bthen (show Below w.heap.size w _ from (by repeat' (first | exact Below.refl _ _ | assumption | refine Below.drew ?_ | refine bdn ?_ _ | refine bal ?_ _ | refine Below.setCell ?_ (by first | (simp; done) | omega | (simp; omega)) _))) hb1))
  go_ret
  exact ⟨rfl, hB1⟩

end Go.Proofs.YtechkkgmdjgddaaGreat
