/- Contracts: Wake of package rotor. -/
import Derived.Test.YtoembbcddhlokaaRoL
set_option linter.all false
namespace Go.Proofs.Ytoembbcddhlokaa
open Go Go.RowKit Go.Proofs
set_option maxRecDepth 100000
set_option maxHeartbeats 4000000

/-- check with two further spans, in a slice of two. -/
theorem check2s_c (hx hy hv gx gy gv lx ly lv px py pv nx ny nv ax ay av cx cy cv dx dy dv : Value) (cl bu : Int) (wl wh tl th el eh nl nh : Int) (S : Tabs) (b c : Nat) (sl sh kl kh : Int) (g : Nat) (lb : Array Value) (m : Nat) (L : Nat → Look) (w : World) (hR : RotAt w hx hy hv gx gy gv lx ly lv px py pv nx ny nv ax ay av cx cy cv dx dy dv cl bu S)
    (h0 : w.cell? ⟨b, 0, none⟩ = some (.int .i64 sl)) (h1 : w.cell? ⟨b, 1, none⟩ = some (.int .i64 sh)) (h2 : w.cell? ⟨b, 2, none⟩ = some (.int .i64 kl)) (h3 : w.cell? ⟨b, 3, none⟩ = some (.int .i64 kh))
    (hg : ∀ args w, (callFunc g args).run Try.prog w = .ok (.enter g args) w) (hT : rotB S cl bu = true → Tables Try.prog g lb m L w) :
   Calls Try.prog 66 #[.agg #[hx, hy, hv, gx, gy, gv, lx, ly, lv, px, py, pv, nx, ny, nv, ax, ay, av, cx, cy, cv, dx, dy, dv, .int .i64 cl, .int .i64 bu], .agg #[.int .i64 wl, .int .i64 wh, .int .i64 tl, .int .i64 th, .int .i64 el, .int .i64 eh, .int .i64 nl, .int .i64 nh], .slice (some ⟨b, 0, none⟩) 2 c, .func (.func g) #[] lb] w fun e w' => e = .returned (.int .i64 (chkE (rotB S cl bu) (airB wl wh tl th el eh nl nh) (!vspan sl sh || !vspan kl kh) (offL m L))) ∧ Below w.heap.size w w' := by
  have h := check_c hx hy hv gx gy gv lx ly lv px py pv nx ny nv ax ay av cx cy cv dx dy dv cl bu wl wh tl th el eh nl nh S (some ⟨b, 0, none⟩) 2 c (fun i => if i = 0 then sl else kl) (fun i => if i = 0 then sh else kh) g lb m L w hR (by omega) (fun _ => ⟨b, 0, rfl, blk_lt h0, fun k hk => by
      rcases (show k = 0 ∨ k = 1 by omega) with rfl | rfl
      · simpa using ⟨h0, h1⟩
      · simpa using ⟨h2, h3⟩⟩) hg hT
  rw [anyBad2] at h
  exact h

def wakE (S : Tabs) (cl bu : Int) (wl wh tl th el eh nl nh : Int) (sl sh kl kh : Int) : Int := chkE (rotB S cl bu) (airB wl wh tl th el eh nl nh) (!vspan sl sh || !vspan kl kh) (!lkE S.a sl sh wl wh)
def wakR (S : Tabs) (cl bu : Int) (wl wh tl th el eh nl nh : Int) (sl sh kl kh : Int) : Bool := decide (wakE S cl bu wl wh tl th el eh nl nh sl sh kl kh = 0) && wakV S wl wh sl sh kl kh
theorem Fits_c {S : Tabs} {cl bu xl xh yl yh : Int} (hr : rotB S cl bu = true) (h : Fits S.a xl xh yl yh) : Fits S.c xl xh yl yh := by
  obtain ⟨e1, e2⟩ := rotB_axes hr
  exact ⟨right_t (rotB_c hr), h.vx, h.vy, by rw [← e1]; exact h.lx, by rw [← e2]; exact h.ly⟩
theorem wakE_ok {S : Tabs} {cl bu wl wh tl th el eh nl nh sl sh kl kh : Int} (h : wakE S cl bu wl wh tl th el eh nl nh sl sh kl kh = 0) : rotB S cl bu = true ∧ Fits S.a sl sh wl wh ∧ Fits S.c sl sh wl wh := by
  obtain ⟨h1, h2, h3, h4⟩ := chkE_zero h
  unfold airB at h2; simp only [Bool.and_eq_true] at h2
  simp only [Bool.or_eq_false_iff, Bool.not_eq_false'] at h3 h4
  have f := Fits.mk' (rotB_a h1) h3.1 h2.1.1.1 h4
  exact ⟨h1, f, Fits_c h1 f⟩

theorem wake_d (hx hy hv gx gy gv lx ly lv px py pv nx ny nv ax ay av cx cy cv dx dy dv : Value) (cl bu wl wh tl th el eh nl nh : Int) (sl sh kl kh : Int) (S : Tabs) (w : World) (hR : RotAt w hx hy hv gx gy gv lx ly lv px py pv nx ny nv ax ay av cx cy cv dx dy dv cl bu S) (hA : Fits S.a sl sh wl wh) (hC : Fits S.c sl sh wl wh) :
   Calls Try.prog 69 #[.agg #[hx, hy, hv, gx, gy, gv, lx, ly, lv, px, py, pv, nx, ny, nv, ax, ay, av, cx, cy, cv, dx, dy, dv, .int .i64 cl, .int .i64 bu, .int .i64 wl, .int .i64 wh, .int .i64 tl, .int .i64 th, .int .i64 el, .int .i64 eh, .int .i64 nl, .int .i64 nh], .agg #[.int .i64 sl, .int .i64 sh], .agg #[.int .i64 kl, .int .i64 kh]] w fun e w' => e = .returned (.bool (wakV S wl wh sl sh kl kh)) ∧ Below w.heap.size w w' := by
  have := wake_c hx hy hv gx gy gv lx ly lv px py pv nx ny nv ax ay av cx cy cv dx dy dv cl bu wl wh tl th el eh nl nh sl sh kl kh S w hR hA hC
  unfold wakeB at this
  rw [(bnd_eq hA).1, (bnd_eq hC).2] at this
  exact this

theorem Wake_c (hx hy hv gx gy gv lx ly lv px py pv nx ny nv ax ay av cx cy cv dx dy dv : Value) (cl bu : Int) (wl wh tl th el eh nl nh : Int) (S : Tabs) (sl sh kl kh : Int) (w : World) (hR : RotAt w hx hy hv gx gy gv lx ly lv px py pv nx ny nv ax ay av cx cy cv dx dy dv cl bu S) :
   Calls Try.prog 27 #[.agg #[hx, hy, hv, gx, gy, gv, lx, ly, lv, px, py, pv, nx, ny, nv, ax, ay, av, cx, cy, cv, dx, dy, dv, .int .i64 cl, .int .i64 bu], .agg #[.int .i64 wl, .int .i64 wh, .int .i64 tl, .int .i64 th, .int .i64 el, .int .i64 eh, .int .i64 nl, .int .i64 nh], .agg #[.int .i64 sl, .int .i64 sh], .agg #[.int .i64 kl, .int .i64 kh]] w fun e w' => e = .returned (.tuple #[.bool (wakR S cl bu wl wh tl th el eh nl nh sl sh kl kh), .int .i64 (wakE S cl bu wl wh tl th el eh nl nh sl sh kl kh)]) ∧ Below w.heap.size w w' := by
  have HR := Lib.hid hR
  have hc := fun w1 b c hR h0 h1 h2 h3 hT => check2s_c hx hy hv gx gy gv lx ly lv px py pv nx ny nv ax ay av cx cy cv dx dy dv cl bu wl wh tl th el eh nl nh S b c sl sh kl kh 67 #[.pointer (some ⟨w.heap.size + 1 + 1 + 1 + 1, 0, none⟩), .pointer (some ⟨w.heap.size + 1 + 1, 0, none⟩)] 1 (look1 ⟨S.a, sl, sh, wl, wh⟩) w1 hR h0 h1 h2 h3 (enters_of Try.func67 (by kernel_rfl) rfl) hT
  rw [show chkE (rotB S cl bu) (airB wl wh tl th el eh nl nh) (!vspan sl sh || !vspan kl kh) (offL 1 (look1 ⟨S.a, sl, sh, wl, wh⟩)) = wakE S cl bu wl wh tl th el eh nl nh sl sh kl kh by rw [offL1]; rfl] at hc
  have HC := Lib.hid hc
  clear hc hR
  unfold wakR
  by_cases h : wakE S cl bu wl wh tl th el eh nl nh sl sh kl kh = 0
  · obtain ⟨hr, hA, hC⟩ := wakE_ok h
    have F := Lib.hid (fun w1 hR => wake_d hx hy hv gx gy gv lx ly lv px py pv nx ny nv ax ay av cx cy cv dx dy dv cl bu wl wh tl th el eh nl nh sl sh kl kh S w1 hR hA hC)
    rw [h] at HC ⊢
    rw [show decide ((0 : Int) = 0) = true from rfl, Bool.true_and]
    clear h hA hC hr
    generalize wakV S wl wh sl sh kl kh = p0 at *
    go_enter Try.func27, Try.ntmps27
    go_wp2_with (first | (refine wpl_row rfl 27 _ rfl _ rfl #[hx, hy, hv, gx, gy, gv, lx, ly, lv, px, py, pv, nx, ny, nv, ax, ay, av, cx, cy, cv, dx, dy, dv, .int .i64 cl, .int .i64 bu] 26 ?_ Try.rowRot rfl ?_; (focus exact (by repeat (first | (refine Blk.newAt _ _ _ ?_; first | rfl | (simp; done)) | refine Blk.alloc ?_ _))); simp only [Act.put]) | (refine wpl_row rfl 36 _ rfl _ rfl #[.int .i64 wl, .int .i64 wh, .int .i64 tl, .int .i64 th, .int .i64 el, .int .i64 eh, .int .i64 nl, .int .i64 nh] 8 ?_ Try.rowAir rfl ?_; (focus exact (by repeat (first | (refine Blk.newAt _ _ _ ?_; first | rfl | (simp; done)) | refine Blk.alloc ?_ _))); simp only [Act.put]) | (refine wpl_store_new rfl 88 _ _ rfl #[hx, hy, hv, gx, gy, gv, lx, ly, lv, px, py, pv, nx, ny, nv, ax, ay, av, cx, cy, cv, dx, dy, dv, .int .i64 cl, .int .i64 bu, .int .i64 wl, .int .i64 wh, .int .i64 tl, .int .i64 th, .int .i64 el, .int .i64 eh, .int .i64 nl, .int .i64 nh] _ _ rfl ?_ rfl Try.sizeMach rfl (RotAt.one HR.out wl wh tl th el eh nl nh) ?_; (focus (simp; done)); simp only [Act.put]) | (refine wpl_row rfl 88 (.tmp 10) rfl _ rfl _ 34 M1.out Try.rowMach rfl ?_; simp only [Act.put]) | (go_at_call 66; refine (HC.out _ _ _ (HR.out.below (by repeat' (first | exact Below.refl _ _ | assumption | refine Below.drew ?_ | refine bdn ?_ _ | refine bal ?_ _ | refine Below.setCell ?_ (by first | (simp; done) | omega | (simp; omega)) _))) (by first | (simp; done) | (rw [cell_new_at _ _ _ _ _ (by simp)]; first | rfl | (simp; done))) (by first | (simp; done) | (rw [cell_new_at _ _ _ _ _ (by simp)]; first | rfl | (simp; done))) (by first | (simp; done) | (rw [cell_new_at _ _ _ _ _ (by simp)]; first | rfl | (simp; done))) (by first | (simp; done) | (rw [cell_new_at _ _ _ _ _ (by simp)]; first | rfl | (simp; done))) (fun hr W hW => wakeT_c _ _ _ _ _ _ _ _ _ _ _ _ _ _ _ _ _ _ _ _ _ _ _ _ _ _ _ _ _ _ _ _ _ _ S _ _ _ _ w W HR.out (bthen (by repeat' (first | exact Below.refl _ _ | assumption | refine Below.drew ?_ | refine bdn ?_ _ | refine bal ?_ _ | refine Below.setCell ?_ (by first | (simp; done) | omega | (simp; omega)) _)) hW) (Blk.below (by repeat (first | (refine Blk.newAt _ _ _ ?_; first | rfl | (simp; done)) | refine Blk.alloc ?_ _)) hW) (Blk.below (by repeat (first | (refine Blk.newAt _ _ _ ?_; first | rfl | (simp; done)) | refine Blk.alloc ?_ _)) hW) (rotB_a hr))).mono ?_; rintro e w1 ⟨rfl, hb1⟩; have hB1 := bthen (show Below w.heap.size w _ from (by repeat' (first | exact Below.refl _ _ | assumption | refine Below.drew ?_ | refine bdn ?_ _ | refine bal ?_ _ | refine Below.setCell ?_ (by first | (simp; done) | omega | (simp; omega)) _))) hb1; have M1 := Lib.hid (show Blk w1 (w.heap.size + 1 + 1 + 1 + 1) 88 #[hx, hy, hv, gx, gy, gv, lx, ly, lv, px, py, pv, nx, ny, nv, ax, ay, av, cx, cy, cv, dx, dy, dv, .int .i64 cl, .int .i64 bu, .int .i64 wl, .int .i64 wh, .int .i64 tl, .int .i64 th, .int .i64 el, .int .i64 eh, .int .i64 nl, .int .i64 nh] from Blk.below (by repeat (first | (refine Blk.newAt _ _ _ ?_; first | rfl | (simp; done)) | refine Blk.alloc ?_ _)) hb1); have D1 := (show Blk w1 (w.heap.size + 1 + 1) 34 #[.int .i64 sl, .int .i64 sh] from Blk.below (by repeat (first | (refine Blk.newAt _ _ _ ?_; first | rfl | (simp; done)) | refine Blk.alloc ?_ _)) hb1); have s0 := D1.cell 0; have s1 := D1.cell 1; clear D1; have D2 := (show Blk w1 (w.heap.size + 1 + 1 + 1) 34 #[.int .i64 kl, .int .i64 kh] from Blk.below (by repeat (first | (refine Blk.newAt _ _ _ ?_; first | rfl | (simp; done)) | refine Blk.alloc ?_ _)) hb1); have s2 := D2.cell 0; have s3 := D2.cell 1; clear D2; have hz1 := hb1.size; (try simp at hz1); clear hb1) | (go_at_call 69; refine (F.out _ (HR.out.below hB1)).mono ?_; rintro e w3 ⟨rfl, hb3⟩; have hB := (bthen hB1 hb3)))
    go_ret2
    exact ⟨rfl, hB⟩
  · have hne : (wakE S cl bu wl wh tl th el eh nl nh sl sh kl kh != 0) = true := by simpa using h
    rw [show decide (wakE S cl bu wl wh tl th el eh nl nh sl sh kl kh = 0) = false by simpa using h, Bool.false_and]
    generalize wakE S cl bu wl wh tl th el eh nl nh sl sh kl kh = E at *
    clear h
    go_enter Try.func27, Try.ntmps27
    go_wp2_with (first | (refine wpl_row rfl 27 _ rfl _ rfl #[hx, hy, hv, gx, gy, gv, lx, ly, lv, px, py, pv, nx, ny, nv, ax, ay, av, cx, cy, cv, dx, dy, dv, .int .i64 cl, .int .i64 bu] 26 ?_ Try.rowRot rfl ?_; (focus exact (by repeat (first | (refine Blk.newAt _ _ _ ?_; first | rfl | (simp; done)) | refine Blk.alloc ?_ _))); simp only [Act.put]) | (refine wpl_row rfl 36 _ rfl _ rfl #[.int .i64 wl, .int .i64 wh, .int .i64 tl, .int .i64 th, .int .i64 el, .int .i64 eh, .int .i64 nl, .int .i64 nh] 8 ?_ Try.rowAir rfl ?_; (focus exact (by repeat (first | (refine Blk.newAt _ _ _ ?_; first | rfl | (simp; done)) | refine Blk.alloc ?_ _))); simp only [Act.put]) | (refine wpl_store_new rfl 88 _ _ rfl #[hx, hy, hv, gx, gy, gv, lx, ly, lv, px, py, pv, nx, ny, nv, ax, ay, av, cx, cy, cv, dx, dy, dv, .int .i64 cl, .int .i64 bu, .int .i64 wl, .int .i64 wh, .int .i64 tl, .int .i64 th, .int .i64 el, .int .i64 eh, .int .i64 nl, .int .i64 nh] _ _ rfl ?_ rfl Try.sizeMach rfl (RotAt.one HR.out wl wh tl th el eh nl nh) ?_; (focus (simp; done)); simp only [Act.put]) | (go_at_call 66; refine (HC.out _ _ _ (HR.out.below (by repeat' (first | exact Below.refl _ _ | assumption | refine Below.drew ?_ | refine bdn ?_ _ | refine bal ?_ _ | refine Below.setCell ?_ (by first | (simp; done) | omega | (simp; omega)) _))) (by first | (simp; done) | (rw [cell_new_at _ _ _ _ _ (by simp)]; first | rfl | (simp; done))) (by first | (simp; done) | (rw [cell_new_at _ _ _ _ _ (by simp)]; first | rfl | (simp; done))) (by first | (simp; done) | (rw [cell_new_at _ _ _ _ _ (by simp)]; first | rfl | (simp; done))) (by first | (simp; done) | (rw [cell_new_at _ _ _ _ _ (by simp)]; first | rfl | (simp; done))) (fun hr W hW => wakeT_c _ _ _ _ _ _ _ _ _ _ _ _ _ _ _ _ _ _ _ _ _ _ _ _ _ _ _ _ _ _ _ _ _ _ S _ _ _ _ w W HR.out (bthen (by repeat' (first | exact Below.refl _ _ | assumption | refine Below.drew ?_ | refine bdn ?_ _ | refine bal ?_ _ | refine Below.setCell ?_ (by first | (simp; done) | omega | (simp; omega)) _)) hW) (Blk.below (by repeat (first | (refine Blk.newAt _ _ _ ?_; first | rfl | (simp; done)) | refine Blk.alloc ?_ _)) hW) (Blk.below (by repeat (first | (refine Blk.newAt _ _ _ ?_; first | rfl | (simp; done)) | refine Blk.alloc ?_ _)) hW) (rotB_a hr))).mono ?_; rintro e w1 ⟨rfl, hb1⟩; have hB1 := bthen (show Below w.heap.size w _ from (by repeat' (first | exact Below.refl _ _ | assumption | refine Below.drew ?_ | refine bdn ?_ _ | refine bal ?_ _ | refine Below.setCell ?_ (by first | (simp; done) | omega | (simp; omega)) _))) hb1))
    go_ret2
    exact ⟨rfl, hB1⟩
end Go.Proofs.Ytoembbcddhlokaa
