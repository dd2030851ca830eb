/- The law RotorDescends. -/
import Derived.Test.YtoembbcddhlokaaLaC
import Derived.Test.YtoembbcddhlokaaLaQ
import Derived.Test.YtoembbcddhlokaaRfT
import Derived.Test.YtoembbcddhlokaaStr
import Derived.Test.YtoembbcddhlokaaRgL
set_option linter.all false
namespace Go.Proofs.Ytoembbcddhlokaa
open Go Go.RowKit Go.Proofs
set_option maxRecDepth 100000
set_option maxHeartbeats 8000000

theorem DropsAt.recs {w : World} {A : Option Addr} {n : Nat} {D : Nat → Nat → Int} (h : DropsAt w A n D) : RecsAt w A n 5 (fun i j => .int .i64 (D i j)) := h
theorem DropsAt.of_recs {w : World} {A : Option Addr} {n : Nat} {D : Nat → Nat → Int} (h : RecsAt w A n 5 (fun i j => .int .i64 (D i j))) : DropsAt w A n D := h
theorem Try.undDrops : Try.prog.underlying 68 = some (.slice 74) := by kernel_rfl
theorem Try.infoDrop : (Try.prog.info? 74).map (fun i => (i.zero, i.size, i.bytes)) = some (some (.agg #[.int .i64 0, .int .i64 0, .int .i64 0, .int .i64 0, .int .i64 0]), 5, 40) := by kernel_rfl
def DropsV (n : Nat) (D : Nat → Nat → Int) (v : Value) (w : World) : Prop := ∃ A c, v = .slice A n c ∧ n ≤ c ∧ c ≤ 9223372036854775807 ∧ DropsAt w A n D
theorem DropsV.below {n : Nat} {D : Nat → Nat → Int} {v : Value} {w w' : World} (hb : Below w.heap.size w w') (h : DropsV n D v w) : DropsV n D v w' := by
  obtain ⟨A, c, e, h1, h2, h3⟩ := h
  exact ⟨A, c, e, h1, h2, h3.below hb⟩

def desR (w0 : Nat) (cl bu : Int) (S : Tabs) (r a l : Value) (n : Nat) (D : Nat → Nat → Int) (V0 V1 V2 V3 : Int) : Nat → Value → World → Prop
  | 0, v, _ => v = r
  | 1, v, w => OwnP cl bu S v w
  | 2, v, _ => v = a
  | 3, v, w => EmptyS 74 v w
  | 4, v, _ => v = l
  | 5, v, w => DropsV n D v w
  | 6, v, _ => v = .tuple #[.agg #[.int .i64 V0, .int .i64 V1], .int .i64 V2, .int .i64 V3]
  | 7, v, _ => v = .tuple #[.agg #[.int .i64 V0, .int .i64 V1], .int .i64 V2, .int .i64 V3]
  | 8, v, _ => v = .agg #[.int .i64 V0, .int .i64 V1]
  | 9, v, _ => v = .int .i64 V2
  | 10, v, _ => v = .int .i64 V3
  | 11, v, w => NewBlk w0 34 #[.int .i64 0, .int .i64 0] v w
  | _, _, _ => True
theorem desR_below {w0 : Nat} {cl bu : Int} {S : Tabs} {r a l : Value} {n : Nat} {D : Nat → Nat → Int} {V0 V1 V2 V3 : Int} (k : Nat) (v : Value) (w w' : World) (hb : Below w.heap.size w w') (h : desR w0 cl bu S r a l n D V0 V1 V2 V3 k v w) : desR w0 cl bu S r a l n D V0 V1 V2 V3 k v w' := by
  unfold desR at *
  split at h <;> first | exact h | exact OwnP.below h hb | exact EmptyS.below hb h | exact DropsV.below hb h | exact NewBlk.below hb h

theorem RotorDescends_c (hx hy hv gx gy gv lx ly lv px py pv nx ny nv ax ay av cx cy cv dx dy dv : Value) (cl bu : Int) (wl wh tl th el eh nl nh : Int) (S : Tabs) (A : Option Addr) (n c : Nat) (D : Nat → Nat → Int) (w : World) (hR : RotAt w hx hy hv gx gy gv lx ly lv px py pv nx ny nv ax ay av cx cy cv dx dy dv cl bu S) (hn : n ≤ c) (hc : c ≤ 9223372036854775807) (hD : DropsAt w A n D) :
   Calls Try.prog 10 #[.agg #[hx, hy, hv, gx, gy, gv, lx, ly, lv, px, py, pv, nx, ny, nv, ax, ay, av, cx, cy, cv, dx, dy, dv, .int .i64 cl, .int .i64 bu], .agg #[.int .i64 wl, .int .i64 wh, .int .i64 tl, .int .i64 th, .int .i64 el, .int .i64 eh, .int .i64 nl, .int .i64 nh], .slice A n c] w fun e w' => e = .returned (.bool true) ∧ Below w.heap.size w w' := by
  have HR := Lib.hid hR
  have HD := Lib.hid hD
  clear hR hD
  have HW := Lib.hid (fun w1 hR => far2_c hx hy hv gx gy gv lx ly lv px py pv nx ny nv ax ay av cx cy cv dx dy dv cl bu S w1 hR)
  cases hf : farS S
  case true =>
    rw [hf] at HW
    go_enter Try.func10, Try.ntmps10
    go_wp2_with (first | (refine wpl_row rfl 27 _ rfl _ rfl #[hx, hy, hv, gx, gy, gv, lx, ly, lv, px, py, pv, nx, ny, nv, ax, ay, av, cx, cy, cv, dx, dy, dv, .int .i64 cl, .int .i64 bu] 26 ?_ Try.rowRot rfl ?_; (focus exact (by repeat (first | (refine Blk.newAt _ _ _ ?_; first | rfl | (simp; done)) | refine Blk.alloc ?_ _))); simp only [Act.put]))
    have bHM : Blk ((w.alloc (.cells #[hx, hy, hv, gx, gy, gv, lx, ly, lv, px, py, pv, nx, ny, nv, ax, ay, av, cx, cy, cv, dx, dy, dv, .int .i64 cl, .int .i64 bu] 27)).alloc (.cells #[.int .i64 wl, .int .i64 wh, .int .i64 tl, .int .i64 th, .int .i64 el, .int .i64 eh, .int .i64 nl, .int .i64 nh] 36)) (w.heap.size) 27 #[hx, hy, hv, gx, gy, gv, lx, ly, lv, px, py, pv, nx, ny, nv, ax, ay, av, cx, cy, cv, dx, dy, dv, .int .i64 cl, .int .i64 bu] := (by repeat (first | (refine Blk.newAt _ _ _ ?_; first | rfl | (simp; done)) | refine Blk.alloc ?_ _))
    have bHA : Blk ((w.alloc (.cells #[hx, hy, hv, gx, gy, gv, lx, ly, lv, px, py, pv, nx, ny, nv, ax, ay, av, cx, cy, cv, dx, dy, dv, .int .i64 cl, .int .i64 bu] 27)).alloc (.cells #[.int .i64 wl, .int .i64 wh, .int .i64 tl, .int .i64 th, .int .i64 el, .int .i64 eh, .int .i64 nl, .int .i64 nh] 36)) (w.heap.size + 1) 36 #[.int .i64 wl, .int .i64 wh, .int .i64 tl, .int .i64 th, .int .i64 el, .int .i64 eh, .int .i64 nl, .int .i64 nh] := (by repeat (first | (refine Blk.newAt _ _ _ ?_; first | rfl | (simp; done)) | refine Blk.alloc ?_ _))
    have bHB : Below w.heap.size w ((w.alloc (.cells #[hx, hy, hv, gx, gy, gv, lx, ly, lv, px, py, pv, nx, ny, nv, ax, ay, av, cx, cy, cv, dx, dy, dv, .int .i64 cl, .int .i64 bu] 27)).alloc (.cells #[.int .i64 wl, .int .i64 wh, .int .i64 tl, .int .i64 th, .int .i64 el, .int .i64 eh, .int .i64 nl, .int .i64 nh] 36)) := (by repeat' (first | exact Below.refl _ _ | assumption | refine Below.drew ?_ | refine bdn ?_ _ | refine bal ?_ _ | refine Below.setCell ?_ (by first | (simp; done) | omega | (simp; omega)) _))
    generalize ((w.alloc (.cells #[hx, hy, hv, gx, gy, gv, lx, ly, lv, px, py, pv, nx, ny, nv, ax, ay, av, cx, cy, cv, dx, dy, dv, .int .i64 cl, .int .i64 bu] 27)).alloc (.cells #[.int .i64 wl, .int .i64 wh, .int .i64 tl, .int .i64 th, .int .i64 el, .int .i64 eh, .int .i64 nl, .int .i64 nh] 36)) = W at *
    have zW := bHA.lt
    have HM := Lib.hid bHM
    have HA := Lib.hid bHA
    have HB := Lib.hid bHB
    clear bHM bHA bHB
    go_wp2_with (first | (go_at_call 14; (with_reducible refine (HW.out _ (HR.out.below HB.out)).mono ?_); rintro e w1 ⟨rfl, hb1⟩; have nHM := Lib.hid (HM.out.below hb1); have nHA := Lib.hid (HA.out.below hb1); have nHB := Lib.hid (bthen HB.out hb1); have zz1 := hb1.size; clear HM HA HB hb1; have HM := nHM; have HA := nHA; have HB := nHB; clear nHM nHA nHB) | (go_at_call 15; (with_reducible refine (works_c _).mono ?_); rintro e w1 ⟨rfl, hb1⟩; have nHM := Lib.hid (HM.out.below hb1); have nHA := Lib.hid (HA.out.below hb1); have nHB := Lib.hid (bthen HB.out hb1); have zz1 := hb1.size; clear HM HA HB hb1; have HM := nHM; have HA := nHA; have HB := nHB; clear nHM nHA nHB))
    go_ret
    exact ⟨rfl, HB.out⟩
  rw [hf] at HW
  by_cases h80 : 80 < n
  case pos =>
    go_enter Try.func10, Try.ntmps10
    go_wp2_with (first | (refine wpl_row rfl 27 _ rfl _ rfl #[hx, hy, hv, gx, gy, gv, lx, ly, lv, px, py, pv, nx, ny, nv, ax, ay, av, cx, cy, cv, dx, dy, dv, .int .i64 cl, .int .i64 bu] 26 ?_ Try.rowRot rfl ?_; (focus exact (by repeat (first | (refine Blk.newAt _ _ _ ?_; first | rfl | (simp; done)) | refine Blk.alloc ?_ _))); simp only [Act.put]))
    have bHM : Blk ((w.alloc (.cells #[hx, hy, hv, gx, gy, gv, lx, ly, lv, px, py, pv, nx, ny, nv, ax, ay, av, cx, cy, cv, dx, dy, dv, .int .i64 cl, .int .i64 bu] 27)).alloc (.cells #[.int .i64 wl, .int .i64 wh, .int .i64 tl, .int .i64 th, .int .i64 el, .int .i64 eh, .int .i64 nl, .int .i64 nh] 36)) (w.heap.size) 27 #[hx, hy, hv, gx, gy, gv, lx, ly, lv, px, py, pv, nx, ny, nv, ax, ay, av, cx, cy, cv, dx, dy, dv, .int .i64 cl, .int .i64 bu] := (by repeat (first | (refine Blk.newAt _ _ _ ?_; first | rfl | (simp; done)) | refine Blk.alloc ?_ _))
    have bHA : Blk ((w.alloc (.cells #[hx, hy, hv, gx, gy, gv, lx, ly, lv, px, py, pv, nx, ny, nv, ax, ay, av, cx, cy, cv, dx, dy, dv, .int .i64 cl, .int .i64 bu] 27)).alloc (.cells #[.int .i64 wl, .int .i64 wh, .int .i64 tl, .int .i64 th, .int .i64 el, .int .i64 eh, .int .i64 nl, .int .i64 nh] 36)) (w.heap.size + 1) 36 #[.int .i64 wl, .int .i64 wh, .int .i64 tl, .int .i64 th, .int .i64 el, .int .i64 eh, .int .i64 nl, .int .i64 nh] := (by repeat (first | (refine Blk.newAt _ _ _ ?_; first | rfl | (simp; done)) | refine Blk.alloc ?_ _))
    have bHB : Below w.heap.size w ((w.alloc (.cells #[hx, hy, hv, gx, gy, gv, lx, ly, lv, px, py, pv, nx, ny, nv, ax, ay, av, cx, cy, cv, dx, dy, dv, .int .i64 cl, .int .i64 bu] 27)).alloc (.cells #[.int .i64 wl, .int .i64 wh, .int .i64 tl, .int .i64 th, .int .i64 el, .int .i64 eh, .int .i64 nl, .int .i64 nh] 36)) := (by repeat' (first | exact Below.refl _ _ | assumption | refine Below.drew ?_ | refine bdn ?_ _ | refine bal ?_ _ | refine Below.setCell ?_ (by first | (simp; done) | omega | (simp; omega)) _))
    generalize ((w.alloc (.cells #[hx, hy, hv, gx, gy, gv, lx, ly, lv, px, py, pv, nx, ny, nv, ax, ay, av, cx, cy, cv, dx, dy, dv, .int .i64 cl, .int .i64 bu] 27)).alloc (.cells #[.int .i64 wl, .int .i64 wh, .int .i64 tl, .int .i64 th, .int .i64 el, .int .i64 eh, .int .i64 nl, .int .i64 nh] 36)) = W at *
    have zW := bHA.lt
    have HM := Lib.hid bHM
    have HA := Lib.hid bHA
    have HB := Lib.hid bHB
    clear bHM bHA bHB
    go_wp2_with (first | (go_at_call 14; (with_reducible refine (HW.out _ (HR.out.below HB.out)).mono ?_); rintro e w1 ⟨rfl, hb1⟩; have nHM := Lib.hid (HM.out.below hb1); have nHA := Lib.hid (HA.out.below hb1); have nHB := Lib.hid (bthen HB.out hb1); have zz1 := hb1.size; clear HM HA HB hb1; have HM := nHM; have HA := nHA; have HB := nHB; clear nHM nHA nHB) | (go_at_call 15; (with_reducible refine (works_c _).mono ?_); rintro e w1 ⟨rfl, hb1⟩; have nHM := Lib.hid (HM.out.below hb1); have nHA := Lib.hid (HA.out.below hb1); have nHB := Lib.hid (bthen HB.out hb1); have zz1 := hb1.size; clear HM HA HB hb1; have HM := nHM; have HA := nHA; have HB := nHB; clear nHM nHA nHB))
    go_ret
    exact ⟨rfl, HB.out⟩
  have HN := Lib.hid (farS_near hf)
  clear hf
  have HK := Lib.hid (fun w1 hx hy hv gx gy gv lx ly lv px py pv nx ny nv ax ay av cx cy cv dx dy dv hR A c hD => Descent_c hx hy hv gx gy gv lx ly lv px py pv nx ny nv ax ay av cx cy cv dx dy dv cl bu wl wh tl th el eh nl nh S A n c D w1 hR (by omega) hD)
  have HF := Lib.hid (fun w1 hR hD => rf2_Descent_c hx hy hv gx gy gv lx ly lv px py pv nx ny nv ax ay av cx cy cv dx dy dv cl bu wl wh tl th el eh nl nh S A n c D w1 hR (by omega) hD)
  generalize desV S cl bu wl wh tl th el eh nl nh n D = V at *
  obtain ⟨V0, V1, V2, V3⟩ := V
  dsimp only at HK HF
  go_enter Try.func10, Try.ntmps10
  go_wp2_with (first | (refine wpl_row rfl 27 _ rfl _ rfl #[hx, hy, hv, gx, gy, gv, lx, ly, lv, px, py, pv, nx, ny, nv, ax, ay, av, cx, cy, cv, dx, dy, dv, .int .i64 cl, .int .i64 bu] 26 ?_ Try.rowRot rfl ?_; (focus exact (by repeat (first | (refine Blk.newAt _ _ _ ?_; first | rfl | (simp; done)) | refine Blk.alloc ?_ _))); simp only [Act.put]))
  have bHM : Blk ((w.alloc (.cells #[hx, hy, hv, gx, gy, gv, lx, ly, lv, px, py, pv, nx, ny, nv, ax, ay, av, cx, cy, cv, dx, dy, dv, .int .i64 cl, .int .i64 bu] 27)).alloc (.cells #[.int .i64 wl, .int .i64 wh, .int .i64 tl, .int .i64 th, .int .i64 el, .int .i64 eh, .int .i64 nl, .int .i64 nh] 36)) (w.heap.size) 27 #[hx, hy, hv, gx, gy, gv, lx, ly, lv, px, py, pv, nx, ny, nv, ax, ay, av, cx, cy, cv, dx, dy, dv, .int .i64 cl, .int .i64 bu] := (by repeat (first | (refine Blk.newAt _ _ _ ?_; first | rfl | (simp; done)) | refine Blk.alloc ?_ _))
  have bHA : Blk ((w.alloc (.cells #[hx, hy, hv, gx, gy, gv, lx, ly, lv, px, py, pv, nx, ny, nv, ax, ay, av, cx, cy, cv, dx, dy, dv, .int .i64 cl, .int .i64 bu] 27)).alloc (.cells #[.int .i64 wl, .int .i64 wh, .int .i64 tl, .int .i64 th, .int .i64 el, .int .i64 eh, .int .i64 nl, .int .i64 nh] 36)) (w.heap.size + 1) 36 #[.int .i64 wl, .int .i64 wh, .int .i64 tl, .int .i64 th, .int .i64 el, .int .i64 eh, .int .i64 nl, .int .i64 nh] := (by repeat (first | (refine Blk.newAt _ _ _ ?_; first | rfl | (simp; done)) | refine Blk.alloc ?_ _))
  have bHB : Below w.heap.size w ((w.alloc (.cells #[hx, hy, hv, gx, gy, gv, lx, ly, lv, px, py, pv, nx, ny, nv, ax, ay, av, cx, cy, cv, dx, dy, dv, .int .i64 cl, .int .i64 bu] 27)).alloc (.cells #[.int .i64 wl, .int .i64 wh, .int .i64 tl, .int .i64 th, .int .i64 el, .int .i64 eh, .int .i64 nl, .int .i64 nh] 36)) := (by repeat' (first | exact Below.refl _ _ | assumption | refine Below.drew ?_ | refine bdn ?_ _ | refine bal ?_ _ | refine Below.setCell ?_ (by first | (simp; done) | omega | (simp; omega)) _))
  generalize ((w.alloc (.cells #[hx, hy, hv, gx, gy, gv, lx, ly, lv, px, py, pv, nx, ny, nv, ax, ay, av, cx, cy, cv, dx, dy, dv, .int .i64 cl, .int .i64 bu] 27)).alloc (.cells #[.int .i64 wl, .int .i64 wh, .int .i64 tl, .int .i64 th, .int .i64 el, .int .i64 eh, .int .i64 nl, .int .i64 nh] 36)) = W at *
  have zW := bHA.lt
  have HM := Lib.hid bHM
  have HA := Lib.hid bHA
  have HB := Lib.hid bHB
  clear bHM bHA bHB
  go_wp2_with (first | (go_at_call 14; (with_reducible refine (HW.out _ (HR.out.below HB.out)).mono ?_); rintro e w1 ⟨rfl, hb1⟩; have nHM := Lib.hid (HM.out.below hb1); have nHA := Lib.hid (HA.out.below hb1); have nHB := Lib.hid (bthen HB.out hb1); have zz1 := hb1.size; clear HM HA HB hb1; have HM := nHM; have HA := nHA; have HB := nHB; clear nHM nHA nHB))
  have zB := HB.out.size
  obtain ⟨i0, hi0, hz0, hz1, hz2⟩ := info_parts Try.infoDrop
  refine wp_region_specL 12 [9, 10] (desR w1.heap.size cl bu S (.agg #[hx, hy, hv, gx, gy, gv, lx, ly, lv, px, py, pv, nx, ny, nv, ax, ay, av, cx, cy, cv, dx, dy, dv, .int .i64 cl, .int .i64 bu]) (.agg #[.int .i64 wl, .int .i64 wh, .int .i64 tl, .int .i64 th, .int .i64 el, .int .i64 eh, .int .i64 nl, .int .i64 nh]) (.slice A n c) n D V0 V1 V2 V3) (fun i => decide (i = 11)) (by kernel_rfl) (by kernel_rfl) (by decide) desR_below ?hop1 ?htail1
  case hop1 =>
    simp only [List.take_succ_cons, List.take_zero, allOps]
    refine ⟨?_, ?_, ?_, ?_, ?_, ?_, ?_, ?_, ?_, ?_, ?_, ?_, trivial⟩
    all_goals intro u A w1 hA hb hd
    all_goals simp only [putAll, dstOf, List.getElem?_toArray, List.getElem?_cons_succ, List.getElem?_cons_zero, Option.bind_some, Option.bind, Act.put, List.setIfInBounds_toArray, List.set_cons_succ, List.set_cons_zero] at hA; subst hA
    all_goals have HB1 := Lib.hid hb
    · refine OpOk.now rfl ?_
      clear hb hd
      go_wp2_with (refine wpl_row rfl 27 _ rfl _ rfl _ 26 (HM.out.below HB1.out) Try.rowRot rfl ?_; simp only [Act.put])
      exact ⟨_, rfl, Below.refl _ _, rfl, fun h => absurd h (by decide)⟩
    · refine OpOk.now rfl ?_
      have d0 : u 0 = _ := hd 0 (by omega) (by kernel_rfl)
      clear hb hd
      rw [d0]
      clear d0
      go_wp2_with (go_at_call 17; (with_reducible refine (own_c hx hy hv gx gy gv lx ly lv px py pv nx ny nv ax ay av cx cy cv dx dy dv cl bu S _ ((HR.out.below HB.out).below HB1.out) HN.out).mono ?_); rintro e w2 ⟨v, rfl, ho, hb2⟩)
      exact ⟨_, rfl, hb2, ho, fun h => absurd h (by decide)⟩
    · refine OpOk.now rfl ?_
      clear hb hd
      go_wp2_with (refine wpl_row rfl 36 _ rfl _ rfl _ 8 (HA.out.below HB1.out) Try.rowAir rfl ?_; simp only [Act.put])
      exact ⟨_, rfl, Below.refl _ _, rfl, fun h => absurd h (by decide)⟩
    · refine OpOk.now rfl ?_
      clear hb hd
      go_wp2
      exact ⟨_, rfl, bal (Below.refl _ _) _, ⟨_, rfl, Blk.new _ _ _⟩, fun h => absurd h (by decide)⟩
    · refine OpOk.now rfl ?_
      clear hb hd
      go_wp2
      exact ⟨_, rfl, Below.refl _ _, rfl, fun h => absurd h (by decide)⟩
    · refine OpOk.now rfl ?_
      have d1 := hd 1 (by omega) (by kernel_rfl)
      have d3 := hd 3 (by omega) (by kernel_rfl)
      have d4 : u 4 = _ := hd 4 (by omega) (by kernel_rfl)
      clear hb hd
      rw [d4]
      clear d4
      obtain ⟨g, dg, d1⟩ := d3
      have hcx := Lib.hid (RecsAt.cells (DropsAt.recs ((HD.out.below HB.out).below HB1.out)))
      rw [dg]
      clear dg
      refine wpl_append_newk rfl (.tmp 25) (.tmp 26) 68 rfl 74 i0 _ 5 40 Try.undDrops hi0 hz0 hz1 hz2 rfl (by omega) g rfl d1 0 (Nat.zero_le _) A n c rfl _ hcx.out (fun _ _ => rfl) (by unfold maxLen; omega) (by omega) (fun v' w' ho hbl => ?_)
      exact ⟨v', rfl, hbl, (by obtain ⟨A', c', e, h1, h2, h3⟩ := RecsAt.of_owns (V := fun i j => .int .i64 (D i j)) (k := 5) (by omega) ho; exact ⟨A', c', e, h1, h2, h3⟩), fun h => absurd h (by decide)⟩
    · refine OpOk.now rfl ?_
      have d1 := hd 1 (by omega) (by kernel_rfl)
      have d2 : u 2 = _ := hd 2 (by omega) (by kernel_rfl)
      have d5 := hd 5 (by omega) (by kernel_rfl)
      clear hb hd
      rw [d2]
      clear d2
      obtain ⟨hx', hy', hv', gx', gy', gv', lx', ly', lv', px', py', pv', nx', ny', nv', ax', ay', av', cx', cy', cv', dx', dy', dv', e1, r1⟩ := d1
      rw [e1]
      clear e1
      obtain ⟨A', c', e5, -, -, r5⟩ := d5
      rw [e5]
      clear e5
      go_wp2_with (go_at_call 39; (with_reducible refine (HK.out _ _ _ _ _ _ _ _ _ _ _ _ _ _ _ _ _ _ _ _ _ _ _ _ _ r1 _ _ r5).mono ?_); rintro e w2 ⟨rfl, hb2⟩)
      exact ⟨_, rfl, hb2, rfl, fun h => absurd h (by decide)⟩
    · refine OpOk.now rfl ?_
      have d6 : u 6 = _ := hd 6 (by omega) (by kernel_rfl)
      clear hb hd
      rw [d6]
      clear d6
      go_wp2
      exact ⟨_, rfl, Below.refl _ _, rfl, fun h => absurd h (by decide)⟩
    · refine OpOk.now rfl ?_
      have d7 : u 7 = _ := hd 7 (by omega) (by kernel_rfl)
      clear hb hd
      rw [d7]
      clear d7
      go_wp2
      exact ⟨_, rfl, Below.refl _ _, rfl, fun h => absurd h (by decide)⟩
    · have d7 : u 7 = _ := hd 7 (by omega) (by kernel_rfl)
      clear hb hd
      rw [d7]
      clear d7
      refine OpOk.late rfl ?_
      exact ⟨_, yields_extract rfl _ _ rfl _ rfl _ rfl, rfl⟩
    · have d7 : u 7 = _ := hd 7 (by omega) (by kernel_rfl)
      clear hb hd
      rw [d7]
      clear d7
      refine OpOk.late rfl ?_
      exact ⟨_, yields_extract rfl _ _ rfl _ rfl _ rfl, rfl⟩
    · refine OpOk.now rfl ?_
      have zz := hb.size
      clear hb hd
      go_wp2
      exact ⟨_, rfl, bal (Below.refl _ _) _, ⟨_, rfl, by omega, Blk.new _ _ _⟩, fun _ => ⟨_, rfl, Nat.le_refl _, by simp⟩⟩
  case htail1 =>
    intro u A w1 hA hb hd hf
    simp only [putAll, dstOf, List.getElem?_toArray, List.getElem?_cons_succ, List.getElem?_cons_zero, Option.bind_some, Option.bind, Act.put, List.setIfInBounds_toArray, List.set_cons_succ, List.set_cons_zero] at hA; subst hA
    have e0 : u 0 = _ := hd 0 (by omega)
    have p1 := hd 1 (by omega)
    have e2 : u 2 = _ := hd 2 (by omega)
    have p3 := hd 3 (by omega)
    have e4 : u 4 = _ := hd 4 (by omega)
    have p5 := hd 5 (by omega)
    have e6 : u 6 = _ := hd 6 (by omega)
    have e7 : u 7 = _ := hd 7 (by omega)
    have e8 : u 8 = _ := hd 8 (by omega)
    have e9 : u 9 = _ := hd 9 (by omega)
    have e10 : u 10 = _ := hd 10 (by omega)
    obtain ⟨g11, e11, z11, b11⟩ := hd 11 (by omega)
    first | rw [e0, e2, e4, e6, e7, e8, e9, e10, e11] | simp only [e0, e2, e4, e6, e7, e8, e9, e10, e11]
    clear e0 e2 e4 e6 e7 e8 e9 e10 e11
    clear hd hf
    have x0 := b11.cell 0
    have x1 := b11.cell 1
    have x2 := fun i => b11.frozen i
    go_wp2_with fail
    dsimp only [NoPanic]
    have HL := Lib.hid (show Blk _ g11 _ #[.int .i64 V0, .int .i64 V1] from (b11.set_ 0 (.int .i64 V0)).set_ 1 (.int .i64 V1))
    have hbS := bset (bset hb z11 (i := 0) (.int .i64 V0)) z11 (i := 1) (.int .i64 V1)
    have nHM := Lib.hid (HM.out.below hbS)
    have nHA := Lib.hid (HA.out.below hbS)
    have nHB := Lib.hid (bthen HB.out hbS)
    clear HM HA HB hbS
    have HM := nHM
    have HA := nHA
    have HB := nHB
    clear nHM nHA nHB
    clear hb b11
    generalize (w1.setCell ⟨g11, 0, none⟩ (.int .i64 V0)).setCell ⟨g11, 1, none⟩ (.int .i64 V1) = w2 at *
    clear x0 x1 x2
    go_wp2_with (first | (refine wpl_row rfl 27 _ rfl _ rfl #[hx, hy, hv, gx, gy, gv, lx, ly, lv, px, py, pv, nx, ny, nv, ax, ay, av, cx, cy, cv, dx, dy, dv, .int .i64 cl, .int .i64 bu] 26 HM.out Try.rowRot rfl ?_; simp only [Act.put]) | (refine wpl_row rfl 36 _ rfl _ rfl #[.int .i64 wl, .int .i64 wh, .int .i64 tl, .int .i64 th, .int .i64 el, .int .i64 eh, .int .i64 nl, .int .i64 nh] 8 HA.out Try.rowAir rfl ?_; simp only [Act.put]) | (go_at_call 40; (with_reducible refine (HF.out _ (HR.out.below HB.out) (HD.out.below HB.out)).mono ?_); rintro e w1 ⟨rfl, hb1⟩; have nHM := Lib.hid (HM.out.below hb1); have nHA := Lib.hid (HA.out.below hb1); have nHL := Lib.hid (HL.out.below hb1); have nHB := Lib.hid (bthen HB.out hb1); have zz1 := hb1.size; clear HM HA HL HB hb1; have HM := nHM; have HA := nHA; have HL := nHL; have HB := nHB; clear nHM nHA nHL nHB; (try clear zHL); have zHL := HL.out.lt; (try clear cHL0); have cHL0 := HL.out.cell 0; (try clear cHL1); have cHL1 := HL.out.cell 1; (try clear s1); have s1 := (show g11 < w1.heap.size by omega)))
    have bHL2 := Blk.new w1 34 #[.int .i64 V0, .int .i64 V1]
    have nHM := Lib.hid (HM.out.alloc (.cells #[.int .i64 V0, .int .i64 V1] 34))
    have nHA := Lib.hid (HA.out.alloc (.cells #[.int .i64 V0, .int .i64 V1] 34))
    have nHL := Lib.hid (HL.out.alloc (.cells #[.int .i64 V0, .int .i64 V1] 34))
    have nHB := Lib.hid (bal HB.out (.cells #[.int .i64 V0, .int .i64 V1] 34))
    clear HM HA HL HB
    have HM := nHM
    have HA := nHA
    have HL := nHL
    have HB := nHB
    clear nHM nHA nHL nHB
    generalize w1.alloc (.cells #[.int .i64 V0, .int .i64 V1] 34) = W2 at *
    generalize w1.heap.size = gHL2 at *
    have HL2 := Lib.hid bHL2
    clear bHL2
    have c0 := HL.out.cell 0
    have c1 := HL.out.cell 1
    have c2 := HL2.out.cell 0
    have c3 := HL2.out.cell 1
    go_wp2_with (first | (go_at_call 15; (with_reducible refine (works_c _).mono ?_); rintro e w1 ⟨rfl, hb1⟩; have nHM := Lib.hid (HM.out.below hb1); have nHA := Lib.hid (HA.out.below hb1); have nHB := Lib.hid (bthen HB.out hb1); have zz1 := hb1.size; clear HM HA HB hb1; have HM := nHM; have HA := nHA; have HB := nHB; clear nHM nHA nHB))
    go_ret
    exact ⟨rfl, HB.out⟩
end Go.Proofs.Ytoembbcddhlokaa
