/- Texts joined: KU. -/
import Derived.Test.YtfcjblnebaemgaaGreatRwC
import Derived.Test.YtfcjblnebaemgaaGreatWfC
import Derived.Test.YtfcjblnebaemgaaGreatRwI
set_option linter.all false
namespace Go.Proofs.YtfcjblnebaemgaaGreat
open Go Go.RowKit Go.Proofs
set_option maxRecDepth 100000
set_option maxHeartbeats 8000000

theorem Tryz.entH : ∀ args w, (callFunc 62 args).run Tryz.prog w = .ok (.enter 62 args) w := enters_of Tryz.func62 (by kernel_rfl) rfl
theorem Tryz.entL : ∀ args w, (callFunc 63 args).run Tryz.prog w = .ok (.enter 63 args) w := enters_of Tryz.func63 (by kernel_rfl) rfl
theorem Tryz.entR : ∀ args w, (callFunc 31 args).run Tryz.prog w = .ok (.enter 31 args) w := enters_of Tryz.func31 (by kernel_rfl) rfl
theorem has1_c (n lo hi : Int) (w : World) : Calls Tryz.prog 62 #[.int .i64 n, .agg #[.int .i64 lo, .int .i64 hi]] w fun e w' => e = .returned (.bool (inB n lo hi)) ∧ Below w.heap.size w w' := by
  go_enter Tryz.func62, Tryz.ntmps62
  go_wp2_with (first | (go_at_call 41; (with_reducible refine (wwithin_c _ _ _ _).mono ?_); rintro e w1 ⟨rfl, rfl⟩))
  go_ret
  exact ⟨rfl, (by repeat' (first | exact Below.refl _ _ | assumption | refine Below.drew ?_ | refine bdn ?_ _ | refine bal ?_ _ | refine Below.setCell ?_ (by first | (simp; done) | omega | (simp; omega)) _))⟩
def nrB (a b d : Int) : Bool := decide (max (a - b) (b - a) ≤ d)
theorem follows1_c (a b d : Int) (w : World) (h0 : 0 ≤ a) (h1 : a ≤ 20000) (h2 : 0 ≤ b) (h3 : b ≤ 20000) : Calls Tryz.prog 63 #[.int .i64 a, .int .i64 b, .int .i64 d] w fun e w' => e = .returned (.bool (nrB a b d)) ∧ Below w.heap.size w w' := by
  unfold nrB
  go_enter Tryz.func63, Tryz.ntmps63
  go_wp2
  go_ret
  exact ⟨rfl, Below.refl _ _⟩
def hasB (x : Sk) (p q r : Int) (i s : Bool) : Bool := inB p x.a0 x.a1 && (inB q x.a2 x.a3 && (inB r x.a4 x.a5 && ((!i || x.i) && (!s || x.s))))
theorem has_c (x : Sk) (p q r : Int) (wi ws : Bool) (w : World) :
   Calls Tryz.prog 34 #[.agg x.cells, .agg #[.int .i64 p, .int .i64 q, .int .i64 r, .bool wi, .bool ws]] w fun e w' => e = .returned (.bool (hasB x p q r wi ws)) ∧ Below w.heap.size w w' := by
  have eH := Tryz.entH
  obtain ⟨a0, a1, a2, a3, a4, a5, xi, xs⟩ := x
  unfold hasB Sk.cells
  dsimp only
  have h1 := fun w1 => has1_c p a0 a1 w1
  have h2 := fun w1 => has1_c q a2 a3 w1
  have h3 := fun w1 => has1_c r a4 a5 w1
  generalize inB p a0 a1 = B1 at *
  generalize inB q a2 a3 = B2 at *
  generalize inB r a4 a5 = B3 at *
  have H1 := Lib.hid h1
  have H2 := Lib.hid h2
  have H3 := Lib.hid h3
  clear h1 h2 h3
  cases B1
  · skip
    go_enter Tryz.func34, Tryz.ntmps34
    go_wp2_with (fail)
    have bHX : Blk ((w.alloc (.cells #[.int .i64 a0, .int .i64 a1, .int .i64 a2, .int .i64 a3, .int .i64 a4, .int .i64 a5, .bool xi, .bool xs] 55)).alloc (.cells #[.int .i64 p, .int .i64 q, .int .i64 r, .bool wi, .bool ws] 60)) (w.heap.size) 55 #[.int .i64 a0, .int .i64 a1, .int .i64 a2, .int .i64 a3, .int .i64 a4, .int .i64 a5, .bool xi, .bool xs] := (by repeat (first | (refine Blk.newAt _ _ _ ?_; first | rfl | (simp; done)) | refine Blk.alloc ?_ _))
    have bHW : Blk ((w.alloc (.cells #[.int .i64 a0, .int .i64 a1, .int .i64 a2, .int .i64 a3, .int .i64 a4, .int .i64 a5, .bool xi, .bool xs] 55)).alloc (.cells #[.int .i64 p, .int .i64 q, .int .i64 r, .bool wi, .bool ws] 60)) (w.heap.size + 1) 60 #[.int .i64 p, .int .i64 q, .int .i64 r, .bool wi, .bool ws] := (by repeat (first | (refine Blk.newAt _ _ _ ?_; first | rfl | (simp; done)) | refine Blk.alloc ?_ _))
    have bHB : Below w.heap.size w ((w.alloc (.cells #[.int .i64 a0, .int .i64 a1, .int .i64 a2, .int .i64 a3, .int .i64 a4, .int .i64 a5, .bool xi, .bool xs] 55)).alloc (.cells #[.int .i64 p, .int .i64 q, .int .i64 r, .bool wi, .bool ws] 60)) := (by repeat' (first | exact Below.refl _ _ | assumption | refine Below.drew ?_ | refine bdn ?_ _ | refine bal ?_ _ | refine Below.setCell ?_ (by first | (simp; done) | omega | (simp; omega)) _))
    generalize ((w.alloc (.cells #[.int .i64 a0, .int .i64 a1, .int .i64 a2, .int .i64 a3, .int .i64 a4, .int .i64 a5, .bool xi, .bool xs] 55)).alloc (.cells #[.int .i64 p, .int .i64 q, .int .i64 r, .bool wi, .bool ws] 60)) = W at *
    have zW := bHW.lt
    have HX := Lib.hid bHX
    have HW := Lib.hid bHW
    have HB := Lib.hid bHB
    clear bHX bHW bHB
    have zHX := HX.out.lt
    have cHX0 := HX.out.cell 0
    have cHX1 := HX.out.cell 1
    have zHW := HW.out.lt
    have cHW0 := HW.out.cell 0
    go_wp2_with (first | (go_at_fn 62; (with_reducible refine (H1.out _).mono ?_); rintro e w1 ⟨rfl, hb1⟩; have nHX := Lib.hid (HX.out.below hb1); have nHW := Lib.hid (HW.out.below hb1); have nHB := Lib.hid (bthen HB.out hb1); clear HX HW HB hb1; have HX := nHX; have HW := nHW; have HB := nHB; clear nHX nHW nHB; have c2 := HX.out.cell 2; have c3 := HX.out.cell 3; have d1 := HW.out.cell 1; simp only [List.getElem?_toArray, List.getElem?_cons_succ, List.getElem?_cons_zero] at c2 c3 d1) | (go_at_fn 62; (with_reducible refine (H2.out _).mono ?_); rintro e w1 ⟨rfl, hb1⟩; have nHX := Lib.hid (HX.out.below hb1); have nHW := Lib.hid (HW.out.below hb1); have nHB := Lib.hid (bthen HB.out hb1); clear HX HW HB hb1; have HX := nHX; have HW := nHW; have HB := nHB; clear nHX nHW nHB; have c2 := HX.out.cell 4; have c3 := HX.out.cell 5; have d1 := HW.out.cell 2; simp only [List.getElem?_toArray, List.getElem?_cons_succ, List.getElem?_cons_zero] at c2 c3 d1) | (go_at_fn 62; (with_reducible refine (H3.out _).mono ?_); rintro e w1 ⟨rfl, hb1⟩; have nHX := Lib.hid (HX.out.below hb1); have nHW := Lib.hid (HW.out.below hb1); have nHB := Lib.hid (bthen HB.out hb1); clear HX HW HB hb1; have HX := nHX; have HW := nHW; have HB := nHB; clear nHX nHW nHB; have c2 := HX.out.cell 6; have c3 := HX.out.cell 7; have d1 := HW.out.cell 3; have d2 := HW.out.cell 4; simp only [List.getElem?_toArray, List.getElem?_cons_succ, List.getElem?_cons_zero] at c2 c3 d1 d2))
    go_ret
    exact ⟨rfl, HB.out⟩
  cases B2
  · skip
    go_enter Tryz.func34, Tryz.ntmps34
    go_wp2_with (fail)
    have bHX : Blk ((w.alloc (.cells #[.int .i64 a0, .int .i64 a1, .int .i64 a2, .int .i64 a3, .int .i64 a4, .int .i64 a5, .bool xi, .bool xs] 55)).alloc (.cells #[.int .i64 p, .int .i64 q, .int .i64 r, .bool wi, .bool ws] 60)) (w.heap.size) 55 #[.int .i64 a0, .int .i64 a1, .int .i64 a2, .int .i64 a3, .int .i64 a4, .int .i64 a5, .bool xi, .bool xs] := (by repeat (first | (refine Blk.newAt _ _ _ ?_; first | rfl | (simp; done)) | refine Blk.alloc ?_ _))
    have bHW : Blk ((w.alloc (.cells #[.int .i64 a0, .int .i64 a1, .int .i64 a2, .int .i64 a3, .int .i64 a4, .int .i64 a5, .bool xi, .bool xs] 55)).alloc (.cells #[.int .i64 p, .int .i64 q, .int .i64 r, .bool wi, .bool ws] 60)) (w.heap.size + 1) 60 #[.int .i64 p, .int .i64 q, .int .i64 r, .bool wi, .bool ws] := (by repeat (first | (refine Blk.newAt _ _ _ ?_; first | rfl | (simp; done)) | refine Blk.alloc ?_ _))
    have bHB : Below w.heap.size w ((w.alloc (.cells #[.int .i64 a0, .int .i64 a1, .int .i64 a2, .int .i64 a3, .int .i64 a4, .int .i64 a5, .bool xi, .bool xs] 55)).alloc (.cells #[.int .i64 p, .int .i64 q, .int .i64 r, .bool wi, .bool ws] 60)) := (by repeat' (first | exact Below.refl _ _ | assumption | refine Below.drew ?_ | refine bdn ?_ _ | refine bal ?_ _ | refine Below.setCell ?_ (by first | (simp; done) | omega | (simp; omega)) _))
    generalize ((w.alloc (.cells #[.int .i64 a0, .int .i64 a1, .int .i64 a2, .int .i64 a3, .int .i64 a4, .int .i64 a5, .bool xi, .bool xs] 55)).alloc (.cells #[.int .i64 p, .int .i64 q, .int .i64 r, .bool wi, .bool ws] 60)) = W at *
    have zW := bHW.lt
    have HX := Lib.hid bHX
    have HW := Lib.hid bHW
    have HB := Lib.hid bHB
    clear bHX bHW bHB
    have zHX := HX.out.lt
    have cHX0 := HX.out.cell 0
    have cHX1 := HX.out.cell 1
    have zHW := HW.out.lt
    have cHW0 := HW.out.cell 0
    go_wp2_with (first | (go_at_fn 62; (with_reducible refine (H1.out _).mono ?_); rintro e w1 ⟨rfl, hb1⟩; have nHX := Lib.hid (HX.out.below hb1); have nHW := Lib.hid (HW.out.below hb1); have nHB := Lib.hid (bthen HB.out hb1); clear HX HW HB hb1; have HX := nHX; have HW := nHW; have HB := nHB; clear nHX nHW nHB; have c2 := HX.out.cell 2; have c3 := HX.out.cell 3; have d1 := HW.out.cell 1; simp only [List.getElem?_toArray, List.getElem?_cons_succ, List.getElem?_cons_zero] at c2 c3 d1) | (go_at_fn 62; (with_reducible refine (H2.out _).mono ?_); rintro e w1 ⟨rfl, hb1⟩; have nHX := Lib.hid (HX.out.below hb1); have nHW := Lib.hid (HW.out.below hb1); have nHB := Lib.hid (bthen HB.out hb1); clear HX HW HB hb1; have HX := nHX; have HW := nHW; have HB := nHB; clear nHX nHW nHB; have c2 := HX.out.cell 4; have c3 := HX.out.cell 5; have d1 := HW.out.cell 2; simp only [List.getElem?_toArray, List.getElem?_cons_succ, List.getElem?_cons_zero] at c2 c3 d1) | (go_at_fn 62; (with_reducible refine (H3.out _).mono ?_); rintro e w1 ⟨rfl, hb1⟩; have nHX := Lib.hid (HX.out.below hb1); have nHW := Lib.hid (HW.out.below hb1); have nHB := Lib.hid (bthen HB.out hb1); clear HX HW HB hb1; have HX := nHX; have HW := nHW; have HB := nHB; clear nHX nHW nHB; have c2 := HX.out.cell 6; have c3 := HX.out.cell 7; have d1 := HW.out.cell 3; have d2 := HW.out.cell 4; simp only [List.getElem?_toArray, List.getElem?_cons_succ, List.getElem?_cons_zero] at c2 c3 d1 d2))
    go_ret
    exact ⟨rfl, HB.out⟩
  cases B3
  · skip
    go_enter Tryz.func34, Tryz.ntmps34
    go_wp2_with (fail)
    have bHX : Blk ((w.alloc (.cells #[.int .i64 a0, .int .i64 a1, .int .i64 a2, .int .i64 a3, .int .i64 a4, .int .i64 a5, .bool xi, .bool xs] 55)).alloc (.cells #[.int .i64 p, .int .i64 q, .int .i64 r, .bool wi, .bool ws] 60)) (w.heap.size) 55 #[.int .i64 a0, .int .i64 a1, .int .i64 a2, .int .i64 a3, .int .i64 a4, .int .i64 a5, .bool xi, .bool xs] := (by repeat (first | (refine Blk.newAt _ _ _ ?_; first | rfl | (simp; done)) | refine Blk.alloc ?_ _))
    have bHW : Blk ((w.alloc (.cells #[.int .i64 a0, .int .i64 a1, .int .i64 a2, .int .i64 a3, .int .i64 a4, .int .i64 a5, .bool xi, .bool xs] 55)).alloc (.cells #[.int .i64 p, .int .i64 q, .int .i64 r, .bool wi, .bool ws] 60)) (w.heap.size + 1) 60 #[.int .i64 p, .int .i64 q, .int .i64 r, .bool wi, .bool ws] := (by repeat (first | (refine Blk.newAt _ _ _ ?_; first | rfl | (simp; done)) | refine Blk.alloc ?_ _))
    have bHB : Below w.heap.size w ((w.alloc (.cells #[.int .i64 a0, .int .i64 a1, .int .i64 a2, .int .i64 a3, .int .i64 a4, .int .i64 a5, .bool xi, .bool xs] 55)).alloc (.cells #[.int .i64 p, .int .i64 q, .int .i64 r, .bool wi, .bool ws] 60)) := (by repeat' (first | exact Below.refl _ _ | assumption | refine Below.drew ?_ | refine bdn ?_ _ | refine bal ?_ _ | refine Below.setCell ?_ (by first | (simp; done) | omega | (simp; omega)) _))
    generalize ((w.alloc (.cells #[.int .i64 a0, .int .i64 a1, .int .i64 a2, .int .i64 a3, .int .i64 a4, .int .i64 a5, .bool xi, .bool xs] 55)).alloc (.cells #[.int .i64 p, .int .i64 q, .int .i64 r, .bool wi, .bool ws] 60)) = W at *
    have zW := bHW.lt
    have HX := Lib.hid bHX
    have HW := Lib.hid bHW
    have HB := Lib.hid bHB
    clear bHX bHW bHB
    have zHX := HX.out.lt
    have cHX0 := HX.out.cell 0
    have cHX1 := HX.out.cell 1
    have zHW := HW.out.lt
    have cHW0 := HW.out.cell 0
    go_wp2_with (first | (go_at_fn 62; (with_reducible refine (H1.out _).mono ?_); rintro e w1 ⟨rfl, hb1⟩; have nHX := Lib.hid (HX.out.below hb1); have nHW := Lib.hid (HW.out.below hb1); have nHB := Lib.hid (bthen HB.out hb1); clear HX HW HB hb1; have HX := nHX; have HW := nHW; have HB := nHB; clear nHX nHW nHB; have c2 := HX.out.cell 2; have c3 := HX.out.cell 3; have d1 := HW.out.cell 1; simp only [List.getElem?_toArray, List.getElem?_cons_succ, List.getElem?_cons_zero] at c2 c3 d1) | (go_at_fn 62; (with_reducible refine (H2.out _).mono ?_); rintro e w1 ⟨rfl, hb1⟩; have nHX := Lib.hid (HX.out.below hb1); have nHW := Lib.hid (HW.out.below hb1); have nHB := Lib.hid (bthen HB.out hb1); clear HX HW HB hb1; have HX := nHX; have HW := nHW; have HB := nHB; clear nHX nHW nHB; have c2 := HX.out.cell 4; have c3 := HX.out.cell 5; have d1 := HW.out.cell 2; simp only [List.getElem?_toArray, List.getElem?_cons_succ, List.getElem?_cons_zero] at c2 c3 d1) | (go_at_fn 62; (with_reducible refine (H3.out _).mono ?_); rintro e w1 ⟨rfl, hb1⟩; have nHX := Lib.hid (HX.out.below hb1); have nHW := Lib.hid (HW.out.below hb1); have nHB := Lib.hid (bthen HB.out hb1); clear HX HW HB hb1; have HX := nHX; have HW := nHW; have HB := nHB; clear nHX nHW nHB; have c2 := HX.out.cell 6; have c3 := HX.out.cell 7; have d1 := HW.out.cell 3; have d2 := HW.out.cell 4; simp only [List.getElem?_toArray, List.getElem?_cons_succ, List.getElem?_cons_zero] at c2 c3 d1 d2))
    go_ret
    exact ⟨rfl, HB.out⟩
  cases xi <;> cases xs <;> cases wi <;> cases ws
  · skip
    go_enter Tryz.func34, Tryz.ntmps34
    go_wp2_with (fail)
    have bHX : Blk ((w.alloc (.cells #[.int .i64 a0, .int .i64 a1, .int .i64 a2, .int .i64 a3, .int .i64 a4, .int .i64 a5, .bool false, .bool false] 55)).alloc (.cells #[.int .i64 p, .int .i64 q, .int .i64 r, .bool false, .bool false] 60)) (w.heap.size) 55 #[.int .i64 a0, .int .i64 a1, .int .i64 a2, .int .i64 a3, .int .i64 a4, .int .i64 a5, .bool false, .bool false] := (by repeat (first | (refine Blk.newAt _ _ _ ?_; first | rfl | (simp; done)) | refine Blk.alloc ?_ _))
    have bHW : Blk ((w.alloc (.cells #[.int .i64 a0, .int .i64 a1, .int .i64 a2, .int .i64 a3, .int .i64 a4, .int .i64 a5, .bool false, .bool false] 55)).alloc (.cells #[.int .i64 p, .int .i64 q, .int .i64 r, .bool false, .bool false] 60)) (w.heap.size + 1) 60 #[.int .i64 p, .int .i64 q, .int .i64 r, .bool false, .bool false] := (by repeat (first | (refine Blk.newAt _ _ _ ?_; first | rfl | (simp; done)) | refine Blk.alloc ?_ _))
    have bHB : Below w.heap.size w ((w.alloc (.cells #[.int .i64 a0, .int .i64 a1, .int .i64 a2, .int .i64 a3, .int .i64 a4, .int .i64 a5, .bool false, .bool false] 55)).alloc (.cells #[.int .i64 p, .int .i64 q, .int .i64 r, .bool false, .bool false] 60)) := (by repeat' (first | exact Below.refl _ _ | assumption | refine Below.drew ?_ | refine bdn ?_ _ | refine bal ?_ _ | refine Below.setCell ?_ (by first | (simp; done) | omega | (simp; omega)) _))
    generalize ((w.alloc (.cells #[.int .i64 a0, .int .i64 a1, .int .i64 a2, .int .i64 a3, .int .i64 a4, .int .i64 a5, .bool false, .bool false] 55)).alloc (.cells #[.int .i64 p, .int .i64 q, .int .i64 r, .bool false, .bool false] 60)) = W at *
    have zW := bHW.lt
    have HX := Lib.hid bHX
    have HW := Lib.hid bHW
    have HB := Lib.hid bHB
    clear bHX bHW bHB
    have zHX := HX.out.lt
    have cHX0 := HX.out.cell 0
    have cHX1 := HX.out.cell 1
    have zHW := HW.out.lt
    have cHW0 := HW.out.cell 0
    go_wp2_with (first | (go_at_fn 62; (with_reducible refine (H1.out _).mono ?_); rintro e w1 ⟨rfl, hb1⟩; have nHX := Lib.hid (HX.out.below hb1); have nHW := Lib.hid (HW.out.below hb1); have nHB := Lib.hid (bthen HB.out hb1); clear HX HW HB hb1; have HX := nHX; have HW := nHW; have HB := nHB; clear nHX nHW nHB; have c2 := HX.out.cell 2; have c3 := HX.out.cell 3; have d1 := HW.out.cell 1; simp only [List.getElem?_toArray, List.getElem?_cons_succ, List.getElem?_cons_zero] at c2 c3 d1) | (go_at_fn 62; (with_reducible refine (H2.out _).mono ?_); rintro e w1 ⟨rfl, hb1⟩; have nHX := Lib.hid (HX.out.below hb1); have nHW := Lib.hid (HW.out.below hb1); have nHB := Lib.hid (bthen HB.out hb1); clear HX HW HB hb1; have HX := nHX; have HW := nHW; have HB := nHB; clear nHX nHW nHB; have c2 := HX.out.cell 4; have c3 := HX.out.cell 5; have d1 := HW.out.cell 2; simp only [List.getElem?_toArray, List.getElem?_cons_succ, List.getElem?_cons_zero] at c2 c3 d1) | (go_at_fn 62; (with_reducible refine (H3.out _).mono ?_); rintro e w1 ⟨rfl, hb1⟩; have nHX := Lib.hid (HX.out.below hb1); have nHW := Lib.hid (HW.out.below hb1); have nHB := Lib.hid (bthen HB.out hb1); clear HX HW HB hb1; have HX := nHX; have HW := nHW; have HB := nHB; clear nHX nHW nHB; have c2 := HX.out.cell 6; have c3 := HX.out.cell 7; have d1 := HW.out.cell 3; have d2 := HW.out.cell 4; simp only [List.getElem?_toArray, List.getElem?_cons_succ, List.getElem?_cons_zero] at c2 c3 d1 d2))
    go_ret
    exact ⟨rfl, HB.out⟩
  · skip
    go_enter Tryz.func34, Tryz.ntmps34
    go_wp2_with (fail)
    have bHX : Blk ((w.alloc (.cells #[.int .i64 a0, .int .i64 a1, .int .i64 a2, .int .i64 a3, .int .i64 a4, .int .i64 a5, .bool false, .bool false] 55)).alloc (.cells #[.int .i64 p, .int .i64 q, .int .i64 r, .bool false, .bool true] 60)) (w.heap.size) 55 #[.int .i64 a0, .int .i64 a1, .int .i64 a2, .int .i64 a3, .int .i64 a4, .int .i64 a5, .bool false, .bool false] := (by repeat (first | (refine Blk.newAt _ _ _ ?_; first | rfl | (simp; done)) | refine Blk.alloc ?_ _))
    have bHW : Blk ((w.alloc (.cells #[.int .i64 a0, .int .i64 a1, .int .i64 a2, .int .i64 a3, .int .i64 a4, .int .i64 a5, .bool false, .bool false] 55)).alloc (.cells #[.int .i64 p, .int .i64 q, .int .i64 r, .bool false, .bool true] 60)) (w.heap.size + 1) 60 #[.int .i64 p, .int .i64 q, .int .i64 r, .bool false, .bool true] := (by repeat (first | (refine Blk.newAt _ _ _ ?_; first | rfl | (simp; done)) | refine Blk.alloc ?_ _))
    have bHB : Below w.heap.size w ((w.alloc (.cells #[.int .i64 a0, .int .i64 a1, .int .i64 a2, .int .i64 a3, .int .i64 a4, .int .i64 a5, .bool false, .bool false] 55)).alloc (.cells #[.int .i64 p, .int .i64 q, .int .i64 r, .bool false, .bool true] 60)) := (by repeat' (first | exact Below.refl _ _ | assumption | refine Below.drew ?_ | refine bdn ?_ _ | refine bal ?_ _ | refine Below.setCell ?_ (by first | (simp; done) | omega | (simp; omega)) _))
    generalize ((w.alloc (.cells #[.int .i64 a0, .int .i64 a1, .int .i64 a2, .int .i64 a3, .int .i64 a4, .int .i64 a5, .bool false, .bool false] 55)).alloc (.cells #[.int .i64 p, .int .i64 q, .int .i64 r, .bool false, .bool true] 60)) = W at *
    have zW := bHW.lt
    have HX := Lib.hid bHX
    have HW := Lib.hid bHW
    have HB := Lib.hid bHB
    clear bHX bHW bHB
    have zHX := HX.out.lt
    have cHX0 := HX.out.cell 0
    have cHX1 := HX.out.cell 1
    have zHW := HW.out.lt
    have cHW0 := HW.out.cell 0
    go_wp2_with (first | (go_at_fn 62; (with_reducible refine (H1.out _).mono ?_); rintro e w1 ⟨rfl, hb1⟩; have nHX := Lib.hid (HX.out.below hb1); have nHW := Lib.hid (HW.out.below hb1); have nHB := Lib.hid (bthen HB.out hb1); clear HX HW HB hb1; have HX := nHX; have HW := nHW; have HB := nHB; clear nHX nHW nHB; have c2 := HX.out.cell 2; have c3 := HX.out.cell 3; have d1 := HW.out.cell 1; simp only [List.getElem?_toArray, List.getElem?_cons_succ, List.getElem?_cons_zero] at c2 c3 d1) | (go_at_fn 62; (with_reducible refine (H2.out _).mono ?_); rintro e w1 ⟨rfl, hb1⟩; have nHX := Lib.hid (HX.out.below hb1); have nHW := Lib.hid (HW.out.below hb1); have nHB := Lib.hid (bthen HB.out hb1); clear HX HW HB hb1; have HX := nHX; have HW := nHW; have HB := nHB; clear nHX nHW nHB; have c2 := HX.out.cell 4; have c3 := HX.out.cell 5; have d1 := HW.out.cell 2; simp only [List.getElem?_toArray, List.getElem?_cons_succ, List.getElem?_cons_zero] at c2 c3 d1) | (go_at_fn 62; (with_reducible refine (H3.out _).mono ?_); rintro e w1 ⟨rfl, hb1⟩; have nHX := Lib.hid (HX.out.below hb1); have nHW := Lib.hid (HW.out.below hb1); have nHB := Lib.hid (bthen HB.out hb1); clear HX HW HB hb1; have HX := nHX; have HW := nHW; have HB := nHB; clear nHX nHW nHB; have c2 := HX.out.cell 6; have c3 := HX.out.cell 7; have d1 := HW.out.cell 3; have d2 := HW.out.cell 4; simp only [List.getElem?_toArray, List.getElem?_cons_succ, List.getElem?_cons_zero] at c2 c3 d1 d2))
    go_ret
    exact ⟨rfl, HB.out⟩
  · skip
    go_enter Tryz.func34, Tryz.ntmps34
    go_wp2_with (fail)
    have bHX : Blk ((w.alloc (.cells #[.int .i64 a0, .int .i64 a1, .int .i64 a2, .int .i64 a3, .int .i64 a4, .int .i64 a5, .bool false, .bool false] 55)).alloc (.cells #[.int .i64 p, .int .i64 q, .int .i64 r, .bool true, .bool false] 60)) (w.heap.size) 55 #[.int .i64 a0, .int .i64 a1, .int .i64 a2, .int .i64 a3, .int .i64 a4, .int .i64 a5, .bool false, .bool false] := (by repeat (first | (refine Blk.newAt _ _ _ ?_; first | rfl | (simp; done)) | refine Blk.alloc ?_ _))
    have bHW : Blk ((w.alloc (.cells #[.int .i64 a0, .int .i64 a1, .int .i64 a2, .int .i64 a3, .int .i64 a4, .int .i64 a5, .bool false, .bool false] 55)).alloc (.cells #[.int .i64 p, .int .i64 q, .int .i64 r, .bool true, .bool false] 60)) (w.heap.size + 1) 60 #[.int .i64 p, .int .i64 q, .int .i64 r, .bool true, .bool false] := (by repeat (first | (refine Blk.newAt _ _ _ ?_; first | rfl | (simp; done)) | refine Blk.alloc ?_ _))
    have bHB : Below w.heap.size w ((w.alloc (.cells #[.int .i64 a0, .int .i64 a1, .int .i64 a2, .int .i64 a3, .int .i64 a4, .int .i64 a5, .bool false, .bool false] 55)).alloc (.cells #[.int .i64 p, .int .i64 q, .int .i64 r, .bool true, .bool false] 60)) := (by repeat' (first | exact Below.refl _ _ | assumption | refine Below.drew ?_ | refine bdn ?_ _ | refine bal ?_ _ | refine Below.setCell ?_ (by first | (simp; done) | omega | (simp; omega)) _))
    generalize ((w.alloc (.cells #[.int .i64 a0, .int .i64 a1, .int .i64 a2, .int .i64 a3, .int .i64 a4, .int .i64 a5, .bool false, .bool false] 55)).alloc (.cells #[.int .i64 p, .int .i64 q, .int .i64 r, .bool true, .bool false] 60)) = W at *
    have zW := bHW.lt
    have HX := Lib.hid bHX
    have HW := Lib.hid bHW
    have HB := Lib.hid bHB
    clear bHX bHW bHB
    have zHX := HX.out.lt
    have cHX0 := HX.out.cell 0
    have cHX1 := HX.out.cell 1
    have zHW := HW.out.lt
    have cHW0 := HW.out.cell 0
    go_wp2_with (first | (go_at_fn 62; (with_reducible refine (H1.out _).mono ?_); rintro e w1 ⟨rfl, hb1⟩; have nHX := Lib.hid (HX.out.below hb1); have nHW := Lib.hid (HW.out.below hb1); have nHB := Lib.hid (bthen HB.out hb1); clear HX HW HB hb1; have HX := nHX; have HW := nHW; have HB := nHB; clear nHX nHW nHB; have c2 := HX.out.cell 2; have c3 := HX.out.cell 3; have d1 := HW.out.cell 1; simp only [List.getElem?_toArray, List.getElem?_cons_succ, List.getElem?_cons_zero] at c2 c3 d1) | (go_at_fn 62; (with_reducible refine (H2.out _).mono ?_); rintro e w1 ⟨rfl, hb1⟩; have nHX := Lib.hid (HX.out.below hb1); have nHW := Lib.hid (HW.out.below hb1); have nHB := Lib.hid (bthen HB.out hb1); clear HX HW HB hb1; have HX := nHX; have HW := nHW; have HB := nHB; clear nHX nHW nHB; have c2 := HX.out.cell 4; have c3 := HX.out.cell 5; have d1 := HW.out.cell 2; simp only [List.getElem?_toArray, List.getElem?_cons_succ, List.getElem?_cons_zero] at c2 c3 d1) | (go_at_fn 62; (with_reducible refine (H3.out _).mono ?_); rintro e w1 ⟨rfl, hb1⟩; have nHX := Lib.hid (HX.out.below hb1); have nHW := Lib.hid (HW.out.below hb1); have nHB := Lib.hid (bthen HB.out hb1); clear HX HW HB hb1; have HX := nHX; have HW := nHW; have HB := nHB; clear nHX nHW nHB; have c2 := HX.out.cell 6; have c3 := HX.out.cell 7; have d1 := HW.out.cell 3; have d2 := HW.out.cell 4; simp only [List.getElem?_toArray, List.getElem?_cons_succ, List.getElem?_cons_zero] at c2 c3 d1 d2))
    go_ret
    exact ⟨rfl, HB.out⟩
  · skip
    go_enter Tryz.func34, Tryz.ntmps34
    go_wp2_with (fail)
    have bHX : Blk ((w.alloc (.cells #[.int .i64 a0, .int .i64 a1, .int .i64 a2, .int .i64 a3, .int .i64 a4, .int .i64 a5, .bool false, .bool false] 55)).alloc (.cells #[.int .i64 p, .int .i64 q, .int .i64 r, .bool true, .bool true] 60)) (w.heap.size) 55 #[.int .i64 a0, .int .i64 a1, .int .i64 a2, .int .i64 a3, .int .i64 a4, .int .i64 a5, .bool false, .bool false] := (by repeat (first | (refine Blk.newAt _ _ _ ?_; first | rfl | (simp; done)) | refine Blk.alloc ?_ _))
    have bHW : Blk ((w.alloc (.cells #[.int .i64 a0, .int .i64 a1, .int .i64 a2, .int .i64 a3, .int .i64 a4, .int .i64 a5, .bool false, .bool false] 55)).alloc (.cells #[.int .i64 p, .int .i64 q, .int .i64 r, .bool true, .bool true] 60)) (w.heap.size + 1) 60 #[.int .i64 p, .int .i64 q, .int .i64 r, .bool true, .bool true] := (by repeat (first | (refine Blk.newAt _ _ _ ?_; first | rfl | (simp; done)) | refine Blk.alloc ?_ _))
    have bHB : Below w.heap.size w ((w.alloc (.cells #[.int .i64 a0, .int .i64 a1, .int .i64 a2, .int .i64 a3, .int .i64 a4, .int .i64 a5, .bool false, .bool false] 55)).alloc (.cells #[.int .i64 p, .int .i64 q, .int .i64 r, .bool true, .bool true] 60)) := (by repeat' (first | exact Below.refl _ _ | assumption | refine Below.drew ?_ | refine bdn ?_ _ | refine bal ?_ _ | refine Below.setCell ?_ (by first | (simp; done) | omega | (simp; omega)) _))
    generalize ((w.alloc (.cells #[.int .i64 a0, .int .i64 a1, .int .i64 a2, .int .i64 a3, .int .i64 a4, .int .i64 a5, .bool false, .bool false] 55)).alloc (.cells #[.int .i64 p, .int .i64 q, .int .i64 r, .bool true, .bool true] 60)) = W at *
    have zW := bHW.lt
    have HX := Lib.hid bHX
    have HW := Lib.hid bHW
    have HB := Lib.hid bHB
    clear bHX bHW bHB
    have zHX := HX.out.lt
    have cHX0 := HX.out.cell 0
    have cHX1 := HX.out.cell 1
    have zHW := HW.out.lt
    have cHW0 := HW.out.cell 0
    go_wp2_with (first | (go_at_fn 62; (with_reducible refine (H1.out _).mono ?_); rintro e w1 ⟨rfl, hb1⟩; have nHX := Lib.hid (HX.out.below hb1); have nHW := Lib.hid (HW.out.below hb1); have nHB := Lib.hid (bthen HB.out hb1); clear HX HW HB hb1; have HX := nHX; have HW := nHW; have HB := nHB; clear nHX nHW nHB; have c2 := HX.out.cell 2; have c3 := HX.out.cell 3; have d1 := HW.out.cell 1; simp only [List.getElem?_toArray, List.getElem?_cons_succ, List.getElem?_cons_zero] at c2 c3 d1) | (go_at_fn 62; (with_reducible refine (H2.out _).mono ?_); rintro e w1 ⟨rfl, hb1⟩; have nHX := Lib.hid (HX.out.below hb1); have nHW := Lib.hid (HW.out.below hb1); have nHB := Lib.hid (bthen HB.out hb1); clear HX HW HB hb1; have HX := nHX; have HW := nHW; have HB := nHB; clear nHX nHW nHB; have c2 := HX.out.cell 4; have c3 := HX.out.cell 5; have d1 := HW.out.cell 2; simp only [List.getElem?_toArray, List.getElem?_cons_succ, List.getElem?_cons_zero] at c2 c3 d1) | (go_at_fn 62; (with_reducible refine (H3.out _).mono ?_); rintro e w1 ⟨rfl, hb1⟩; have nHX := Lib.hid (HX.out.below hb1); have nHW := Lib.hid (HW.out.below hb1); have nHB := Lib.hid (bthen HB.out hb1); clear HX HW HB hb1; have HX := nHX; have HW := nHW; have HB := nHB; clear nHX nHW nHB; have c2 := HX.out.cell 6; have c3 := HX.out.cell 7; have d1 := HW.out.cell 3; have d2 := HW.out.cell 4; simp only [List.getElem?_toArray, List.getElem?_cons_succ, List.getElem?_cons_zero] at c2 c3 d1 d2))
    go_ret
    exact ⟨rfl, HB.out⟩
  · skip
    go_enter Tryz.func34, Tryz.ntmps34
    go_wp2_with (fail)
    have bHX : Blk ((w.alloc (.cells #[.int .i64 a0, .int .i64 a1, .int .i64 a2, .int .i64 a3, .int .i64 a4, .int .i64 a5, .bool false, .bool true] 55)).alloc (.cells #[.int .i64 p, .int .i64 q, .int .i64 r, .bool false, .bool false] 60)) (w.heap.size) 55 #[.int .i64 a0, .int .i64 a1, .int .i64 a2, .int .i64 a3, .int .i64 a4, .int .i64 a5, .bool false, .bool true] := (by repeat (first | (refine Blk.newAt _ _ _ ?_; first | rfl | (simp; done)) | refine Blk.alloc ?_ _))
    have bHW : Blk ((w.alloc (.cells #[.int .i64 a0, .int .i64 a1, .int .i64 a2, .int .i64 a3, .int .i64 a4, .int .i64 a5, .bool false, .bool true] 55)).alloc (.cells #[.int .i64 p, .int .i64 q, .int .i64 r, .bool false, .bool false] 60)) (w.heap.size + 1) 60 #[.int .i64 p, .int .i64 q, .int .i64 r, .bool false, .bool false] := (by repeat (first | (refine Blk.newAt _ _ _ ?_; first | rfl | (simp; done)) | refine Blk.alloc ?_ _))
    have bHB : Below w.heap.size w ((w.alloc (.cells #[.int .i64 a0, .int .i64 a1, .int .i64 a2, .int .i64 a3, .int .i64 a4, .int .i64 a5, .bool false, .bool true] 55)).alloc (.cells #[.int .i64 p, .int .i64 q, .int .i64 r, .bool false, .bool false] 60)) := (by repeat' (first | exact Below.refl _ _ | assumption | refine Below.drew ?_ | refine bdn ?_ _ | refine bal ?_ _ | refine Below.setCell ?_ (by first | (simp; done) | omega | (simp; omega)) _))
    generalize ((w.alloc (.cells #[.int .i64 a0, .int .i64 a1, .int .i64 a2, .int .i64 a3, .int .i64 a4, .int .i64 a5, .bool false, .bool true] 55)).alloc (.cells #[.int .i64 p, .int .i64 q, .int .i64 r, .bool false, .bool false] 60)) = W at *
    have zW := bHW.lt
    have HX := Lib.hid bHX
    have HW := Lib.hid bHW
    have HB := Lib.hid bHB
    clear bHX bHW bHB
    have zHX := HX.out.lt
    have cHX0 := HX.out.cell 0
    have cHX1 := HX.out.cell 1
    have zHW := HW.out.lt
    have cHW0 := HW.out.cell 0
    go_wp2_with (first | (go_at_fn 62; (with_reducible refine (H1.out _).mono ?_); rintro e w1 ⟨rfl, hb1⟩; have nHX := Lib.hid (HX.out.below hb1); have nHW := Lib.hid (HW.out.below hb1); have nHB := Lib.hid (bthen HB.out hb1); clear HX HW HB hb1; have HX := nHX; have HW := nHW; have HB := nHB; clear nHX nHW nHB; have c2 := HX.out.cell 2; have c3 := HX.out.cell 3; have d1 := HW.out.cell 1; simp only [List.getElem?_toArray, List.getElem?_cons_succ, List.getElem?_cons_zero] at c2 c3 d1) | (go_at_fn 62; (with_reducible refine (H2.out _).mono ?_); rintro e w1 ⟨rfl, hb1⟩; have nHX := Lib.hid (HX.out.below hb1); have nHW := Lib.hid (HW.out.below hb1); have nHB := Lib.hid (bthen HB.out hb1); clear HX HW HB hb1; have HX := nHX; have HW := nHW; have HB := nHB; clear nHX nHW nHB; have c2 := HX.out.cell 4; have c3 := HX.out.cell 5; have d1 := HW.out.cell 2; simp only [List.getElem?_toArray, List.getElem?_cons_succ, List.getElem?_cons_zero] at c2 c3 d1) | (go_at_fn 62; (with_reducible refine (H3.out _).mono ?_); rintro e w1 ⟨rfl, hb1⟩; have nHX := Lib.hid (HX.out.below hb1); have nHW := Lib.hid (HW.out.below hb1); have nHB := Lib.hid (bthen HB.out hb1); clear HX HW HB hb1; have HX := nHX; have HW := nHW; have HB := nHB; clear nHX nHW nHB; have c2 := HX.out.cell 6; have c3 := HX.out.cell 7; have d1 := HW.out.cell 3; have d2 := HW.out.cell 4; simp only [List.getElem?_toArray, List.getElem?_cons_succ, List.getElem?_cons_zero] at c2 c3 d1 d2))
    go_ret
    exact ⟨rfl, HB.out⟩
  · skip
    go_enter Tryz.func34, Tryz.ntmps34
    go_wp2_with (fail)
    have bHX : Blk ((w.alloc (.cells #[.int .i64 a0, .int .i64 a1, .int .i64 a2, .int .i64 a3, .int .i64 a4, .int .i64 a5, .bool false, .bool true] 55)).alloc (.cells #[.int .i64 p, .int .i64 q, .int .i64 r, .bool false, .bool true] 60)) (w.heap.size) 55 #[.int .i64 a0, .int .i64 a1, .int .i64 a2, .int .i64 a3, .int .i64 a4, .int .i64 a5, .bool false, .bool true] := (by repeat (first | (refine Blk.newAt _ _ _ ?_; first | rfl | (simp; done)) | refine Blk.alloc ?_ _))
    have bHW : Blk ((w.alloc (.cells #[.int .i64 a0, .int .i64 a1, .int .i64 a2, .int .i64 a3, .int .i64 a4, .int .i64 a5, .bool false, .bool true] 55)).alloc (.cells #[.int .i64 p, .int .i64 q, .int .i64 r, .bool false, .bool true] 60)) (w.heap.size + 1) 60 #[.int .i64 p, .int .i64 q, .int .i64 r, .bool false, .bool true] := (by repeat (first | (refine Blk.newAt _ _ _ ?_; first | rfl | (simp; done)) | refine Blk.alloc ?_ _))
    have bHB : Below w.heap.size w ((w.alloc (.cells #[.int .i64 a0, .int .i64 a1, .int .i64 a2, .int .i64 a3, .int .i64 a4, .int .i64 a5, .bool false, .bool true] 55)).alloc (.cells #[.int .i64 p, .int .i64 q, .int .i64 r, .bool false, .bool true] 60)) := (by repeat' (first | exact Below.refl _ _ | assumption | refine Below.drew ?_ | refine bdn ?_ _ | refine bal ?_ _ | refine Below.setCell ?_ (by first | (simp; done) | omega | (simp; omega)) _))
    generalize ((w.alloc (.cells #[.int .i64 a0, .int .i64 a1, .int .i64 a2, .int .i64 a3, .int .i64 a4, .int .i64 a5, .bool false, .bool true] 55)).alloc (.cells #[.int .i64 p, .int .i64 q, .int .i64 r, .bool false, .bool true] 60)) = W at *
    have zW := bHW.lt
    have HX := Lib.hid bHX
    have HW := Lib.hid bHW
    have HB := Lib.hid bHB
    clear bHX bHW bHB
    have zHX := HX.out.lt
    have cHX0 := HX.out.cell 0
    have cHX1 := HX.out.cell 1
    have zHW := HW.out.lt
    have cHW0 := HW.out.cell 0
    go_wp2_with (first | (go_at_fn 62; (with_reducible refine (H1.out _).mono ?_); rintro e w1 ⟨rfl, hb1⟩; have nHX := Lib.hid (HX.out.below hb1); have nHW := Lib.hid (HW.out.below hb1); have nHB := Lib.hid (bthen HB.out hb1); clear HX HW HB hb1; have HX := nHX; have HW := nHW; have HB := nHB; clear nHX nHW nHB; have c2 := HX.out.cell 2; have c3 := HX.out.cell 3; have d1 := HW.out.cell 1; simp only [List.getElem?_toArray, List.getElem?_cons_succ, List.getElem?_cons_zero] at c2 c3 d1) | (go_at_fn 62; (with_reducible refine (H2.out _).mono ?_); rintro e w1 ⟨rfl, hb1⟩; have nHX := Lib.hid (HX.out.below hb1); have nHW := Lib.hid (HW.out.below hb1); have nHB := Lib.hid (bthen HB.out hb1); clear HX HW HB hb1; have HX := nHX; have HW := nHW; have HB := nHB; clear nHX nHW nHB; have c2 := HX.out.cell 4; have c3 := HX.out.cell 5; have d1 := HW.out.cell 2; simp only [List.getElem?_toArray, List.getElem?_cons_succ, List.getElem?_cons_zero] at c2 c3 d1) | (go_at_fn 62; (with_reducible refine (H3.out _).mono ?_); rintro e w1 ⟨rfl, hb1⟩; have nHX := Lib.hid (HX.out.below hb1); have nHW := Lib.hid (HW.out.below hb1); have nHB := Lib.hid (bthen HB.out hb1); clear HX HW HB hb1; have HX := nHX; have HW := nHW; have HB := nHB; clear nHX nHW nHB; have c2 := HX.out.cell 6; have c3 := HX.out.cell 7; have d1 := HW.out.cell 3; have d2 := HW.out.cell 4; simp only [List.getElem?_toArray, List.getElem?_cons_succ, List.getElem?_cons_zero] at c2 c3 d1 d2))
    go_ret
    exact ⟨rfl, HB.out⟩
  · skip
    go_enter Tryz.func34, Tryz.ntmps34
    go_wp2_with (fail)
    have bHX : Blk ((w.alloc (.cells #[.int .i64 a0, .int .i64 a1, .int .i64 a2, .int .i64 a3, .int .i64 a4, .int .i64 a5, .bool false, .bool true] 55)).alloc (.cells #[.int .i64 p, .int .i64 q, .int .i64 r, .bool true, .bool false] 60)) (w.heap.size) 55 #[.int .i64 a0, .int .i64 a1, .int .i64 a2, .int .i64 a3, .int .i64 a4, .int .i64 a5, .bool false, .bool true] := (by repeat (first | (refine Blk.newAt _ _ _ ?_; first | rfl | (simp; done)) | refine Blk.alloc ?_ _))
    have bHW : Blk ((w.alloc (.cells #[.int .i64 a0, .int .i64 a1, .int .i64 a2, .int .i64 a3, .int .i64 a4, .int .i64 a5, .bool false, .bool true] 55)).alloc (.cells #[.int .i64 p, .int .i64 q, .int .i64 r, .bool true, .bool false] 60)) (w.heap.size + 1) 60 #[.int .i64 p, .int .i64 q, .int .i64 r, .bool true, .bool false] := (by repeat (first | (refine Blk.newAt _ _ _ ?_; first | rfl | (simp; done)) | refine Blk.alloc ?_ _))
    have bHB : Below w.heap.size w ((w.alloc (.cells #[.int .i64 a0, .int .i64 a1, .int .i64 a2, .int .i64 a3, .int .i64 a4, .int .i64 a5, .bool false, .bool true] 55)).alloc (.cells #[.int .i64 p, .int .i64 q, .int .i64 r, .bool true, .bool false] 60)) := (by repeat' (first | exact Below.refl _ _ | assumption | refine Below.drew ?_ | refine bdn ?_ _ | refine bal ?_ _ | refine Below.setCell ?_ (by first | (simp; done) | omega | (simp; omega)) _))
    generalize ((w.alloc (.cells #[.int .i64 a0, .int .i64 a1, .int .i64 a2, .int .i64 a3, .int .i64 a4, .int .i64 a5, .bool false, .bool true] 55)).alloc (.cells #[.int .i64 p, .int .i64 q, .int .i64 r, .bool true, .bool false] 60)) = W at *
    have zW := bHW.lt
    have HX := Lib.hid bHX
    have HW := Lib.hid bHW
    have HB := Lib.hid bHB
    clear bHX bHW bHB
    have zHX := HX.out.lt
    have cHX0 := HX.out.cell 0
    have cHX1 := HX.out.cell 1
    have zHW := HW.out.lt
    have cHW0 := HW.out.cell 0
    go_wp2_with (first | (go_at_fn 62; (with_reducible refine (H1.out _).mono ?_); rintro e w1 ⟨rfl, hb1⟩; have nHX := Lib.hid (HX.out.below hb1); have nHW := Lib.hid (HW.out.below hb1); have nHB := Lib.hid (bthen HB.out hb1); clear HX HW HB hb1; have HX := nHX; have HW := nHW; have HB := nHB; clear nHX nHW nHB; have c2 := HX.out.cell 2; have c3 := HX.out.cell 3; have d1 := HW.out.cell 1; simp only [List.getElem?_toArray, List.getElem?_cons_succ, List.getElem?_cons_zero] at c2 c3 d1) | (go_at_fn 62; (with_reducible refine (H2.out _).mono ?_); rintro e w1 ⟨rfl, hb1⟩; have nHX := Lib.hid (HX.out.below hb1); have nHW := Lib.hid (HW.out.below hb1); have nHB := Lib.hid (bthen HB.out hb1); clear HX HW HB hb1; have HX := nHX; have HW := nHW; have HB := nHB; clear nHX nHW nHB; have c2 := HX.out.cell 4; have c3 := HX.out.cell 5; have d1 := HW.out.cell 2; simp only [List.getElem?_toArray, List.getElem?_cons_succ, List.getElem?_cons_zero] at c2 c3 d1) | (go_at_fn 62; (with_reducible refine (H3.out _).mono ?_); rintro e w1 ⟨rfl, hb1⟩; have nHX := Lib.hid (HX.out.below hb1); have nHW := Lib.hid (HW.out.below hb1); have nHB := Lib.hid (bthen HB.out hb1); clear HX HW HB hb1; have HX := nHX; have HW := nHW; have HB := nHB; clear nHX nHW nHB; have c2 := HX.out.cell 6; have c3 := HX.out.cell 7; have d1 := HW.out.cell 3; have d2 := HW.out.cell 4; simp only [List.getElem?_toArray, List.getElem?_cons_succ, List.getElem?_cons_zero] at c2 c3 d1 d2))
    go_ret
    exact ⟨rfl, HB.out⟩
  · skip
    go_enter Tryz.func34, Tryz.ntmps34
    go_wp2_with (fail)
    have bHX : Blk ((w.alloc (.cells #[.int .i64 a0, .int .i64 a1, .int .i64 a2, .int .i64 a3, .int .i64 a4, .int .i64 a5, .bool false, .bool true] 55)).alloc (.cells #[.int .i64 p, .int .i64 q, .int .i64 r, .bool true, .bool true] 60)) (w.heap.size) 55 #[.int .i64 a0, .int .i64 a1, .int .i64 a2, .int .i64 a3, .int .i64 a4, .int .i64 a5, .bool false, .bool true] := (by repeat (first | (refine Blk.newAt _ _ _ ?_; first | rfl | (simp; done)) | refine Blk.alloc ?_ _))
    have bHW : Blk ((w.alloc (.cells #[.int .i64 a0, .int .i64 a1, .int .i64 a2, .int .i64 a3, .int .i64 a4, .int .i64 a5, .bool false, .bool true] 55)).alloc (.cells #[.int .i64 p, .int .i64 q, .int .i64 r, .bool true, .bool true] 60)) (w.heap.size + 1) 60 #[.int .i64 p, .int .i64 q, .int .i64 r, .bool true, .bool true] := (by repeat (first | (refine Blk.newAt _ _ _ ?_; first | rfl | (simp; done)) | refine Blk.alloc ?_ _))
    have bHB : Below w.heap.size w ((w.alloc (.cells #[.int .i64 a0, .int .i64 a1, .int .i64 a2, .int .i64 a3, .int .i64 a4, .int .i64 a5, .bool false, .bool true] 55)).alloc (.cells #[.int .i64 p, .int .i64 q, .int .i64 r, .bool true, .bool true] 60)) := (by repeat' (first | exact Below.refl _ _ | assumption | refine Below.drew ?_ | refine bdn ?_ _ | refine bal ?_ _ | refine Below.setCell ?_ (by first | (simp; done) | omega | (simp; omega)) _))
    generalize ((w.alloc (.cells #[.int .i64 a0, .int .i64 a1, .int .i64 a2, .int .i64 a3, .int .i64 a4, .int .i64 a5, .bool false, .bool true] 55)).alloc (.cells #[.int .i64 p, .int .i64 q, .int .i64 r, .bool true, .bool true] 60)) = W at *
    have zW := bHW.lt
    have HX := Lib.hid bHX
    have HW := Lib.hid bHW
    have HB := Lib.hid bHB
    clear bHX bHW bHB
    have zHX := HX.out.lt
    have cHX0 := HX.out.cell 0
    have cHX1 := HX.out.cell 1
    have zHW := HW.out.lt
    have cHW0 := HW.out.cell 0
    go_wp2_with (first | (go_at_fn 62; (with_reducible refine (H1.out _).mono ?_); rintro e w1 ⟨rfl, hb1⟩; have nHX := Lib.hid (HX.out.below hb1); have nHW := Lib.hid (HW.out.below hb1); have nHB := Lib.hid (bthen HB.out hb1); clear HX HW HB hb1; have HX := nHX; have HW := nHW; have HB := nHB; clear nHX nHW nHB; have c2 := HX.out.cell 2; have c3 := HX.out.cell 3; have d1 := HW.out.cell 1; simp only [List.getElem?_toArray, List.getElem?_cons_succ, List.getElem?_cons_zero] at c2 c3 d1) | (go_at_fn 62; (with_reducible refine (H2.out _).mono ?_); rintro e w1 ⟨rfl, hb1⟩; have nHX := Lib.hid (HX.out.below hb1); have nHW := Lib.hid (HW.out.below hb1); have nHB := Lib.hid (bthen HB.out hb1); clear HX HW HB hb1; have HX := nHX; have HW := nHW; have HB := nHB; clear nHX nHW nHB; have c2 := HX.out.cell 4; have c3 := HX.out.cell 5; have d1 := HW.out.cell 2; simp only [List.getElem?_toArray, List.getElem?_cons_succ, List.getElem?_cons_zero] at c2 c3 d1) | (go_at_fn 62; (with_reducible refine (H3.out _).mono ?_); rintro e w1 ⟨rfl, hb1⟩; have nHX := Lib.hid (HX.out.below hb1); have nHW := Lib.hid (HW.out.below hb1); have nHB := Lib.hid (bthen HB.out hb1); clear HX HW HB hb1; have HX := nHX; have HW := nHW; have HB := nHB; clear nHX nHW nHB; have c2 := HX.out.cell 6; have c3 := HX.out.cell 7; have d1 := HW.out.cell 3; have d2 := HW.out.cell 4; simp only [List.getElem?_toArray, List.getElem?_cons_succ, List.getElem?_cons_zero] at c2 c3 d1 d2))
    go_ret
    exact ⟨rfl, HB.out⟩
  · skip
    go_enter Tryz.func34, Tryz.ntmps34
    go_wp2_with (fail)
    have bHX : Blk ((w.alloc (.cells #[.int .i64 a0, .int .i64 a1, .int .i64 a2, .int .i64 a3, .int .i64 a4, .int .i64 a5, .bool true, .bool false] 55)).alloc (.cells #[.int .i64 p, .int .i64 q, .int .i64 r, .bool false, .bool false] 60)) (w.heap.size) 55 #[.int .i64 a0, .int .i64 a1, .int .i64 a2, .int .i64 a3, .int .i64 a4, .int .i64 a5, .bool true, .bool false] := (by repeat (first | (refine Blk.newAt _ _ _ ?_; first | rfl | (simp; done)) | refine Blk.alloc ?_ _))
    have bHW : Blk ((w.alloc (.cells #[.int .i64 a0, .int .i64 a1, .int .i64 a2, .int .i64 a3, .int .i64 a4, .int .i64 a5, .bool true, .bool false] 55)).alloc (.cells #[.int .i64 p, .int .i64 q, .int .i64 r, .bool false, .bool false] 60)) (w.heap.size + 1) 60 #[.int .i64 p, .int .i64 q, .int .i64 r, .bool false, .bool false] := (by repeat (first | (refine Blk.newAt _ _ _ ?_; first | rfl | (simp; done)) | refine Blk.alloc ?_ _))
    have bHB : Below w.heap.size w ((w.alloc (.cells #[.int .i64 a0, .int .i64 a1, .int .i64 a2, .int .i64 a3, .int .i64 a4, .int .i64 a5, .bool true, .bool false] 55)).alloc (.cells #[.int .i64 p, .int .i64 q, .int .i64 r, .bool false, .bool false] 60)) := (by repeat' (first | exact Below.refl _ _ | assumption | refine Below.drew ?_ | refine bdn ?_ _ | refine bal ?_ _ | refine Below.setCell ?_ (by first | (simp; done) | omega | (simp; omega)) _))
    generalize ((w.alloc (.cells #[.int .i64 a0, .int .i64 a1, .int .i64 a2, .int .i64 a3, .int .i64 a4, .int .i64 a5, .bool true, .bool false] 55)).alloc (.cells #[.int .i64 p, .int .i64 q, .int .i64 r, .bool false, .bool false] 60)) = W at *
    have zW := bHW.lt
    have HX := Lib.hid bHX
    have HW := Lib.hid bHW
    have HB := Lib.hid bHB
    clear bHX bHW bHB
    have zHX := HX.out.lt
    have cHX0 := HX.out.cell 0
    have cHX1 := HX.out.cell 1
    have zHW := HW.out.lt
    have cHW0 := HW.out.cell 0
    go_wp2_with (first | (go_at_fn 62; (with_reducible refine (H1.out _).mono ?_); rintro e w1 ⟨rfl, hb1⟩; have nHX := Lib.hid (HX.out.below hb1); have nHW := Lib.hid (HW.out.below hb1); have nHB := Lib.hid (bthen HB.out hb1); clear HX HW HB hb1; have HX := nHX; have HW := nHW; have HB := nHB; clear nHX nHW nHB; have c2 := HX.out.cell 2; have c3 := HX.out.cell 3; have d1 := HW.out.cell 1; simp only [List.getElem?_toArray, List.getElem?_cons_succ, List.getElem?_cons_zero] at c2 c3 d1) | (go_at_fn 62; (with_reducible refine (H2.out _).mono ?_); rintro e w1 ⟨rfl, hb1⟩; have nHX := Lib.hid (HX.out.below hb1); have nHW := Lib.hid (HW.out.below hb1); have nHB := Lib.hid (bthen HB.out hb1); clear HX HW HB hb1; have HX := nHX; have HW := nHW; have HB := nHB; clear nHX nHW nHB; have c2 := HX.out.cell 4; have c3 := HX.out.cell 5; have d1 := HW.out.cell 2; simp only [List.getElem?_toArray, List.getElem?_cons_succ, List.getElem?_cons_zero] at c2 c3 d1) | (go_at_fn 62; (with_reducible refine (H3.out _).mono ?_); rintro e w1 ⟨rfl, hb1⟩; have nHX := Lib.hid (HX.out.below hb1); have nHW := Lib.hid (HW.out.below hb1); have nHB := Lib.hid (bthen HB.out hb1); clear HX HW HB hb1; have HX := nHX; have HW := nHW; have HB := nHB; clear nHX nHW nHB; have c2 := HX.out.cell 6; have c3 := HX.out.cell 7; have d1 := HW.out.cell 3; have d2 := HW.out.cell 4; simp only [List.getElem?_toArray, List.getElem?_cons_succ, List.getElem?_cons_zero] at c2 c3 d1 d2))
    go_ret
    exact ⟨rfl, HB.out⟩
  · skip
    go_enter Tryz.func34, Tryz.ntmps34
    go_wp2_with (fail)
    have bHX : Blk ((w.alloc (.cells #[.int .i64 a0, .int .i64 a1, .int .i64 a2, .int .i64 a3, .int .i64 a4, .int .i64 a5, .bool true, .bool false] 55)).alloc (.cells #[.int .i64 p, .int .i64 q, .int .i64 r, .bool false, .bool true] 60)) (w.heap.size) 55 #[.int .i64 a0, .int .i64 a1, .int .i64 a2, .int .i64 a3, .int .i64 a4, .int .i64 a5, .bool true, .bool false] := (by repeat (first | (refine Blk.newAt _ _ _ ?_; first | rfl | (simp; done)) | refine Blk.alloc ?_ _))
    have bHW : Blk ((w.alloc (.cells #[.int .i64 a0, .int .i64 a1, .int .i64 a2, .int .i64 a3, .int .i64 a4, .int .i64 a5, .bool true, .bool false] 55)).alloc (.cells #[.int .i64 p, .int .i64 q, .int .i64 r, .bool false, .bool true] 60)) (w.heap.size + 1) 60 #[.int .i64 p, .int .i64 q, .int .i64 r, .bool false, .bool true] := (by repeat (first | (refine Blk.newAt _ _ _ ?_; first | rfl | (simp; done)) | refine Blk.alloc ?_ _))
    have bHB : Below w.heap.size w ((w.alloc (.cells #[.int .i64 a0, .int .i64 a1, .int .i64 a2, .int .i64 a3, .int .i64 a4, .int .i64 a5, .bool true, .bool false] 55)).alloc (.cells #[.int .i64 p, .int .i64 q, .int .i64 r, .bool false, .bool true] 60)) := (by repeat' (first | exact Below.refl _ _ | assumption | refine Below.drew ?_ | refine bdn ?_ _ | refine bal ?_ _ | refine Below.setCell ?_ (by first | (simp; done) | omega | (simp; omega)) _))
    generalize ((w.alloc (.cells #[.int .i64 a0, .int .i64 a1, .int .i64 a2, .int .i64 a3, .int .i64 a4, .int .i64 a5, .bool true, .bool false] 55)).alloc (.cells #[.int .i64 p, .int .i64 q, .int .i64 r, .bool false, .bool true] 60)) = W at *
    have zW := bHW.lt
    have HX := Lib.hid bHX
    have HW := Lib.hid bHW
    have HB := Lib.hid bHB
    clear bHX bHW bHB
    have zHX := HX.out.lt
    have cHX0 := HX.out.cell 0
    have cHX1 := HX.out.cell 1
    have zHW := HW.out.lt
    have cHW0 := HW.out.cell 0
    go_wp2_with (first | (go_at_fn 62; (with_reducible refine (H1.out _).mono ?_); rintro e w1 ⟨rfl, hb1⟩; have nHX := Lib.hid (HX.out.below hb1); have nHW := Lib.hid (HW.out.below hb1); have nHB := Lib.hid (bthen HB.out hb1); clear HX HW HB hb1; have HX := nHX; have HW := nHW; have HB := nHB; clear nHX nHW nHB; have c2 := HX.out.cell 2; have c3 := HX.out.cell 3; have d1 := HW.out.cell 1; simp only [List.getElem?_toArray, List.getElem?_cons_succ, List.getElem?_cons_zero] at c2 c3 d1) | (go_at_fn 62; (with_reducible refine (H2.out _).mono ?_); rintro e w1 ⟨rfl, hb1⟩; have nHX := Lib.hid (HX.out.below hb1); have nHW := Lib.hid (HW.out.below hb1); have nHB := Lib.hid (bthen HB.out hb1); clear HX HW HB hb1; have HX := nHX; have HW := nHW; have HB := nHB; clear nHX nHW nHB; have c2 := HX.out.cell 4; have c3 := HX.out.cell 5; have d1 := HW.out.cell 2; simp only [List.getElem?_toArray, List.getElem?_cons_succ, List.getElem?_cons_zero] at c2 c3 d1) | (go_at_fn 62; (with_reducible refine (H3.out _).mono ?_); rintro e w1 ⟨rfl, hb1⟩; have nHX := Lib.hid (HX.out.below hb1); have nHW := Lib.hid (HW.out.below hb1); have nHB := Lib.hid (bthen HB.out hb1); clear HX HW HB hb1; have HX := nHX; have HW := nHW; have HB := nHB; clear nHX nHW nHB; have c2 := HX.out.cell 6; have c3 := HX.out.cell 7; have d1 := HW.out.cell 3; have d2 := HW.out.cell 4; simp only [List.getElem?_toArray, List.getElem?_cons_succ, List.getElem?_cons_zero] at c2 c3 d1 d2))
    go_ret
    exact ⟨rfl, HB.out⟩
  · skip
    go_enter Tryz.func34, Tryz.ntmps34
    go_wp2_with (fail)
    have bHX : Blk ((w.alloc (.cells #[.int .i64 a0, .int .i64 a1, .int .i64 a2, .int .i64 a3, .int .i64 a4, .int .i64 a5, .bool true, .bool false] 55)).alloc (.cells #[.int .i64 p, .int .i64 q, .int .i64 r, .bool true, .bool false] 60)) (w.heap.size) 55 #[.int .i64 a0, .int .i64 a1, .int .i64 a2, .int .i64 a3, .int .i64 a4, .int .i64 a5, .bool true, .bool false] := (by repeat (first | (refine Blk.newAt _ _ _ ?_; first | rfl | (simp; done)) | refine Blk.alloc ?_ _))
    have bHW : Blk ((w.alloc (.cells #[.int .i64 a0, .int .i64 a1, .int .i64 a2, .int .i64 a3, .int .i64 a4, .int .i64 a5, .bool true, .bool false] 55)).alloc (.cells #[.int .i64 p, .int .i64 q, .int .i64 r, .bool true, .bool false] 60)) (w.heap.size + 1) 60 #[.int .i64 p, .int .i64 q, .int .i64 r, .bool true, .bool false] := (by repeat (first | (refine Blk.newAt _ _ _ ?_; first | rfl | (simp; done)) | refine Blk.alloc ?_ _))
    have bHB : Below w.heap.size w ((w.alloc (.cells #[.int .i64 a0, .int .i64 a1, .int .i64 a2, .int .i64 a3, .int .i64 a4, .int .i64 a5, .bool true, .bool false] 55)).alloc (.cells #[.int .i64 p, .int .i64 q, .int .i64 r, .bool true, .bool false] 60)) := (by repeat' (first | exact Below.refl _ _ | assumption | refine Below.drew ?_ | refine bdn ?_ _ | refine bal ?_ _ | refine Below.setCell ?_ (by first | (simp; done) | omega | (simp; omega)) _))
    generalize ((w.alloc (.cells #[.int .i64 a0, .int .i64 a1, .int .i64 a2, .int .i64 a3, .int .i64 a4, .int .i64 a5, .bool true, .bool false] 55)).alloc (.cells #[.int .i64 p, .int .i64 q, .int .i64 r, .bool true, .bool false] 60)) = W at *
    have zW := bHW.lt
    have HX := Lib.hid bHX
    have HW := Lib.hid bHW
    have HB := Lib.hid bHB
    clear bHX bHW bHB
    have zHX := HX.out.lt
    have cHX0 := HX.out.cell 0
    have cHX1 := HX.out.cell 1
    have zHW := HW.out.lt
    have cHW0 := HW.out.cell 0
    go_wp2_with (first | (go_at_fn 62; (with_reducible refine (H1.out _).mono ?_); rintro e w1 ⟨rfl, hb1⟩; have nHX := Lib.hid (HX.out.below hb1); have nHW := Lib.hid (HW.out.below hb1); have nHB := Lib.hid (bthen HB.out hb1); clear HX HW HB hb1; have HX := nHX; have HW := nHW; have HB := nHB; clear nHX nHW nHB; have c2 := HX.out.cell 2; have c3 := HX.out.cell 3; have d1 := HW.out.cell 1; simp only [List.getElem?_toArray, List.getElem?_cons_succ, List.getElem?_cons_zero] at c2 c3 d1) | (go_at_fn 62; (with_reducible refine (H2.out _).mono ?_); rintro e w1 ⟨rfl, hb1⟩; have nHX := Lib.hid (HX.out.below hb1); have nHW := Lib.hid (HW.out.below hb1); have nHB := Lib.hid (bthen HB.out hb1); clear HX HW HB hb1; have HX := nHX; have HW := nHW; have HB := nHB; clear nHX nHW nHB; have c2 := HX.out.cell 4; have c3 := HX.out.cell 5; have d1 := HW.out.cell 2; simp only [List.getElem?_toArray, List.getElem?_cons_succ, List.getElem?_cons_zero] at c2 c3 d1) | (go_at_fn 62; (with_reducible refine (H3.out _).mono ?_); rintro e w1 ⟨rfl, hb1⟩; have nHX := Lib.hid (HX.out.below hb1); have nHW := Lib.hid (HW.out.below hb1); have nHB := Lib.hid (bthen HB.out hb1); clear HX HW HB hb1; have HX := nHX; have HW := nHW; have HB := nHB; clear nHX nHW nHB; have c2 := HX.out.cell 6; have c3 := HX.out.cell 7; have d1 := HW.out.cell 3; have d2 := HW.out.cell 4; simp only [List.getElem?_toArray, List.getElem?_cons_succ, List.getElem?_cons_zero] at c2 c3 d1 d2))
    go_ret
    exact ⟨rfl, HB.out⟩
  · skip
    go_enter Tryz.func34, Tryz.ntmps34
    go_wp2_with (fail)
    have bHX : Blk ((w.alloc (.cells #[.int .i64 a0, .int .i64 a1, .int .i64 a2, .int .i64 a3, .int .i64 a4, .int .i64 a5, .bool true, .bool false] 55)).alloc (.cells #[.int .i64 p, .int .i64 q, .int .i64 r, .bool true, .bool true] 60)) (w.heap.size) 55 #[.int .i64 a0, .int .i64 a1, .int .i64 a2, .int .i64 a3, .int .i64 a4, .int .i64 a5, .bool true, .bool false] := (by repeat (first | (refine Blk.newAt _ _ _ ?_; first | rfl | (simp; done)) | refine Blk.alloc ?_ _))
    have bHW : Blk ((w.alloc (.cells #[.int .i64 a0, .int .i64 a1, .int .i64 a2, .int .i64 a3, .int .i64 a4, .int .i64 a5, .bool true, .bool false] 55)).alloc (.cells #[.int .i64 p, .int .i64 q, .int .i64 r, .bool true, .bool true] 60)) (w.heap.size + 1) 60 #[.int .i64 p, .int .i64 q, .int .i64 r, .bool true, .bool true] := (by repeat (first | (refine Blk.newAt _ _ _ ?_; first | rfl | (simp; done)) | refine Blk.alloc ?_ _))
    have bHB : Below w.heap.size w ((w.alloc (.cells #[.int .i64 a0, .int .i64 a1, .int .i64 a2, .int .i64 a3, .int .i64 a4, .int .i64 a5, .bool true, .bool false] 55)).alloc (.cells #[.int .i64 p, .int .i64 q, .int .i64 r, .bool true, .bool true] 60)) := (by repeat' (first | exact Below.refl _ _ | assumption | refine Below.drew ?_ | refine bdn ?_ _ | refine bal ?_ _ | refine Below.setCell ?_ (by first | (simp; done) | omega | (simp; omega)) _))
    generalize ((w.alloc (.cells #[.int .i64 a0, .int .i64 a1, .int .i64 a2, .int .i64 a3, .int .i64 a4, .int .i64 a5, .bool true, .bool false] 55)).alloc (.cells #[.int .i64 p, .int .i64 q, .int .i64 r, .bool true, .bool true] 60)) = W at *
    have zW := bHW.lt
    have HX := Lib.hid bHX
    have HW := Lib.hid bHW
    have HB := Lib.hid bHB
    clear bHX bHW bHB
    have zHX := HX.out.lt
    have cHX0 := HX.out.cell 0
    have cHX1 := HX.out.cell 1
    have zHW := HW.out.lt
    have cHW0 := HW.out.cell 0
    go_wp2_with (first | (go_at_fn 62; (with_reducible refine (H1.out _).mono ?_); rintro e w1 ⟨rfl, hb1⟩; have nHX := Lib.hid (HX.out.below hb1); have nHW := Lib.hid (HW.out.below hb1); have nHB := Lib.hid (bthen HB.out hb1); clear HX HW HB hb1; have HX := nHX; have HW := nHW; have HB := nHB; clear nHX nHW nHB; have c2 := HX.out.cell 2; have c3 := HX.out.cell 3; have d1 := HW.out.cell 1; simp only [List.getElem?_toArray, List.getElem?_cons_succ, List.getElem?_cons_zero] at c2 c3 d1) | (go_at_fn 62; (with_reducible refine (H2.out _).mono ?_); rintro e w1 ⟨rfl, hb1⟩; have nHX := Lib.hid (HX.out.below hb1); have nHW := Lib.hid (HW.out.below hb1); have nHB := Lib.hid (bthen HB.out hb1); clear HX HW HB hb1; have HX := nHX; have HW := nHW; have HB := nHB; clear nHX nHW nHB; have c2 := HX.out.cell 4; have c3 := HX.out.cell 5; have d1 := HW.out.cell 2; simp only [List.getElem?_toArray, List.getElem?_cons_succ, List.getElem?_cons_zero] at c2 c3 d1) | (go_at_fn 62; (with_reducible refine (H3.out _).mono ?_); rintro e w1 ⟨rfl, hb1⟩; have nHX := Lib.hid (HX.out.below hb1); have nHW := Lib.hid (HW.out.below hb1); have nHB := Lib.hid (bthen HB.out hb1); clear HX HW HB hb1; have HX := nHX; have HW := nHW; have HB := nHB; clear nHX nHW nHB; have c2 := HX.out.cell 6; have c3 := HX.out.cell 7; have d1 := HW.out.cell 3; have d2 := HW.out.cell 4; simp only [List.getElem?_toArray, List.getElem?_cons_succ, List.getElem?_cons_zero] at c2 c3 d1 d2))
    go_ret
    exact ⟨rfl, HB.out⟩
  · skip
    go_enter Tryz.func34, Tryz.ntmps34
    go_wp2_with (fail)
    have bHX : Blk ((w.alloc (.cells #[.int .i64 a0, .int .i64 a1, .int .i64 a2, .int .i64 a3, .int .i64 a4, .int .i64 a5, .bool true, .bool true] 55)).alloc (.cells #[.int .i64 p, .int .i64 q, .int .i64 r, .bool false, .bool false] 60)) (w.heap.size) 55 #[.int .i64 a0, .int .i64 a1, .int .i64 a2, .int .i64 a3, .int .i64 a4, .int .i64 a5, .bool true, .bool true] := (by repeat (first | (refine Blk.newAt _ _ _ ?_; first | rfl | (simp; done)) | refine Blk.alloc ?_ _))
    have bHW : Blk ((w.alloc (.cells #[.int .i64 a0, .int .i64 a1, .int .i64 a2, .int .i64 a3, .int .i64 a4, .int .i64 a5, .bool true, .bool true] 55)).alloc (.cells #[.int .i64 p, .int .i64 q, .int .i64 r, .bool false, .bool false] 60)) (w.heap.size + 1) 60 #[.int .i64 p, .int .i64 q, .int .i64 r, .bool false, .bool false] := (by repeat (first | (refine Blk.newAt _ _ _ ?_; first | rfl | (simp; done)) | refine Blk.alloc ?_ _))
    have bHB : Below w.heap.size w ((w.alloc (.cells #[.int .i64 a0, .int .i64 a1, .int .i64 a2, .int .i64 a3, .int .i64 a4, .int .i64 a5, .bool true, .bool true] 55)).alloc (.cells #[.int .i64 p, .int .i64 q, .int .i64 r, .bool false, .bool false] 60)) := (by repeat' (first | exact Below.refl _ _ | assumption | refine Below.drew ?_ | refine bdn ?_ _ | refine bal ?_ _ | refine Below.setCell ?_ (by first | (simp; done) | omega | (simp; omega)) _))
    generalize ((w.alloc (.cells #[.int .i64 a0, .int .i64 a1, .int .i64 a2, .int .i64 a3, .int .i64 a4, .int .i64 a5, .bool true, .bool true] 55)).alloc (.cells #[.int .i64 p, .int .i64 q, .int .i64 r, .bool false, .bool false] 60)) = W at *
    have zW := bHW.lt
    have HX := Lib.hid bHX
    have HW := Lib.hid bHW
    have HB := Lib.hid bHB
    clear bHX bHW bHB
    have zHX := HX.out.lt
    have cHX0 := HX.out.cell 0
    have cHX1 := HX.out.cell 1
    have zHW := HW.out.lt
    have cHW0 := HW.out.cell 0
    go_wp2_with (first | (go_at_fn 62; (with_reducible refine (H1.out _).mono ?_); rintro e w1 ⟨rfl, hb1⟩; have nHX := Lib.hid (HX.out.below hb1); have nHW := Lib.hid (HW.out.below hb1); have nHB := Lib.hid (bthen HB.out hb1); clear HX HW HB hb1; have HX := nHX; have HW := nHW; have HB := nHB; clear nHX nHW nHB; have c2 := HX.out.cell 2; have c3 := HX.out.cell 3; have d1 := HW.out.cell 1; simp only [List.getElem?_toArray, List.getElem?_cons_succ, List.getElem?_cons_zero] at c2 c3 d1) | (go_at_fn 62; (with_reducible refine (H2.out _).mono ?_); rintro e w1 ⟨rfl, hb1⟩; have nHX := Lib.hid (HX.out.below hb1); have nHW := Lib.hid (HW.out.below hb1); have nHB := Lib.hid (bthen HB.out hb1); clear HX HW HB hb1; have HX := nHX; have HW := nHW; have HB := nHB; clear nHX nHW nHB; have c2 := HX.out.cell 4; have c3 := HX.out.cell 5; have d1 := HW.out.cell 2; simp only [List.getElem?_toArray, List.getElem?_cons_succ, List.getElem?_cons_zero] at c2 c3 d1) | (go_at_fn 62; (with_reducible refine (H3.out _).mono ?_); rintro e w1 ⟨rfl, hb1⟩; have nHX := Lib.hid (HX.out.below hb1); have nHW := Lib.hid (HW.out.below hb1); have nHB := Lib.hid (bthen HB.out hb1); clear HX HW HB hb1; have HX := nHX; have HW := nHW; have HB := nHB; clear nHX nHW nHB; have c2 := HX.out.cell 6; have c3 := HX.out.cell 7; have d1 := HW.out.cell 3; have d2 := HW.out.cell 4; simp only [List.getElem?_toArray, List.getElem?_cons_succ, List.getElem?_cons_zero] at c2 c3 d1 d2))
    go_ret
    exact ⟨rfl, HB.out⟩
  · skip
    go_enter Tryz.func34, Tryz.ntmps34
    go_wp2_with (fail)
    have bHX : Blk ((w.alloc (.cells #[.int .i64 a0, .int .i64 a1, .int .i64 a2, .int .i64 a3, .int .i64 a4, .int .i64 a5, .bool true, .bool true] 55)).alloc (.cells #[.int .i64 p, .int .i64 q, .int .i64 r, .bool false, .bool true] 60)) (w.heap.size) 55 #[.int .i64 a0, .int .i64 a1, .int .i64 a2, .int .i64 a3, .int .i64 a4, .int .i64 a5, .bool true, .bool true] := (by repeat (first | (refine Blk.newAt _ _ _ ?_; first | rfl | (simp; done)) | refine Blk.alloc ?_ _))
    have bHW : Blk ((w.alloc (.cells #[.int .i64 a0, .int .i64 a1, .int .i64 a2, .int .i64 a3, .int .i64 a4, .int .i64 a5, .bool true, .bool true] 55)).alloc (.cells #[.int .i64 p, .int .i64 q, .int .i64 r, .bool false, .bool true] 60)) (w.heap.size + 1) 60 #[.int .i64 p, .int .i64 q, .int .i64 r, .bool false, .bool true] := (by repeat (first | (refine Blk.newAt _ _ _ ?_; first | rfl | (simp; done)) | refine Blk.alloc ?_ _))
    have bHB : Below w.heap.size w ((w.alloc (.cells #[.int .i64 a0, .int .i64 a1, .int .i64 a2, .int .i64 a3, .int .i64 a4, .int .i64 a5, .bool true, .bool true] 55)).alloc (.cells #[.int .i64 p, .int .i64 q, .int .i64 r, .bool false, .bool true] 60)) := (by repeat' (first | exact Below.refl _ _ | assumption | refine Below.drew ?_ | refine bdn ?_ _ | refine bal ?_ _ | refine Below.setCell ?_ (by first | (simp; done) | omega | (simp; omega)) _))
    generalize ((w.alloc (.cells #[.int .i64 a0, .int .i64 a1, .int .i64 a2, .int .i64 a3, .int .i64 a4, .int .i64 a5, .bool true, .bool true] 55)).alloc (.cells #[.int .i64 p, .int .i64 q, .int .i64 r, .bool false, .bool true] 60)) = W at *
    have zW := bHW.lt
    have HX := Lib.hid bHX
    have HW := Lib.hid bHW
    have HB := Lib.hid bHB
    clear bHX bHW bHB
    have zHX := HX.out.lt
    have cHX0 := HX.out.cell 0
    have cHX1 := HX.out.cell 1
    have zHW := HW.out.lt
    have cHW0 := HW.out.cell 0
    go_wp2_with (first | (go_at_fn 62; (with_reducible refine (H1.out _).mono ?_); rintro e w1 ⟨rfl, hb1⟩; have nHX := Lib.hid (HX.out.below hb1); have nHW := Lib.hid (HW.out.below hb1); have nHB := Lib.hid (bthen HB.out hb1); clear HX HW HB hb1; have HX := nHX; have HW := nHW; have HB := nHB; clear nHX nHW nHB; have c2 := HX.out.cell 2; have c3 := HX.out.cell 3; have d1 := HW.out.cell 1; simp only [List.getElem?_toArray, List.getElem?_cons_succ, List.getElem?_cons_zero] at c2 c3 d1) | (go_at_fn 62; (with_reducible refine (H2.out _).mono ?_); rintro e w1 ⟨rfl, hb1⟩; have nHX := Lib.hid (HX.out.below hb1); have nHW := Lib.hid (HW.out.below hb1); have nHB := Lib.hid (bthen HB.out hb1); clear HX HW HB hb1; have HX := nHX; have HW := nHW; have HB := nHB; clear nHX nHW nHB; have c2 := HX.out.cell 4; have c3 := HX.out.cell 5; have d1 := HW.out.cell 2; simp only [List.getElem?_toArray, List.getElem?_cons_succ, List.getElem?_cons_zero] at c2 c3 d1) | (go_at_fn 62; (with_reducible refine (H3.out _).mono ?_); rintro e w1 ⟨rfl, hb1⟩; have nHX := Lib.hid (HX.out.below hb1); have nHW := Lib.hid (HW.out.below hb1); have nHB := Lib.hid (bthen HB.out hb1); clear HX HW HB hb1; have HX := nHX; have HW := nHW; have HB := nHB; clear nHX nHW nHB; have c2 := HX.out.cell 6; have c3 := HX.out.cell 7; have d1 := HW.out.cell 3; have d2 := HW.out.cell 4; simp only [List.getElem?_toArray, List.getElem?_cons_succ, List.getElem?_cons_zero] at c2 c3 d1 d2))
    go_ret
    exact ⟨rfl, HB.out⟩
  · skip
    go_enter Tryz.func34, Tryz.ntmps34
    go_wp2_with (fail)
    have bHX : Blk ((w.alloc (.cells #[.int .i64 a0, .int .i64 a1, .int .i64 a2, .int .i64 a3, .int .i64 a4, .int .i64 a5, .bool true, .bool true] 55)).alloc (.cells #[.int .i64 p, .int .i64 q, .int .i64 r, .bool true, .bool false] 60)) (w.heap.size) 55 #[.int .i64 a0, .int .i64 a1, .int .i64 a2, .int .i64 a3, .int .i64 a4, .int .i64 a5, .bool true, .bool true] := (by repeat (first | (refine Blk.newAt _ _ _ ?_; first | rfl | (simp; done)) | refine Blk.alloc ?_ _))
    have bHW : Blk ((w.alloc (.cells #[.int .i64 a0, .int .i64 a1, .int .i64 a2, .int .i64 a3, .int .i64 a4, .int .i64 a5, .bool true, .bool true] 55)).alloc (.cells #[.int .i64 p, .int .i64 q, .int .i64 r, .bool true, .bool false] 60)) (w.heap.size + 1) 60 #[.int .i64 p, .int .i64 q, .int .i64 r, .bool true, .bool false] := (by repeat (first | (refine Blk.newAt _ _ _ ?_; first | rfl | (simp; done)) | refine Blk.alloc ?_ _))
    have bHB : Below w.heap.size w ((w.alloc (.cells #[.int .i64 a0, .int .i64 a1, .int .i64 a2, .int .i64 a3, .int .i64 a4, .int .i64 a5, .bool true, .bool true] 55)).alloc (.cells #[.int .i64 p, .int .i64 q, .int .i64 r, .bool true, .bool false] 60)) := (by repeat' (first | exact Below.refl _ _ | assumption | refine Below.drew ?_ | refine bdn ?_ _ | refine bal ?_ _ | refine Below.setCell ?_ (by first | (simp; done) | omega | (simp; omega)) _))
    generalize ((w.alloc (.cells #[.int .i64 a0, .int .i64 a1, .int .i64 a2, .int .i64 a3, .int .i64 a4, .int .i64 a5, .bool true, .bool true] 55)).alloc (.cells #[.int .i64 p, .int .i64 q, .int .i64 r, .bool true, .bool false] 60)) = W at *
    have zW := bHW.lt
    have HX := Lib.hid bHX
    have HW := Lib.hid bHW
    have HB := Lib.hid bHB
    clear bHX bHW bHB
    have zHX := HX.out.lt
    have cHX0 := HX.out.cell 0
    have cHX1 := HX.out.cell 1
    have zHW := HW.out.lt
    have cHW0 := HW.out.cell 0
    go_wp2_with (first | (go_at_fn 62; (with_reducible refine (H1.out _).mono ?_); rintro e w1 ⟨rfl, hb1⟩; have nHX := Lib.hid (HX.out.below hb1); have nHW := Lib.hid (HW.out.below hb1); have nHB := Lib.hid (bthen HB.out hb1); clear HX HW HB hb1; have HX := nHX; have HW := nHW; have HB := nHB; clear nHX nHW nHB; have c2 := HX.out.cell 2; have c3 := HX.out.cell 3; have d1 := HW.out.cell 1; simp only [List.getElem?_toArray, List.getElem?_cons_succ, List.getElem?_cons_zero] at c2 c3 d1) | (go_at_fn 62; (with_reducible refine (H2.out _).mono ?_); rintro e w1 ⟨rfl, hb1⟩; have nHX := Lib.hid (HX.out.below hb1); have nHW := Lib.hid (HW.out.below hb1); have nHB := Lib.hid (bthen HB.out hb1); clear HX HW HB hb1; have HX := nHX; have HW := nHW; have HB := nHB; clear nHX nHW nHB; have c2 := HX.out.cell 4; have c3 := HX.out.cell 5; have d1 := HW.out.cell 2; simp only [List.getElem?_toArray, List.getElem?_cons_succ, List.getElem?_cons_zero] at c2 c3 d1) | (go_at_fn 62; (with_reducible refine (H3.out _).mono ?_); rintro e w1 ⟨rfl, hb1⟩; have nHX := Lib.hid (HX.out.below hb1); have nHW := Lib.hid (HW.out.below hb1); have nHB := Lib.hid (bthen HB.out hb1); clear HX HW HB hb1; have HX := nHX; have HW := nHW; have HB := nHB; clear nHX nHW nHB; have c2 := HX.out.cell 6; have c3 := HX.out.cell 7; have d1 := HW.out.cell 3; have d2 := HW.out.cell 4; simp only [List.getElem?_toArray, List.getElem?_cons_succ, List.getElem?_cons_zero] at c2 c3 d1 d2))
    go_ret
    exact ⟨rfl, HB.out⟩
  · skip
    go_enter Tryz.func34, Tryz.ntmps34
    go_wp2_with (fail)
    have bHX : Blk ((w.alloc (.cells #[.int .i64 a0, .int .i64 a1, .int .i64 a2, .int .i64 a3, .int .i64 a4, .int .i64 a5, .bool true, .bool true] 55)).alloc (.cells #[.int .i64 p, .int .i64 q, .int .i64 r, .bool true, .bool true] 60)) (w.heap.size) 55 #[.int .i64 a0, .int .i64 a1, .int .i64 a2, .int .i64 a3, .int .i64 a4, .int .i64 a5, .bool true, .bool true] := (by repeat (first | (refine Blk.newAt _ _ _ ?_; first | rfl | (simp; done)) | refine Blk.alloc ?_ _))
    have bHW : Blk ((w.alloc (.cells #[.int .i64 a0, .int .i64 a1, .int .i64 a2, .int .i64 a3, .int .i64 a4, .int .i64 a5, .bool true, .bool true] 55)).alloc (.cells #[.int .i64 p, .int .i64 q, .int .i64 r, .bool true, .bool true] 60)) (w.heap.size + 1) 60 #[.int .i64 p, .int .i64 q, .int .i64 r, .bool true, .bool true] := (by repeat (first | (refine Blk.newAt _ _ _ ?_; first | rfl | (simp; done)) | refine Blk.alloc ?_ _))
    have bHB : Below w.heap.size w ((w.alloc (.cells #[.int .i64 a0, .int .i64 a1, .int .i64 a2, .int .i64 a3, .int .i64 a4, .int .i64 a5, .bool true, .bool true] 55)).alloc (.cells #[.int .i64 p, .int .i64 q, .int .i64 r, .bool true, .bool true] 60)) := (by repeat' (first | exact Below.refl _ _ | assumption | refine Below.drew ?_ | refine bdn ?_ _ | refine bal ?_ _ | refine Below.setCell ?_ (by first | (simp; done) | omega | (simp; omega)) _))
    generalize ((w.alloc (.cells #[.int .i64 a0, .int .i64 a1, .int .i64 a2, .int .i64 a3, .int .i64 a4, .int .i64 a5, .bool true, .bool true] 55)).alloc (.cells #[.int .i64 p, .int .i64 q, .int .i64 r, .bool true, .bool true] 60)) = W at *
    have zW := bHW.lt
    have HX := Lib.hid bHX
    have HW := Lib.hid bHW
    have HB := Lib.hid bHB
    clear bHX bHW bHB
    have zHX := HX.out.lt
    have cHX0 := HX.out.cell 0
    have cHX1 := HX.out.cell 1
    have zHW := HW.out.lt
    have cHW0 := HW.out.cell 0
    go_wp2_with (first | (go_at_fn 62; (with_reducible refine (H1.out _).mono ?_); rintro e w1 ⟨rfl, hb1⟩; have nHX := Lib.hid (HX.out.below hb1); have nHW := Lib.hid (HW.out.below hb1); have nHB := Lib.hid (bthen HB.out hb1); clear HX HW HB hb1; have HX := nHX; have HW := nHW; have HB := nHB; clear nHX nHW nHB; have c2 := HX.out.cell 2; have c3 := HX.out.cell 3; have d1 := HW.out.cell 1; simp only [List.getElem?_toArray, List.getElem?_cons_succ, List.getElem?_cons_zero] at c2 c3 d1) | (go_at_fn 62; (with_reducible refine (H2.out _).mono ?_); rintro e w1 ⟨rfl, hb1⟩; have nHX := Lib.hid (HX.out.below hb1); have nHW := Lib.hid (HW.out.below hb1); have nHB := Lib.hid (bthen HB.out hb1); clear HX HW HB hb1; have HX := nHX; have HW := nHW; have HB := nHB; clear nHX nHW nHB; have c2 := HX.out.cell 4; have c3 := HX.out.cell 5; have d1 := HW.out.cell 2; simp only [List.getElem?_toArray, List.getElem?_cons_succ, List.getElem?_cons_zero] at c2 c3 d1) | (go_at_fn 62; (with_reducible refine (H3.out _).mono ?_); rintro e w1 ⟨rfl, hb1⟩; have nHX := Lib.hid (HX.out.below hb1); have nHW := Lib.hid (HW.out.below hb1); have nHB := Lib.hid (bthen HB.out hb1); clear HX HW HB hb1; have HX := nHX; have HW := nHW; have HB := nHB; clear nHX nHW nHB; have c2 := HX.out.cell 6; have c3 := HX.out.cell 7; have d1 := HW.out.cell 3; have d2 := HW.out.cell 4; simp only [List.getElem?_toArray, List.getElem?_cons_succ, List.getElem?_cons_zero] at c2 c3 d1 d2))
    go_ret
    exact ⟨rfl, HB.out⟩
/-- A weather that may follow another one. -/
def folB (M : MetD) (a b c d e f : Int) : Bool := nrB a d M.mw && (nrB b e M.ms && nrB c f M.mc)
theorem follows_c (M : MetD) (vF vS : Value) (a b c : Int) (ai as1 : Bool) (d e f : Int) (bi bs : Bool) (w : World) (h1 : wvB a b c = true) (h2 : wvB d e f = true) :
   Calls Tryz.prog 35 #[.agg #[.int .i64 M.places, .int .i64 M.any.a0, .int .i64 M.any.a1, .int .i64 M.any.a2, .int .i64 M.any.a3, .int .i64 M.any.a4, .int .i64 M.any.a5, .bool M.any.i, .bool M.any.s, .int .i64 M.mw, .int .i64 M.ms, .int .i64 M.mc, vF, vS], .agg #[.int .i64 a, .int .i64 b, .int .i64 c, .bool ai, .bool as1], .agg #[.int .i64 d, .int .i64 e, .int .i64 f, .bool bi, .bool bs]] w fun x w' => x = .returned (.bool (folB M a b c d e f)) ∧ Below w.heap.size w w' := by
  have eL := Tryz.entL
  unfold wvB at h1 h2
  simp only [Bool.and_eq_true, inB_iff] at h1 h2
  unfold folB
  have h1 := fun w1 => follows1_c a d M.mw w1 (by omega) (by omega) (by omega) (by omega)
  have h2 := fun w1 => follows1_c b e M.ms w1 (by omega) (by omega) (by omega) (by omega)
  have h3 := fun w1 => follows1_c c f M.mc w1 (by omega) (by omega) (by omega) (by omega)
  rename_i k1 k2
  clear k1 k2
  generalize nrB a d M.mw = B1 at *
  generalize nrB b e M.ms = B2 at *
  generalize nrB c f M.mc = B3 at *
  have H1 := Lib.hid h1
  have H2 := Lib.hid h2
  have H3 := Lib.hid h3
  clear h1 h2 h3
  cases B1
  · skip
    go_enter Tryz.func35, Tryz.ntmps35
    go_wp2_with (fail)
    have bHX : Blk (((w.alloc (.cells #[.int .i64 M.places, .int .i64 M.any.a0, .int .i64 M.any.a1, .int .i64 M.any.a2, .int .i64 M.any.a3, .int .i64 M.any.a4, .int .i64 M.any.a5, .bool M.any.i, .bool M.any.s, .int .i64 M.mw, .int .i64 M.ms, .int .i64 M.mc, vF, vS] 29)).alloc (.cells #[.int .i64 a, .int .i64 b, .int .i64 c, .bool ai, .bool as1] 60)).alloc (.cells #[.int .i64 d, .int .i64 e, .int .i64 f, .bool bi, .bool bs] 60)) (w.heap.size) 29 #[.int .i64 M.places, .int .i64 M.any.a0, .int .i64 M.any.a1, .int .i64 M.any.a2, .int .i64 M.any.a3, .int .i64 M.any.a4, .int .i64 M.any.a5, .bool M.any.i, .bool M.any.s, .int .i64 M.mw, .int .i64 M.ms, .int .i64 M.mc, vF, vS] := (by repeat (first | (refine Blk.newAt _ _ _ ?_; first | rfl | (simp; done)) | refine Blk.alloc ?_ _))
    have bHV : Blk (((w.alloc (.cells #[.int .i64 M.places, .int .i64 M.any.a0, .int .i64 M.any.a1, .int .i64 M.any.a2, .int .i64 M.any.a3, .int .i64 M.any.a4, .int .i64 M.any.a5, .bool M.any.i, .bool M.any.s, .int .i64 M.mw, .int .i64 M.ms, .int .i64 M.mc, vF, vS] 29)).alloc (.cells #[.int .i64 a, .int .i64 b, .int .i64 c, .bool ai, .bool as1] 60)).alloc (.cells #[.int .i64 d, .int .i64 e, .int .i64 f, .bool bi, .bool bs] 60)) (w.heap.size + 1) 60 #[.int .i64 a, .int .i64 b, .int .i64 c, .bool ai, .bool as1] := (by repeat (first | (refine Blk.newAt _ _ _ ?_; first | rfl | (simp; done)) | refine Blk.alloc ?_ _))
    have bHW : Blk (((w.alloc (.cells #[.int .i64 M.places, .int .i64 M.any.a0, .int .i64 M.any.a1, .int .i64 M.any.a2, .int .i64 M.any.a3, .int .i64 M.any.a4, .int .i64 M.any.a5, .bool M.any.i, .bool M.any.s, .int .i64 M.mw, .int .i64 M.ms, .int .i64 M.mc, vF, vS] 29)).alloc (.cells #[.int .i64 a, .int .i64 b, .int .i64 c, .bool ai, .bool as1] 60)).alloc (.cells #[.int .i64 d, .int .i64 e, .int .i64 f, .bool bi, .bool bs] 60)) (w.heap.size + 1 + 1) 60 #[.int .i64 d, .int .i64 e, .int .i64 f, .bool bi, .bool bs] := (by repeat (first | (refine Blk.newAt _ _ _ ?_; first | rfl | (simp; done)) | refine Blk.alloc ?_ _))
    have bHB : Below w.heap.size w (((w.alloc (.cells #[.int .i64 M.places, .int .i64 M.any.a0, .int .i64 M.any.a1, .int .i64 M.any.a2, .int .i64 M.any.a3, .int .i64 M.any.a4, .int .i64 M.any.a5, .bool M.any.i, .bool M.any.s, .int .i64 M.mw, .int .i64 M.ms, .int .i64 M.mc, vF, vS] 29)).alloc (.cells #[.int .i64 a, .int .i64 b, .int .i64 c, .bool ai, .bool as1] 60)).alloc (.cells #[.int .i64 d, .int .i64 e, .int .i64 f, .bool bi, .bool bs] 60)) := (by repeat' (first | exact Below.refl _ _ | assumption | refine Below.drew ?_ | refine bdn ?_ _ | refine bal ?_ _ | refine Below.setCell ?_ (by first | (simp; done) | omega | (simp; omega)) _))
    generalize (((w.alloc (.cells #[.int .i64 M.places, .int .i64 M.any.a0, .int .i64 M.any.a1, .int .i64 M.any.a2, .int .i64 M.any.a3, .int .i64 M.any.a4, .int .i64 M.any.a5, .bool M.any.i, .bool M.any.s, .int .i64 M.mw, .int .i64 M.ms, .int .i64 M.mc, vF, vS] 29)).alloc (.cells #[.int .i64 a, .int .i64 b, .int .i64 c, .bool ai, .bool as1] 60)).alloc (.cells #[.int .i64 d, .int .i64 e, .int .i64 f, .bool bi, .bool bs] 60)) = W at *
    have zW := bHW.lt
    have HX := Lib.hid bHX
    have HV := Lib.hid bHV
    have HW := Lib.hid bHW
    have HB := Lib.hid bHB
    clear bHX bHV bHW bHB
    have zHX := HX.out.lt
    have cHX9 := HX.out.cell 9
    have zHV := HV.out.lt
    have cHV0 := HV.out.cell 0
    have zHW := HW.out.lt
    have cHW0 := HW.out.cell 0
    go_wp2_with (first | (go_at_fn 63; (with_reducible refine (H1.out _).mono ?_); rintro e w1 ⟨rfl, hb1⟩; have nHX := Lib.hid (HX.out.below hb1); have nHV := Lib.hid (HV.out.below hb1); have nHW := Lib.hid (HW.out.below hb1); have nHB := Lib.hid (bthen HB.out hb1); clear HX HV HW HB hb1; have HX := nHX; have HV := nHV; have HW := nHW; have HB := nHB; clear nHX nHV nHW nHB; have c2 := HX.out.cell 10; have c3 := HV.out.cell 1; have d1 := HW.out.cell 1; simp only [List.getElem?_toArray, List.getElem?_cons_succ, List.getElem?_cons_zero] at c2 c3 d1) | (go_at_fn 63; (with_reducible refine (H2.out _).mono ?_); rintro e w1 ⟨rfl, hb1⟩; have nHX := Lib.hid (HX.out.below hb1); have nHV := Lib.hid (HV.out.below hb1); have nHW := Lib.hid (HW.out.below hb1); have nHB := Lib.hid (bthen HB.out hb1); clear HX HV HW HB hb1; have HX := nHX; have HV := nHV; have HW := nHW; have HB := nHB; clear nHX nHV nHW nHB; have c2 := HX.out.cell 11; have c3 := HV.out.cell 2; have d1 := HW.out.cell 2; simp only [List.getElem?_toArray, List.getElem?_cons_succ, List.getElem?_cons_zero] at c2 c3 d1) | (go_at_fn 63; (with_reducible refine (H3.out _).mono ?_); rintro e w1 ⟨rfl, hb1⟩; have nHX := Lib.hid (HX.out.below hb1); have nHV := Lib.hid (HV.out.below hb1); have nHW := Lib.hid (HW.out.below hb1); have nHB := Lib.hid (bthen HB.out hb1); clear HX HV HW HB hb1; have HX := nHX; have HV := nHV; have HW := nHW; have HB := nHB; clear nHX nHV nHW nHB))
    go_ret
    exact ⟨rfl, HB.out⟩
  cases B2
  · skip
    go_enter Tryz.func35, Tryz.ntmps35
    go_wp2_with (fail)
    have bHX : Blk (((w.alloc (.cells #[.int .i64 M.places, .int .i64 M.any.a0, .int .i64 M.any.a1, .int .i64 M.any.a2, .int .i64 M.any.a3, .int .i64 M.any.a4, .int .i64 M.any.a5, .bool M.any.i, .bool M.any.s, .int .i64 M.mw, .int .i64 M.ms, .int .i64 M.mc, vF, vS] 29)).alloc (.cells #[.int .i64 a, .int .i64 b, .int .i64 c, .bool ai, .bool as1] 60)).alloc (.cells #[.int .i64 d, .int .i64 e, .int .i64 f, .bool bi, .bool bs] 60)) (w.heap.size) 29 #[.int .i64 M.places, .int .i64 M.any.a0, .int .i64 M.any.a1, .int .i64 M.any.a2, .int .i64 M.any.a3, .int .i64 M.any.a4, .int .i64 M.any.a5, .bool M.any.i, .bool M.any.s, .int .i64 M.mw, .int .i64 M.ms, .int .i64 M.mc, vF, vS] := (by repeat (first | (refine Blk.newAt _ _ _ ?_; first | rfl | (simp; done)) | refine Blk.alloc ?_ _))
    have bHV : Blk (((w.alloc (.cells #[.int .i64 M.places, .int .i64 M.any.a0, .int .i64 M.any.a1, .int .i64 M.any.a2, .int .i64 M.any.a3, .int .i64 M.any.a4, .int .i64 M.any.a5, .bool M.any.i, .bool M.any.s, .int .i64 M.mw, .int .i64 M.ms, .int .i64 M.mc, vF, vS] 29)).alloc (.cells #[.int .i64 a, .int .i64 b, .int .i64 c, .bool ai, .bool as1] 60)).alloc (.cells #[.int .i64 d, .int .i64 e, .int .i64 f, .bool bi, .bool bs] 60)) (w.heap.size + 1) 60 #[.int .i64 a, .int .i64 b, .int .i64 c, .bool ai, .bool as1] := (by repeat (first | (refine Blk.newAt _ _ _ ?_; first | rfl | (simp; done)) | refine Blk.alloc ?_ _))
    have bHW : Blk (((w.alloc (.cells #[.int .i64 M.places, .int .i64 M.any.a0, .int .i64 M.any.a1, .int .i64 M.any.a2, .int .i64 M.any.a3, .int .i64 M.any.a4, .int .i64 M.any.a5, .bool M.any.i, .bool M.any.s, .int .i64 M.mw, .int .i64 M.ms, .int .i64 M.mc, vF, vS] 29)).alloc (.cells #[.int .i64 a, .int .i64 b, .int .i64 c, .bool ai, .bool as1] 60)).alloc (.cells #[.int .i64 d, .int .i64 e, .int .i64 f, .bool bi, .bool bs] 60)) (w.heap.size + 1 + 1) 60 #[.int .i64 d, .int .i64 e, .int .i64 f, .bool bi, .bool bs] := (by repeat (first | (refine Blk.newAt _ _ _ ?_; first | rfl | (simp; done)) | refine Blk.alloc ?_ _))
    have bHB : Below w.heap.size w (((w.alloc (.cells #[.int .i64 M.places, .int .i64 M.any.a0, .int .i64 M.any.a1, .int .i64 M.any.a2, .int .i64 M.any.a3, .int .i64 M.any.a4, .int .i64 M.any.a5, .bool M.any.i, .bool M.any.s, .int .i64 M.mw, .int .i64 M.ms, .int .i64 M.mc, vF, vS] 29)).alloc (.cells #[.int .i64 a, .int .i64 b, .int .i64 c, .bool ai, .bool as1] 60)).alloc (.cells #[.int .i64 d, .int .i64 e, .int .i64 f, .bool bi, .bool bs] 60)) := (by repeat' (first | exact Below.refl _ _ | assumption | refine Below.drew ?_ | refine bdn ?_ _ | refine bal ?_ _ | refine Below.setCell ?_ (by first | (simp; done) | omega | (simp; omega)) _))
    generalize (((w.alloc (.cells #[.int .i64 M.places, .int .i64 M.any.a0, .int .i64 M.any.a1, .int .i64 M.any.a2, .int .i64 M.any.a3, .int .i64 M.any.a4, .int .i64 M.any.a5, .bool M.any.i, .bool M.any.s, .int .i64 M.mw, .int .i64 M.ms, .int .i64 M.mc, vF, vS] 29)).alloc (.cells #[.int .i64 a, .int .i64 b, .int .i64 c, .bool ai, .bool as1] 60)).alloc (.cells #[.int .i64 d, .int .i64 e, .int .i64 f, .bool bi, .bool bs] 60)) = W at *
    have zW := bHW.lt
    have HX := Lib.hid bHX
    have HV := Lib.hid bHV
    have HW := Lib.hid bHW
    have HB := Lib.hid bHB
    clear bHX bHV bHW bHB
    have zHX := HX.out.lt
    have cHX9 := HX.out.cell 9
    have zHV := HV.out.lt
    have cHV0 := HV.out.cell 0
    have zHW := HW.out.lt
    have cHW0 := HW.out.cell 0
    go_wp2_with (first | (go_at_fn 63; (with_reducible refine (H1.out _).mono ?_); rintro e w1 ⟨rfl, hb1⟩; have nHX := Lib.hid (HX.out.below hb1); have nHV := Lib.hid (HV.out.below hb1); have nHW := Lib.hid (HW.out.below hb1); have nHB := Lib.hid (bthen HB.out hb1); clear HX HV HW HB hb1; have HX := nHX; have HV := nHV; have HW := nHW; have HB := nHB; clear nHX nHV nHW nHB; have c2 := HX.out.cell 10; have c3 := HV.out.cell 1; have d1 := HW.out.cell 1; simp only [List.getElem?_toArray, List.getElem?_cons_succ, List.getElem?_cons_zero] at c2 c3 d1) | (go_at_fn 63; (with_reducible refine (H2.out _).mono ?_); rintro e w1 ⟨rfl, hb1⟩; have nHX := Lib.hid (HX.out.below hb1); have nHV := Lib.hid (HV.out.below hb1); have nHW := Lib.hid (HW.out.below hb1); have nHB := Lib.hid (bthen HB.out hb1); clear HX HV HW HB hb1; have HX := nHX; have HV := nHV; have HW := nHW; have HB := nHB; clear nHX nHV nHW nHB; have c2 := HX.out.cell 11; have c3 := HV.out.cell 2; have d1 := HW.out.cell 2; simp only [List.getElem?_toArray, List.getElem?_cons_succ, List.getElem?_cons_zero] at c2 c3 d1) | (go_at_fn 63; (with_reducible refine (H3.out _).mono ?_); rintro e w1 ⟨rfl, hb1⟩; have nHX := Lib.hid (HX.out.below hb1); have nHV := Lib.hid (HV.out.below hb1); have nHW := Lib.hid (HW.out.below hb1); have nHB := Lib.hid (bthen HB.out hb1); clear HX HV HW HB hb1; have HX := nHX; have HV := nHV; have HW := nHW; have HB := nHB; clear nHX nHV nHW nHB))
    go_ret
    exact ⟨rfl, HB.out⟩
  cases B3
  · skip
    go_enter Tryz.func35, Tryz.ntmps35
    go_wp2_with (fail)
    have bHX : Blk (((w.alloc (.cells #[.int .i64 M.places, .int .i64 M.any.a0, .int .i64 M.any.a1, .int .i64 M.any.a2, .int .i64 M.any.a3, .int .i64 M.any.a4, .int .i64 M.any.a5, .bool M.any.i, .bool M.any.s, .int .i64 M.mw, .int .i64 M.ms, .int .i64 M.mc, vF, vS] 29)).alloc (.cells #[.int .i64 a, .int .i64 b, .int .i64 c, .bool ai, .bool as1] 60)).alloc (.cells #[.int .i64 d, .int .i64 e, .int .i64 f, .bool bi, .bool bs] 60)) (w.heap.size) 29 #[.int .i64 M.places, .int .i64 M.any.a0, .int .i64 M.any.a1, .int .i64 M.any.a2, .int .i64 M.any.a3, .int .i64 M.any.a4, .int .i64 M.any.a5, .bool M.any.i, .bool M.any.s, .int .i64 M.mw, .int .i64 M.ms, .int .i64 M.mc, vF, vS] := (by repeat (first | (refine Blk.newAt _ _ _ ?_; first | rfl | (simp; done)) | refine Blk.alloc ?_ _))
    have bHV : Blk (((w.alloc (.cells #[.int .i64 M.places, .int .i64 M.any.a0, .int .i64 M.any.a1, .int .i64 M.any.a2, .int .i64 M.any.a3, .int .i64 M.any.a4, .int .i64 M.any.a5, .bool M.any.i, .bool M.any.s, .int .i64 M.mw, .int .i64 M.ms, .int .i64 M.mc, vF, vS] 29)).alloc (.cells #[.int .i64 a, .int .i64 b, .int .i64 c, .bool ai, .bool as1] 60)).alloc (.cells #[.int .i64 d, .int .i64 e, .int .i64 f, .bool bi, .bool bs] 60)) (w.heap.size + 1) 60 #[.int .i64 a, .int .i64 b, .int .i64 c, .bool ai, .bool as1] := (by repeat (first | (refine Blk.newAt _ _ _ ?_; first | rfl | (simp; done)) | refine Blk.alloc ?_ _))
    have bHW : Blk (((w.alloc (.cells #[.int .i64 M.places, .int .i64 M.any.a0, .int .i64 M.any.a1, .int .i64 M.any.a2, .int .i64 M.any.a3, .int .i64 M.any.a4, .int .i64 M.any.a5, .bool M.any.i, .bool M.any.s, .int .i64 M.mw, .int .i64 M.ms, .int .i64 M.mc, vF, vS] 29)).alloc (.cells #[.int .i64 a, .int .i64 b, .int .i64 c, .bool ai, .bool as1] 60)).alloc (.cells #[.int .i64 d, .int .i64 e, .int .i64 f, .bool bi, .bool bs] 60)) (w.heap.size + 1 + 1) 60 #[.int .i64 d, .int .i64 e, .int .i64 f, .bool bi, .bool bs] := (by repeat (first | (refine Blk.newAt _ _ _ ?_; first | rfl | (simp; done)) | refine Blk.alloc ?_ _))
    have bHB : Below w.heap.size w (((w.alloc (.cells #[.int .i64 M.places, .int .i64 M.any.a0, .int .i64 M.any.a1, .int .i64 M.any.a2, .int .i64 M.any.a3, .int .i64 M.any.a4, .int .i64 M.any.a5, .bool M.any.i, .bool M.any.s, .int .i64 M.mw, .int .i64 M.ms, .int .i64 M.mc, vF, vS] 29)).alloc (.cells #[.int .i64 a, .int .i64 b, .int .i64 c, .bool ai, .bool as1] 60)).alloc (.cells #[.int .i64 d, .int .i64 e, .int .i64 f, .bool bi, .bool bs] 60)) := (by repeat' (first | exact Below.refl _ _ | assumption | refine Below.drew ?_ | refine bdn ?_ _ | refine bal ?_ _ | refine Below.setCell ?_ (by first | (simp; done) | omega | (simp; omega)) _))
    generalize (((w.alloc (.cells #[.int .i64 M.places, .int .i64 M.any.a0, .int .i64 M.any.a1, .int .i64 M.any.a2, .int .i64 M.any.a3, .int .i64 M.any.a4, .int .i64 M.any.a5, .bool M.any.i, .bool M.any.s, .int .i64 M.mw, .int .i64 M.ms, .int .i64 M.mc, vF, vS] 29)).alloc (.cells #[.int .i64 a, .int .i64 b, .int .i64 c, .bool ai, .bool as1] 60)).alloc (.cells #[.int .i64 d, .int .i64 e, .int .i64 f, .bool bi, .bool bs] 60)) = W at *
    have zW := bHW.lt
    have HX := Lib.hid bHX
    have HV := Lib.hid bHV
    have HW := Lib.hid bHW
    have HB := Lib.hid bHB
    clear bHX bHV bHW bHB
    have zHX := HX.out.lt
    have cHX9 := HX.out.cell 9
    have zHV := HV.out.lt
    have cHV0 := HV.out.cell 0
    have zHW := HW.out.lt
    have cHW0 := HW.out.cell 0
    go_wp2_with (first | (go_at_fn 63; (with_reducible refine (H1.out _).mono ?_); rintro e w1 ⟨rfl, hb1⟩; have nHX := Lib.hid (HX.out.below hb1); have nHV := Lib.hid (HV.out.below hb1); have nHW := Lib.hid (HW.out.below hb1); have nHB := Lib.hid (bthen HB.out hb1); clear HX HV HW HB hb1; have HX := nHX; have HV := nHV; have HW := nHW; have HB := nHB; clear nHX nHV nHW nHB; have c2 := HX.out.cell 10; have c3 := HV.out.cell 1; have d1 := HW.out.cell 1; simp only [List.getElem?_toArray, List.getElem?_cons_succ, List.getElem?_cons_zero] at c2 c3 d1) | (go_at_fn 63; (with_reducible refine (H2.out _).mono ?_); rintro e w1 ⟨rfl, hb1⟩; have nHX := Lib.hid (HX.out.below hb1); have nHV := Lib.hid (HV.out.below hb1); have nHW := Lib.hid (HW.out.below hb1); have nHB := Lib.hid (bthen HB.out hb1); clear HX HV HW HB hb1; have HX := nHX; have HV := nHV; have HW := nHW; have HB := nHB; clear nHX nHV nHW nHB; have c2 := HX.out.cell 11; have c3 := HV.out.cell 2; have d1 := HW.out.cell 2; simp only [List.getElem?_toArray, List.getElem?_cons_succ, List.getElem?_cons_zero] at c2 c3 d1) | (go_at_fn 63; (with_reducible refine (H3.out _).mono ?_); rintro e w1 ⟨rfl, hb1⟩; have nHX := Lib.hid (HX.out.below hb1); have nHV := Lib.hid (HV.out.below hb1); have nHW := Lib.hid (HW.out.below hb1); have nHB := Lib.hid (bthen HB.out hb1); clear HX HV HW HB hb1; have HX := nHX; have HV := nHV; have HW := nHW; have HB := nHB; clear nHX nHV nHW nHB))
    go_ret
    exact ⟨rfl, HB.out⟩
  · skip
    go_enter Tryz.func35, Tryz.ntmps35
    go_wp2_with (fail)
    have bHX : Blk (((w.alloc (.cells #[.int .i64 M.places, .int .i64 M.any.a0, .int .i64 M.any.a1, .int .i64 M.any.a2, .int .i64 M.any.a3, .int .i64 M.any.a4, .int .i64 M.any.a5, .bool M.any.i, .bool M.any.s, .int .i64 M.mw, .int .i64 M.ms, .int .i64 M.mc, vF, vS] 29)).alloc (.cells #[.int .i64 a, .int .i64 b, .int .i64 c, .bool ai, .bool as1] 60)).alloc (.cells #[.int .i64 d, .int .i64 e, .int .i64 f, .bool bi, .bool bs] 60)) (w.heap.size) 29 #[.int .i64 M.places, .int .i64 M.any.a0, .int .i64 M.any.a1, .int .i64 M.any.a2, .int .i64 M.any.a3, .int .i64 M.any.a4, .int .i64 M.any.a5, .bool M.any.i, .bool M.any.s, .int .i64 M.mw, .int .i64 M.ms, .int .i64 M.mc, vF, vS] := (by repeat (first | (refine Blk.newAt _ _ _ ?_; first | rfl | (simp; done)) | refine Blk.alloc ?_ _))
    have bHV : Blk (((w.alloc (.cells #[.int .i64 M.places, .int .i64 M.any.a0, .int .i64 M.any.a1, .int .i64 M.any.a2, .int .i64 M.any.a3, .int .i64 M.any.a4, .int .i64 M.any.a5, .bool M.any.i, .bool M.any.s, .int .i64 M.mw, .int .i64 M.ms, .int .i64 M.mc, vF, vS] 29)).alloc (.cells #[.int .i64 a, .int .i64 b, .int .i64 c, .bool ai, .bool as1] 60)).alloc (.cells #[.int .i64 d, .int .i64 e, .int .i64 f, .bool bi, .bool bs] 60)) (w.heap.size + 1) 60 #[.int .i64 a, .int .i64 b, .int .i64 c, .bool ai, .bool as1] := (by repeat (first | (refine Blk.newAt _ _ _ ?_; first | rfl | (simp; done)) | refine Blk.alloc ?_ _))
    have bHW : Blk (((w.alloc (.cells #[.int .i64 M.places, .int .i64 M.any.a0, .int .i64 M.any.a1, .int .i64 M.any.a2, .int .i64 M.any.a3, .int .i64 M.any.a4, .int .i64 M.any.a5, .bool M.any.i, .bool M.any.s, .int .i64 M.mw, .int .i64 M.ms, .int .i64 M.mc, vF, vS] 29)).alloc (.cells #[.int .i64 a, .int .i64 b, .int .i64 c, .bool ai, .bool as1] 60)).alloc (.cells #[.int .i64 d, .int .i64 e, .int .i64 f, .bool bi, .bool bs] 60)) (w.heap.size + 1 + 1) 60 #[.int .i64 d, .int .i64 e, .int .i64 f, .bool bi, .bool bs] := (by repeat (first | (refine Blk.newAt _ _ _ ?_; first | rfl | (simp; done)) | refine Blk.alloc ?_ _))
    have bHB : Below w.heap.size w (((w.alloc (.cells #[.int .i64 M.places, .int .i64 M.any.a0, .int .i64 M.any.a1, .int .i64 M.any.a2, .int .i64 M.any.a3, .int .i64 M.any.a4, .int .i64 M.any.a5, .bool M.any.i, .bool M.any.s, .int .i64 M.mw, .int .i64 M.ms, .int .i64 M.mc, vF, vS] 29)).alloc (.cells #[.int .i64 a, .int .i64 b, .int .i64 c, .bool ai, .bool as1] 60)).alloc (.cells #[.int .i64 d, .int .i64 e, .int .i64 f, .bool bi, .bool bs] 60)) := (by repeat' (first | exact Below.refl _ _ | assumption | refine Below.drew ?_ | refine bdn ?_ _ | refine bal ?_ _ | refine Below.setCell ?_ (by first | (simp; done) | omega | (simp; omega)) _))
    generalize (((w.alloc (.cells #[.int .i64 M.places, .int .i64 M.any.a0, .int .i64 M.any.a1, .int .i64 M.any.a2, .int .i64 M.any.a3, .int .i64 M.any.a4, .int .i64 M.any.a5, .bool M.any.i, .bool M.any.s, .int .i64 M.mw, .int .i64 M.ms, .int .i64 M.mc, vF, vS] 29)).alloc (.cells #[.int .i64 a, .int .i64 b, .int .i64 c, .bool ai, .bool as1] 60)).alloc (.cells #[.int .i64 d, .int .i64 e, .int .i64 f, .bool bi, .bool bs] 60)) = W at *
    have zW := bHW.lt
    have HX := Lib.hid bHX
    have HV := Lib.hid bHV
    have HW := Lib.hid bHW
    have HB := Lib.hid bHB
    clear bHX bHV bHW bHB
    have zHX := HX.out.lt
    have cHX9 := HX.out.cell 9
    have zHV := HV.out.lt
    have cHV0 := HV.out.cell 0
    have zHW := HW.out.lt
    have cHW0 := HW.out.cell 0
    go_wp2_with (first | (go_at_fn 63; (with_reducible refine (H1.out _).mono ?_); rintro e w1 ⟨rfl, hb1⟩; have nHX := Lib.hid (HX.out.below hb1); have nHV := Lib.hid (HV.out.below hb1); have nHW := Lib.hid (HW.out.below hb1); have nHB := Lib.hid (bthen HB.out hb1); clear HX HV HW HB hb1; have HX := nHX; have HV := nHV; have HW := nHW; have HB := nHB; clear nHX nHV nHW nHB; have c2 := HX.out.cell 10; have c3 := HV.out.cell 1; have d1 := HW.out.cell 1; simp only [List.getElem?_toArray, List.getElem?_cons_succ, List.getElem?_cons_zero] at c2 c3 d1) | (go_at_fn 63; (with_reducible refine (H2.out _).mono ?_); rintro e w1 ⟨rfl, hb1⟩; have nHX := Lib.hid (HX.out.below hb1); have nHV := Lib.hid (HV.out.below hb1); have nHW := Lib.hid (HW.out.below hb1); have nHB := Lib.hid (bthen HB.out hb1); clear HX HV HW HB hb1; have HX := nHX; have HV := nHV; have HW := nHW; have HB := nHB; clear nHX nHV nHW nHB; have c2 := HX.out.cell 11; have c3 := HV.out.cell 2; have d1 := HW.out.cell 2; simp only [List.getElem?_toArray, List.getElem?_cons_succ, List.getElem?_cons_zero] at c2 c3 d1) | (go_at_fn 63; (with_reducible refine (H3.out _).mono ?_); rintro e w1 ⟨rfl, hb1⟩; have nHX := Lib.hid (HX.out.below hb1); have nHV := Lib.hid (HV.out.below hb1); have nHW := Lib.hid (HW.out.below hb1); have nHB := Lib.hid (bthen HB.out hb1); clear HX HV HW HB hb1; have HX := nHX; have HV := nHV; have HW := nHW; have HB := nHB; clear nHX nHV nHW nHB))
    go_ret
    exact ⟨rfl, HB.out⟩
theorem real1_c (a b c : Int) (i s : Bool) (w : World) : Calls Tryz.prog 31 #[.agg #[.int .i64 a, .int .i64 b, .int .i64 c, .bool i, .bool s]] w fun e w' => e = .returned (.bool (!wvB a b c)) ∧ Below w.heap.size w w' := by
  have h1 := fun w1 => only_c a b c i s w1
  have h2 : ∀ w1, Calls Tryz.prog 32 #[.agg #[.int .i64 a, .int .i64 a, .int .i64 b, .int .i64 b, .int .i64 c, .int .i64 c, .bool i, .bool s]] w1 fun e w' => e = .returned (.bool (wvB a b c)) ∧ Below w1.heap.size w1 w' := fun w1 => by
    have := sky_c ⟨a, a, b, b, c, c, i, s⟩ w1
    rw [show (Sk.mk a a b b c c i s).inr = wvB a b c from wvB_inr] at this
    exact this
  generalize wvB a b c = V at *
  have H1 := Lib.hid h1
  have H2 := Lib.hid h2
  clear h1 h2
  go_enter Tryz.func31, Tryz.ntmps31
  go_wp2_with (fail)
  have bHX : Blk (w.alloc (.cells #[.int .i64 a, .int .i64 b, .int .i64 c, .bool i, .bool s] 60)) (w.heap.size) 60 #[.int .i64 a, .int .i64 b, .int .i64 c, .bool i, .bool s] := (by repeat (first | (refine Blk.newAt _ _ _ ?_; first | rfl | (simp; done)) | refine Blk.alloc ?_ _))
  have bHB : Below w.heap.size w (w.alloc (.cells #[.int .i64 a, .int .i64 b, .int .i64 c, .bool i, .bool s] 60)) := (by repeat' (first | exact Below.refl _ _ | assumption | refine Below.drew ?_ | refine bdn ?_ _ | refine bal ?_ _ | refine Below.setCell ?_ (by first | (simp; done) | omega | (simp; omega)) _))
  generalize (w.alloc (.cells #[.int .i64 a, .int .i64 b, .int .i64 c, .bool i, .bool s] 60)) = W at *
  have zW := bHX.lt
  have HX := Lib.hid bHX
  have HB := Lib.hid bHB
  clear bHX bHB
  have zHX := HX.out.lt
  have cHX0 := HX.out.cell 0
  have cHX1 := HX.out.cell 1
  have cHX2 := HX.out.cell 2
  have cHX3 := HX.out.cell 3
  have cHX4 := HX.out.cell 4
  go_wp2_with (first | (go_at_call 33; (with_reducible refine (H1.out _).mono ?_); rintro e w1 ⟨rfl, hb1⟩; have nHX := Lib.hid (HX.out.below hb1); have nHB := Lib.hid (bthen HB.out hb1); have zz1 := hb1.size; clear HX HB hb1; have HX := nHX; have HB := nHB; clear nHX nHB) | (go_at_call 32; (with_reducible refine (H2.out _).mono ?_); rintro e w1 ⟨rfl, hb1⟩; have nHX := Lib.hid (HX.out.below hb1); have nHB := Lib.hid (bthen HB.out hb1); have zz1 := hb1.size; clear HX HB hb1; have HX := nHX; have HB := nHB; clear nHX nHB))
  go_ret
  exact ⟨rfl, HB.out⟩
end Go.Proofs.YtfcjblnebaemgaaGreat

namespace Go.Proofs.YtfcjblnebaemgaaGreat
open Go Go.RowKit Go.Proofs
set_option maxRecDepth 100000
set_option maxHeartbeats 8000000
/-- From weather i on, k more: is each one possible, and may it follow the one before? -/
def realR (M : MetD) (p f : Int) (G : Nat → Nat → Int) (H : Nat → Nat → Bool) : Nat → Nat → Int × Bool
  | 0, _ => (0, true)
  | k + 1, i => if hasB (M.may p (f + i)) (G i 0) (G i 1) (G i 2) (H i 3) (H i 4) && (decide (i = 0) || folB M (G (i - 1) 0) (G (i - 1) 1) (G (i - 1) 2) (G i 0) (G i 1) (G i 2)) then realR M p f G H k (i + 1) else (f + i, false)
def wvA (n : Nat) (G : Nat → Nat → Int) : Bool := (List.range n).any fun i => !wvB (G i 0) (G i 1) (G i 2)
def realE (M : MetD) (p f : Int) (n : Nat) (G : Nat → Nat → Int) : Int := if atE M p f = 0 then (if 2000 < f + n - 1 then 2 else if wvA n G then 42 else 0) else atE M p f
def realV (M : MetD) (p f : Int) (n : Nat) (G : Nat → Nat → Int) (H : Nat → Nat → Bool) : Int × Bool := if realE M p f n G = 0 then realR M p f G H n 0 else (0, false)
theorem wes_at {w : World} {A : Option Addr} {n : Nat} {G : Nat → Nat → Int} {H : Nat → Nat → Bool} (h : RecsAt w A n 5 (weV G H)) : WesAt w A n G H := by
  intro hn
  obtain ⟨b, off, e, hb, hc⟩ := h hn
  exact ⟨b, off, e, hb, fun k hk => ⟨hc k hk 0 (by omega), hc k hk 1 (by omega), hc k hk 2 (by omega), hc k hk 3 (by omega), hc k hk 4 (by omega)⟩⟩
theorem cfReal_c (A : Option Addr) (n c : Nat) (G : Nat → Nat → Int) (H : Nat → Nat → Bool) (w : World) (hn : n ≤ 100) (h : RecsAt w A n 5 (weV G H)) :
   Calls Tryz.prog 30 #[.slice A n c, .func (.func 31) #[] #[]] w fun e w' => e = .returned (.bool (wvA n G)) ∧ Below w.heap.size w w' :=
  cfWe_c A n c G H 31 #[] (fun i => !wvB (G i 0) (G i 1) (G i 2)) w (by omega) Tryz.entR (wes_at h) (fun w1 k hk hb => real1_c _ _ _ _ _ w1)
section
variable {P : Program} {ops : Array Oper} {rest : List Oper} {o : Oper} {a : Act} {w : World}
theorem wpq_row_g {C : World → Prop} {Q : Act → Prop} (hgd : Region.wanted o (yielded ops a.tmps) = true) (ty : TypeId) (x : Operand) (ho : o.op = .load ty x)
    (g : Nat) (hx : a.eval x = .pointer (some ⟨g, 0, none⟩)) (cs : Array Value) (n : Nat) (hB : ∀ w, C w → w.heap[g]? = some (.cells cs ty (0, 0)))
    (hr : RowTy P ty n) (hn : cs.size = n)
    (h : wpQuiet P ops C Q rest (a.put o.dst (.agg cs))) : wpQuiet P ops C Q (o :: rest) a := by
  obtain ⟨hu, hi⟩ := hr
  cases hd : P.underlying ty with
  | none => rw [hd] at hu; cases hu
  | some d =>
  rw [hd] at hu
  refine wpQuiet_step fun K hK => ?_
  simp only [hgd, if_true]
  refine ⟨.agg cs, fun w' hw' => ?_, hK _ h⟩
  unfold Oper.quietAt execOp
  simp only [ho, hx, Instr.loadAt, Instr.sureAddr, Sem.run_bind, Sem.run_pure, Result.andThen_ok, run_loadVar_row w' g ty ty cs (0, 0) d (hB w' hw') hd (by cases d <;> first | rfl | (simp at hu)) (by rw [hi, hn])]
  exact ⟨rfl, rfl⟩
end
/-- What the loop keeps. -/
structure ReK (M : MetD) (vF vS : Value) (w wr : World) : Prop where
  b : Below w.heap.size w wr
  m : Blk wr w.heap.size 29 #[.int .i64 M.places, .int .i64 M.any.a0, .int .i64 M.any.a1, .int .i64 M.any.a2, .int .i64 M.any.a3, .int .i64 M.any.a4, .int .i64 M.any.a5, .bool M.any.i, .bool M.any.s, .int .i64 M.mw, .int .i64 M.ms, .int .i64 M.mc, vF, vS]
theorem ReK.grow {M : MetD} {vF vS : Value} {w wr w2 : World} (h : ReK M vF vS w wr) (hb : Below wr.heap.size wr w2) : ReK M vF vS w w2 := ⟨bthen h.b hb, h.m.below hb⟩
-- done
theorem Real_c (M : MetD) (vF vS : Value) (p f : Int) (A : Option Addr) (n c : Nat) (G : Nat → Nat → Int) (H : Nat → Nat → Bool) (w : World) (hA : MetAt w vF vS M) (hn : n ≤ 100) (hL : RecsAt w A n 5 (weV G H)) :
   Calls Tryz.prog 12 #[.agg #[.int .i64 M.places, .int .i64 M.any.a0, .int .i64 M.any.a1, .int .i64 M.any.a2, .int .i64 M.any.a3, .int .i64 M.any.a4, .int .i64 M.any.a5, .bool M.any.i, .bool M.any.s, .int .i64 M.mw, .int .i64 M.ms, .int .i64 M.mc, vF, vS], .int .i64 p, .int .i64 f, .slice A n c] w fun e w' => e = .returned (.tuple #[.int .i64 (realV M p f n G H).1, .bool (realV M p f n G H).2, .int .i64 (realE M p f n G)]) ∧ Below w.heap.size w w' := by
  have HA := Lib.hid hA
  have HL := Lib.hid hL
  have hat := fun w1 h => wcheckAt_c M vF vS p f f w1 h
  have HCF := Lib.hid (fun w1 h => cfReal_c A n c G H w1 hn h)
  clear hA hL
  unfold realV realE
  by_cases he : atE M p f = 0
  · obtain ⟨hM, hf0, hf1⟩ := atE_ok he
    have HM := Lib.hid hM
    rw [he] at hat ⊢
    have HAT := Lib.hid hat
    clear hat he hM
    rw [if_pos rfl]
    by_cases hmany : 2000 < f + n - 1
    · rw [if_pos hmany, if_neg (by decide)]
      go_enter Tryz.func12, Tryz.ntmps12
      go_wp2_with (fail)
      have bHX : Blk (w.alloc (.cells #[.int .i64 M.places, .int .i64 M.any.a0, .int .i64 M.any.a1, .int .i64 M.any.a2, .int .i64 M.any.a3, .int .i64 M.any.a4, .int .i64 M.any.a5, .bool M.any.i, .bool M.any.s, .int .i64 M.mw, .int .i64 M.ms, .int .i64 M.mc, vF, vS] 29)) (w.heap.size) 29 #[.int .i64 M.places, .int .i64 M.any.a0, .int .i64 M.any.a1, .int .i64 M.any.a2, .int .i64 M.any.a3, .int .i64 M.any.a4, .int .i64 M.any.a5, .bool M.any.i, .bool M.any.s, .int .i64 M.mw, .int .i64 M.ms, .int .i64 M.mc, vF, vS] := (by repeat (first | (refine Blk.newAt _ _ _ ?_; first | rfl | (simp; done)) | refine Blk.alloc ?_ _))
      have bHB : Below w.heap.size w (w.alloc (.cells #[.int .i64 M.places, .int .i64 M.any.a0, .int .i64 M.any.a1, .int .i64 M.any.a2, .int .i64 M.any.a3, .int .i64 M.any.a4, .int .i64 M.any.a5, .bool M.any.i, .bool M.any.s, .int .i64 M.mw, .int .i64 M.ms, .int .i64 M.mc, vF, vS] 29)) := (by repeat' (first | exact Below.refl _ _ | assumption | refine Below.drew ?_ | refine bdn ?_ _ | refine bal ?_ _ | refine Below.setCell ?_ (by first | (simp; done) | omega | (simp; omega)) _))
      generalize (w.alloc (.cells #[.int .i64 M.places, .int .i64 M.any.a0, .int .i64 M.any.a1, .int .i64 M.any.a2, .int .i64 M.any.a3, .int .i64 M.any.a4, .int .i64 M.any.a5, .bool M.any.i, .bool M.any.s, .int .i64 M.mw, .int .i64 M.ms, .int .i64 M.mc, vF, vS] 29)) = W at *
      have zW := bHX.lt
      have HX := Lib.hid bHX
      have HB := Lib.hid bHB
      clear bHX bHB
      have hM2 := Lib.hid (fun r : After _ => HX.out.below r.below)
      have hA2 := Lib.hid (fun r : After _ => (HA.out.below HB.out).below r.below)
      refine wp_region_aftert 5 (by kernel_rfl) (by kernel_rfl) ?_
      simp only [List.take_succ_cons, List.take_zero, List.drop_succ_cons, List.drop_zero]
      refine wpq_row rfl 29 _ rfl _ rfl _ 14 (fun _ hw => by obtain ⟨r, rfl⟩ := hw; exact hM2.out r) Tryz.rowMet rfl ?_
      simp only [Act.put, List.setIfInBounds_toArray, List.set_cons_succ, List.set_cons_zero]
      iterate 2 (go_big_quiet_step (fail))
      go_big_quiet_step (first | (go_at_call 29; (with_reducible refine qafter (wat_c _ _ _))))
      go_big_quiet_step (first | (go_at_call 28; (with_reducible refine qafter (HAT.out _ (hA2.out _)))))
      refine wpQuiet_nil ?_
      rintro _ ⟨r, rfl⟩
      have BR := r.below
      clear hM2 hA2
      generalize r.w = wr at *
      have nHX := Lib.hid (HX.out.below BR)
      have nHB := Lib.hid (bthen HB.out BR)
      clear HX HB BR
      have HX := nHX
      have HB := nHB
      clear nHX nHB
      go_wp2_with (fail)
      go_ret3
      exact ⟨rfl, HB.out⟩
    rw [if_neg hmany]
    cases hw : wvA n G
    case true =>
      rw [hw] at HCF
      rw [if_pos rfl, if_neg (by decide)]
      go_enter Tryz.func12, Tryz.ntmps12
      go_wp2_with (fail)
      have bHX : Blk (w.alloc (.cells #[.int .i64 M.places, .int .i64 M.any.a0, .int .i64 M.any.a1, .int .i64 M.any.a2, .int .i64 M.any.a3, .int .i64 M.any.a4, .int .i64 M.any.a5, .bool M.any.i, .bool M.any.s, .int .i64 M.mw, .int .i64 M.ms, .int .i64 M.mc, vF, vS] 29)) (w.heap.size) 29 #[.int .i64 M.places, .int .i64 M.any.a0, .int .i64 M.any.a1, .int .i64 M.any.a2, .int .i64 M.any.a3, .int .i64 M.any.a4, .int .i64 M.any.a5, .bool M.any.i, .bool M.any.s, .int .i64 M.mw, .int .i64 M.ms, .int .i64 M.mc, vF, vS] := (by repeat (first | (refine Blk.newAt _ _ _ ?_; first | rfl | (simp; done)) | refine Blk.alloc ?_ _))
      have bHB : Below w.heap.size w (w.alloc (.cells #[.int .i64 M.places, .int .i64 M.any.a0, .int .i64 M.any.a1, .int .i64 M.any.a2, .int .i64 M.any.a3, .int .i64 M.any.a4, .int .i64 M.any.a5, .bool M.any.i, .bool M.any.s, .int .i64 M.mw, .int .i64 M.ms, .int .i64 M.mc, vF, vS] 29)) := (by repeat' (first | exact Below.refl _ _ | assumption | refine Below.drew ?_ | refine bdn ?_ _ | refine bal ?_ _ | refine Below.setCell ?_ (by first | (simp; done) | omega | (simp; omega)) _))
      generalize (w.alloc (.cells #[.int .i64 M.places, .int .i64 M.any.a0, .int .i64 M.any.a1, .int .i64 M.any.a2, .int .i64 M.any.a3, .int .i64 M.any.a4, .int .i64 M.any.a5, .bool M.any.i, .bool M.any.s, .int .i64 M.mw, .int .i64 M.ms, .int .i64 M.mc, vF, vS] 29)) = W at *
      have zW := bHX.lt
      have HX := Lib.hid bHX
      have HB := Lib.hid bHB
      clear bHX bHB
      have hM2 := Lib.hid (fun r : After _ => HX.out.below r.below)
      have hA2 := Lib.hid (fun r : After _ => (HA.out.below HB.out).below r.below)
      refine wp_region_aftert 5 (by kernel_rfl) (by kernel_rfl) ?_
      simp only [List.take_succ_cons, List.take_zero, List.drop_succ_cons, List.drop_zero]
      refine wpq_row rfl 29 _ rfl _ rfl _ 14 (fun _ hw => by obtain ⟨r, rfl⟩ := hw; exact hM2.out r) Tryz.rowMet rfl ?_
      simp only [Act.put, List.setIfInBounds_toArray, List.set_cons_succ, List.set_cons_zero]
      iterate 2 (go_big_quiet_step (fail))
      go_big_quiet_step (first | (go_at_call 29; (with_reducible refine qafter (wat_c _ _ _))))
      go_big_quiet_step (first | (go_at_call 28; (with_reducible refine qafter (HAT.out _ (hA2.out _)))))
      refine wpQuiet_nil ?_
      rintro _ ⟨r, rfl⟩
      have BR := r.below
      clear hM2 hA2
      generalize r.w = wr at *
      have nHX := Lib.hid (HX.out.below BR)
      have nHB := Lib.hid (bthen HB.out BR)
      clear HX HB BR
      have HX := nHX
      have HB := nHB
      clear nHX nHB
      go_wp2_with (first | (go_at_call 30; (with_reducible refine (HCF.out _ (HL.out.below HB.out)).mono ?_); rintro e w1 ⟨rfl, hb1⟩; have nHX := Lib.hid (HX.out.below hb1); have nHB := Lib.hid (bthen HB.out hb1); have zz1 := hb1.size; clear HX HB hb1; have HX := nHX; have HB := nHB; clear nHX nHB))
      go_ret3
      exact ⟨rfl, HB.out⟩
    rw [hw] at HCF
    rw [show (if false = true then (42 : Int) else 0) = 0 from rfl, if_pos rfl]
    have HWV := Lib.hid (show ∀ i, i < n → wvB (G i 0) (G i 1) (G i 2) = true from fun i hi => by
      unfold wvA at hw
      have := List.any_eq_false.1 hw i (List.mem_range.2 hi)
      simpa using this)
    clear hw
    obtain ⟨R, hR⟩ : ∃ q, q = realR M p f G H n 0 := ⟨_, rfl⟩
    rw [← hR]
    have HR := Lib.hid hR
    clear hR
    go_enter Tryz.func12, Tryz.ntmps12
    go_wp2_with (fail)
    have bHX : Blk (w.alloc (.cells #[.int .i64 M.places, .int .i64 M.any.a0, .int .i64 M.any.a1, .int .i64 M.any.a2, .int .i64 M.any.a3, .int .i64 M.any.a4, .int .i64 M.any.a5, .bool M.any.i, .bool M.any.s, .int .i64 M.mw, .int .i64 M.ms, .int .i64 M.mc, vF, vS] 29)) (w.heap.size) 29 #[.int .i64 M.places, .int .i64 M.any.a0, .int .i64 M.any.a1, .int .i64 M.any.a2, .int .i64 M.any.a3, .int .i64 M.any.a4, .int .i64 M.any.a5, .bool M.any.i, .bool M.any.s, .int .i64 M.mw, .int .i64 M.ms, .int .i64 M.mc, vF, vS] := (by repeat (first | (refine Blk.newAt _ _ _ ?_; first | rfl | (simp; done)) | refine Blk.alloc ?_ _))
    have bHB : Below w.heap.size w (w.alloc (.cells #[.int .i64 M.places, .int .i64 M.any.a0, .int .i64 M.any.a1, .int .i64 M.any.a2, .int .i64 M.any.a3, .int .i64 M.any.a4, .int .i64 M.any.a5, .bool M.any.i, .bool M.any.s, .int .i64 M.mw, .int .i64 M.ms, .int .i64 M.mc, vF, vS] 29)) := (by repeat' (first | exact Below.refl _ _ | assumption | refine Below.drew ?_ | refine bdn ?_ _ | refine bal ?_ _ | refine Below.setCell ?_ (by first | (simp; done) | omega | (simp; omega)) _))
    generalize (w.alloc (.cells #[.int .i64 M.places, .int .i64 M.any.a0, .int .i64 M.any.a1, .int .i64 M.any.a2, .int .i64 M.any.a3, .int .i64 M.any.a4, .int .i64 M.any.a5, .bool M.any.i, .bool M.any.s, .int .i64 M.mw, .int .i64 M.ms, .int .i64 M.mc, vF, vS] 29)) = W at *
    have zW := bHX.lt
    have HX := Lib.hid bHX
    have HB := Lib.hid bHB
    clear bHX bHB
    have hM2 := Lib.hid (fun r : After _ => HX.out.below r.below)
    have hA2 := Lib.hid (fun r : After _ => (HA.out.below HB.out).below r.below)
    refine wp_region_aftert 5 (by kernel_rfl) (by kernel_rfl) ?_
    simp only [List.take_succ_cons, List.take_zero, List.drop_succ_cons, List.drop_zero]
    refine wpq_row rfl 29 _ rfl _ rfl _ 14 (fun _ hw => by obtain ⟨r, rfl⟩ := hw; exact hM2.out r) Tryz.rowMet rfl ?_
    simp only [Act.put, List.setIfInBounds_toArray, List.set_cons_succ, List.set_cons_zero]
    iterate 2 (go_big_quiet_step (fail))
    go_big_quiet_step (first | (go_at_call 29; (with_reducible refine qafter (wat_c _ _ _))))
    go_big_quiet_step (first | (go_at_call 28; (with_reducible refine qafter (HAT.out _ (hA2.out _)))))
    refine wpQuiet_nil ?_
    rintro _ ⟨r, rfl⟩
    have BR := r.below
    clear hM2 hA2
    generalize r.w = wr at *
    have nHX := Lib.hid (HX.out.below BR)
    have nHB := Lib.hid (bthen HB.out BR)
    clear HX HB BR
    have HX := nHX
    have HB := nHB
    clear nHX nHB
    go_wp2_with (first | (go_at_call 30; (with_reducible refine (HCF.out _ (HL.out.below HB.out)).mono ?_); rintro e w1 ⟨rfl, hb1⟩; have nHX := Lib.hid (HX.out.below hb1); have nHB := Lib.hid (bthen HB.out hb1); have zz1 := hb1.size; clear HX HB hb1; have HX := nHX; have HB := nHB; clear nHX nHB))
    have K0 := Lib.hid (show ReK M vF vS w _ from ⟨HB.out, HX.out⟩)
    clear HX HB HCF HAT
    go_loopg [34] n (fun gx i wr => ∃ k : Nat, i = .int .i64 k ∧ k ≤ n ∧ n - k ≤ gx ∧ Hid (ReK M vF vS w wr) ∧ Hid (realR M p f G H (n - k) k = R))
    case atStart => exact ⟨0, rfl, Nat.zero_le _, Nat.le_refl _, K0, HR.out.symm⟩
    case round =>
      clear K0
      obtain ⟨k, rfl, hk, hgx, K0, HE⟩ := hrel
      by_cases hlt : k < n
      · have hltz : (k : Int) < (n : Int) := by omega
        obtain ⟨bw, off, rfl, hbw, hcell⟩ := HL.out (by omega)
        have c0 : wr.cell? ⟨bw, off + k * 5, none⟩ = some (.int .i64 (G k 0)) := (K0.out.b.cell (p := ⟨bw, off + k * 5 + 0, none⟩) hbw).trans (hcell k (by omega) 0 (by omega))
        have c1 : wr.cell? ⟨bw, off + k * 5 + 1, none⟩ = some (.int .i64 (G k 1)) := (K0.out.b.cell (p := ⟨bw, off + k * 5 + 1, none⟩) hbw).trans (hcell k (by omega) 1 (by omega))
        have c2 : wr.cell? ⟨bw, off + k * 5 + 2, none⟩ = some (.int .i64 (G k 2)) := (K0.out.b.cell (p := ⟨bw, off + k * 5 + 2, none⟩) hbw).trans (hcell k (by omega) 2 (by omega))
        have c3 : wr.cell? ⟨bw, off + k * 5 + 3, none⟩ = some (.bool (H k 3)) := (K0.out.b.cell (p := ⟨bw, off + k * 5 + 3, none⟩) hbw).trans (hcell k (by omega) 3 (by omega))
        have c4 : wr.cell? ⟨bw, off + k * 5 + 4, none⟩ = some (.bool (H k 4)) := (K0.out.b.cell (p := ⟨bw, off + k * 5 + 4, none⟩) hbw).trans (hcell k (by omega) 4 (by omega))
        have HCE := Lib.hid hcell
        clear hcell
        have hE := HE.out
        rw [show n - k = (n - (k + 1)) + 1 by omega] at hE
        unfold realR at hE
        have hm := fun w1 h => may_c M vF vS p (f + k) w1 HM.out h (by omega) (by omega)
        obtain ⟨a0, a1, a2, a3, a4, a5, xi, xs, hY⟩ : ∃ a0 a1 a2 a3 a4 a5 xi xs, M.may p (f + k) = ⟨a0, a1, a2, a3, a4, a5, xi, xs⟩ := ⟨_, _, _, _, _, _, _, _, rfl⟩
        have hh := fun w1 => has_c (M.may p (f + k)) (G k 0) (G k 1) (G k 2) (H k 3) (H k 4) w1
        generalize hasB (M.may p (f + k)) (G k 0) (G k 1) (G k 2) (H k 3) (H k 4) = HH at *
        rw [hY] at hm hh
        dsimp only [Sk.cells] at hm hh
        have HMY := Lib.hid hm
        have HHS := Lib.hid hh
        have HE2 := Lib.hid hE
        clear hm hh hE HE hY HR
        go_wp2_with (first | (refine wpl_row rfl 29 (.tmp 4) rfl _ rfl #[.int .i64 M.places, .int .i64 M.any.a0, .int .i64 M.any.a1, .int .i64 M.any.a2, .int .i64 M.any.a3, .int .i64 M.any.a4, .int .i64 M.any.a5, .bool M.any.i, .bool M.any.s, .int .i64 M.mw, .int .i64 M.ms, .int .i64 M.mc, vF, vS] 14 ?_ Tryz.rowMet rfl ?_; (focus exact K0.out.m.alloc _); simp only [Act.put]))
        have HW := Lib.hid (Blk.new wr 60 #[.int .i64 (G k 0), .int .i64 (G k 1), .int .i64 (G k 2), .bool (H k 3), .bool (H k 4)])
        have HX := Lib.hid (K0.out.m.alloc (.cells #[.int .i64 (G k 0), .int .i64 (G k 1), .int .i64 (G k 2), .bool (H k 3), .bool (H k 4)] 60))
        have HB := Lib.hid (bal K0.out.b (.cells #[.int .i64 (G k 0), .int .i64 (G k 1), .int .i64 (G k 2), .bool (H k 3), .bool (H k 4)] 60))
        generalize wr.alloc (.cells #[.int .i64 (G k 0), .int .i64 (G k 1), .int .i64 (G k 2), .bool (H k 3), .bool (H k 4)] 60) = w1 at *
        have hgW : wr.heap.size < w1.heap.size := HW.out.lt
        generalize hgz : wr.heap.size = gW at *
        clear hgz c0 c1 c2 c3 c4
        refine (HMY.out _ (HA.out.below HB.out)).mono ?_
        rintro e w1 ⟨v, ys, rfl, hb1, -, -⟩
        have nHX := Lib.hid (HX.out.below hb1)
        have nHW := Lib.hid (HW.out.below hb1)
        have nHB := Lib.hid (bthen HB.out hb1)
        clear HX HW HB hb1
        have HX := nHX
        have HW := nHW
        have HB := nHB
        clear nHX nHW nHB
        go_wp2_with (fail)
        have bHS := Blk.new w1 55 #[.int .i64 a0, .int .i64 a1, .int .i64 a2, .int .i64 a3, .int .i64 a4, .int .i64 a5, .bool xi, .bool xs]
        have nHX := Lib.hid (HX.out.alloc (.cells #[.int .i64 a0, .int .i64 a1, .int .i64 a2, .int .i64 a3, .int .i64 a4, .int .i64 a5, .bool xi, .bool xs] 55))
        have nHW := Lib.hid (HW.out.alloc (.cells #[.int .i64 a0, .int .i64 a1, .int .i64 a2, .int .i64 a3, .int .i64 a4, .int .i64 a5, .bool xi, .bool xs] 55))
        have nHB := Lib.hid (bal HB.out (.cells #[.int .i64 a0, .int .i64 a1, .int .i64 a2, .int .i64 a3, .int .i64 a4, .int .i64 a5, .bool xi, .bool xs] 55))
        clear HX HW HB
        have HX := nHX
        have HW := nHW
        have HB := nHB
        clear nHX nHW nHB
        generalize w1.alloc (.cells #[.int .i64 a0, .int .i64 a1, .int .i64 a2, .int .i64 a3, .int .i64 a4, .int .i64 a5, .bool xi, .bool xs] 55) = W2 at *
        generalize w1.heap.size = gHS at *
        have HS := Lib.hid bHS
        clear bHS
        have hS2 := Lib.hid (fun r : After W2 => HS.out.below r.below)
        have hW2 := Lib.hid (fun r : After W2 => HW.out.below r.below)
        have hX2 := Lib.hid (fun r : After W2 => HX.out.below r.below)
        refine wp_region_after (by kernel_rfl) (by kernel_rfl) ?_
        refine wpq_row rfl 55 _ rfl _ rfl _ 8 (fun _ hw => by obtain ⟨r, rfl⟩ := hw; exact hS2.out r) Tryz.rowSet rfl ?_
        simp only [Act.put, List.setIfInBounds_toArray, List.set_cons_succ, List.set_cons_zero]
        refine wpq_row rfl 60 _ rfl _ rfl _ 5 (fun _ hw => by obtain ⟨r, rfl⟩ := hw; exact hW2.out r) Tryz.rowWe rfl ?_
        simp only [Act.put, List.setIfInBounds_toArray, List.set_cons_succ, List.set_cons_zero]
        cases HH
        case false =>
          have HR2 := Lib.hid (show (f + k, false) = R from HE2.out)
          clear HE2
          iterate 17 (go_big_quiet_step (first | (go_at_call 34; (with_reducible refine qafter (HHS.out _)))))
          refine wpQuiet_nil ?_
          rintro _ ⟨⟨w1, hb1⟩, rfl⟩
          clear hS2 hW2 hX2
          have nHX := Lib.hid (HX.out.below hb1)
          have nHW := Lib.hid (HW.out.below hb1)
          have nHB := Lib.hid (bthen HB.out hb1)
          clear HX HW HB hb1
          have HX := nHX
          have HW := nHW
          have HB := nHB
          clear nHX nHW nHB
          go_wp2_with (fail)
          go_ret3
          exact ⟨by rw [← HR2.out]; first | rfl | go_num, HB.out⟩
        case true =>
          rcases k with _ | j
          · have HE3 := Lib.hid (show realR M p f G H (n - (0 + 1)) (0 + 1) = R from HE2.out)
            clear HE2
            iterate 17 (go_big_quiet_step (first | (go_at_call 34; (with_reducible refine qafter (HHS.out _)))))
            refine wpQuiet_nil ?_
            rintro _ ⟨⟨w1, hb1⟩, rfl⟩
            clear hS2 hW2 hX2
            have nHX := Lib.hid (HX.out.below hb1)
            have nHW := Lib.hid (HW.out.below hb1)
            have nHB := Lib.hid (bthen HB.out hb1)
            clear HX HW HB hb1
            have HX := nHX
            have HW := nHW
            have HB := nHB
            clear nHX nHW nHB
            go_wp2_with (fail)
            go_roundg (n - (0 + 1))
            case measure => omega
            case rel => exact ⟨0 + 1, by first | rfl | go_num | (congr 1; omega), by omega, Nat.le_refl _, Lib.hid ⟨HB.out, HX.out⟩, HE3⟩
          · have hE3 := HE2.out
            rw [show decide (j + 1 = 0) = false from rfl, Bool.true_and, Bool.false_or, show j + 1 - 1 = j from rfl] at hE3
            have hfo := fun w1 => follows_c M vF vS (G j 0) (G j 1) (G j 2) (H j 3) (H j 4) (G (j + 1) 0) (G (j + 1) 1) (G (j + 1) 2) (H (j + 1) 3) (H (j + 1) 4) w1 (HWV.out j (by omega)) (HWV.out (j + 1) hlt)
            generalize folB M (G j 0) (G j 1) (G j 2) (G (j + 1) 0) (G (j + 1) 1) (G (j + 1) 2) = F at *
            have HFO := Lib.hid hfo
            have a10 : ∀ r : After W2, r.w.cell? ⟨bw, off + j * 5, none⟩ = some (.int .i64 (G j 0)) := fun (r : After W2) => ((bthen HB.out r.below).cell (p := ⟨bw, off + j * 5 + 0, none⟩) hbw).trans (HCE.out j (by omega) 0 (by omega))
            have a11 : ∀ r : After W2, r.w.cell? ⟨bw, off + j * 5 + 1, none⟩ = some (.int .i64 (G j 1)) := fun (r : After W2) => ((bthen HB.out r.below).cell (p := ⟨bw, off + j * 5 + 1, none⟩) hbw).trans (HCE.out j (by omega) 1 (by omega))
            have a12 : ∀ r : After W2, r.w.cell? ⟨bw, off + j * 5 + 2, none⟩ = some (.int .i64 (G j 2)) := fun (r : After W2) => ((bthen HB.out r.below).cell (p := ⟨bw, off + j * 5 + 2, none⟩) hbw).trans (HCE.out j (by omega) 2 (by omega))
            have a13 : ∀ r : After W2, r.w.cell? ⟨bw, off + j * 5 + 3, none⟩ = some (.bool (H j 3)) := fun (r : After W2) => ((bthen HB.out r.below).cell (p := ⟨bw, off + j * 5 + 3, none⟩) hbw).trans (HCE.out j (by omega) 3 (by omega))
            have a14 : ∀ r : After W2, r.w.cell? ⟨bw, off + j * 5 + 4, none⟩ = some (.bool (H j 4)) := fun (r : After W2) => ((bthen HB.out r.below).cell (p := ⟨bw, off + j * 5 + 4, none⟩) hbw).trans (HCE.out j (by omega) 4 (by omega))
            have HE3 := Lib.hid hE3
            clear hfo hE3 HE2
            have hj0 : (0 : Int) < ((j + 1 : Nat) : Int) := by omega
            iterate 6 (go_big_quiet_step (first | (go_at_call 34; (with_reducible refine qafter (HHS.out _)))))
            refine wpq_row_g rfl 29 _ rfl _ rfl _ 14 (fun _ hw => by obtain ⟨r, rfl⟩ := hw; exact hX2.out r) Tryz.rowMet rfl ?_
            simp only [Act.put, List.setIfInBounds_toArray, List.set_cons_succ, List.set_cons_zero]
            iterate 5 (go_big_quiet_step (fail))
            refine wpq_row_g rfl 60 _ rfl _ rfl _ 5 (fun _ hw => by obtain ⟨r, rfl⟩ := hw; exact hW2.out r) Tryz.rowWe rfl ?_
            simp only [Act.put, List.setIfInBounds_toArray, List.set_cons_succ, List.set_cons_zero]
            cases F
            case false =>
              have HR2 := Lib.hid (show (f + ((j + 1 : Nat) : Int), false) = R from HE3.out)
              clear HE3
              iterate 4 (go_big_quiet_step (first | (go_at_call 35; (with_reducible refine qafter (HFO.out _)))))
              refine wpQuiet_nil ?_
              rintro _ ⟨⟨w1, hb1⟩, rfl⟩
              clear hS2 hW2 hX2 a10 a11 a12 a13 a14
              have nHX := Lib.hid (HX.out.below hb1)
              have nHW := Lib.hid (HW.out.below hb1)
              have nHB := Lib.hid (bthen HB.out hb1)
              clear HX HW HB hb1
              have HX := nHX
              have HW := nHW
              have HB := nHB
              clear nHX nHW nHB
              go_wp2_with (fail)
              go_ret3
              exact ⟨by rw [← HR2.out]; first | rfl | go_num, HB.out⟩
            case true =>
              have HR2 := Lib.hid (show realR M p f G H (n - (j + 1 + 1)) (j + 1 + 1) = R from HE3.out)
              clear HE3
              iterate 4 (go_big_quiet_step (first | (go_at_call 35; (with_reducible refine qafter (HFO.out _)))))
              refine wpQuiet_nil ?_
              rintro _ ⟨⟨w1, hb1⟩, rfl⟩
              clear hS2 hW2 hX2 a10 a11 a12 a13 a14
              have nHX := Lib.hid (HX.out.below hb1)
              have nHW := Lib.hid (HW.out.below hb1)
              have nHB := Lib.hid (bthen HB.out hb1)
              clear HX HW HB hb1
              have HX := nHX
              have HW := nHW
              have HB := nHB
              clear nHX nHW nHB
              go_wp2_with (fail)
              go_roundg (n - (j + 1 + 1))
              case measure => omega
              case rel => exact ⟨j + 1 + 1, by first | rfl | go_num | (congr 1; omega), by omega, Nat.le_refl _, Lib.hid ⟨HB.out, HX.out⟩, HR2⟩
      · obtain rfl : k = n := by omega
        have hE := HE.out
        rw [Nat.sub_self] at hE
        unfold realR at hE
        have HE2 := Lib.hid hE
        clear hE HE
        go_wp2_with (fail)
        go_ret3
        exact ⟨by rw [← HE2.out]; rfl, K0.out.b⟩
  · have hez : (atE M p f != 0) = true := by simpa using he
    rw [if_neg he, if_neg he]
    generalize atE M p f = E at *
    have HAT := Lib.hid hat
    clear hat he
    go_enter Tryz.func12, Tryz.ntmps12
    go_wp2_with (fail)
    have bHX : Blk (w.alloc (.cells #[.int .i64 M.places, .int .i64 M.any.a0, .int .i64 M.any.a1, .int .i64 M.any.a2, .int .i64 M.any.a3, .int .i64 M.any.a4, .int .i64 M.any.a5, .bool M.any.i, .bool M.any.s, .int .i64 M.mw, .int .i64 M.ms, .int .i64 M.mc, vF, vS] 29)) (w.heap.size) 29 #[.int .i64 M.places, .int .i64 M.any.a0, .int .i64 M.any.a1, .int .i64 M.any.a2, .int .i64 M.any.a3, .int .i64 M.any.a4, .int .i64 M.any.a5, .bool M.any.i, .bool M.any.s, .int .i64 M.mw, .int .i64 M.ms, .int .i64 M.mc, vF, vS] := (by repeat (first | (refine Blk.newAt _ _ _ ?_; first | rfl | (simp; done)) | refine Blk.alloc ?_ _))
    have bHB : Below w.heap.size w (w.alloc (.cells #[.int .i64 M.places, .int .i64 M.any.a0, .int .i64 M.any.a1, .int .i64 M.any.a2, .int .i64 M.any.a3, .int .i64 M.any.a4, .int .i64 M.any.a5, .bool M.any.i, .bool M.any.s, .int .i64 M.mw, .int .i64 M.ms, .int .i64 M.mc, vF, vS] 29)) := (by repeat' (first | exact Below.refl _ _ | assumption | refine Below.drew ?_ | refine bdn ?_ _ | refine bal ?_ _ | refine Below.setCell ?_ (by first | (simp; done) | omega | (simp; omega)) _))
    generalize (w.alloc (.cells #[.int .i64 M.places, .int .i64 M.any.a0, .int .i64 M.any.a1, .int .i64 M.any.a2, .int .i64 M.any.a3, .int .i64 M.any.a4, .int .i64 M.any.a5, .bool M.any.i, .bool M.any.s, .int .i64 M.mw, .int .i64 M.ms, .int .i64 M.mc, vF, vS] 29)) = W at *
    have zW := bHX.lt
    have HX := Lib.hid bHX
    have HB := Lib.hid bHB
    clear bHX bHB
    have hM2 := Lib.hid (fun r : After _ => HX.out.below r.below)
    have hA2 := Lib.hid (fun r : After _ => (HA.out.below HB.out).below r.below)
    refine wp_region_aftert 5 (by kernel_rfl) (by kernel_rfl) ?_
    simp only [List.take_succ_cons, List.take_zero, List.drop_succ_cons, List.drop_zero]
    refine wpq_row rfl 29 _ rfl _ rfl _ 14 (fun _ hw => by obtain ⟨r, rfl⟩ := hw; exact hM2.out r) Tryz.rowMet rfl ?_
    simp only [Act.put, List.setIfInBounds_toArray, List.set_cons_succ, List.set_cons_zero]
    iterate 2 (go_big_quiet_step (fail))
    go_big_quiet_step (first | (go_at_call 29; (with_reducible refine qafter (wat_c _ _ _))))
    go_big_quiet_step (first | (go_at_call 28; (with_reducible refine qafter (HAT.out _ (hA2.out _)))))
    refine wpQuiet_nil ?_
    rintro _ ⟨r, rfl⟩
    have BR := r.below
    clear hM2 hA2
    generalize r.w = wr at *
    have nHX := Lib.hid (HX.out.below BR)
    have nHB := Lib.hid (bthen HB.out BR)
    clear HX HB BR
    have HX := nHX
    have HB := nHB
    clear nHX nHB
    go_wp2_with (fail)
    go_ret3
    exact ⟨rfl, HB.out⟩
-- end
end Go.Proofs.YtfcjblnebaemgaaGreat

namespace Go.Proofs.YtfcjblnebaemgaaGreat
open Go Go.RowKit Go.Proofs
set_option maxRecDepth 100000
set_option maxHeartbeats 8000000
theorem rw_near_c (a b d : Int) (w : World) (h0 : 0 ≤ a) (h1 : a ≤ 20000) (h2 : 0 ≤ b) (h3 : b ≤ 20000) : Calls Tryz.prog 39 #[.int .i64 a, .int .i64 b, .int .i64 d] w fun e w' => e = .returned (.bool (nrB a b d)) ∧ Below w.heap.size w w' := by
  unfold nrB
  go_enter Tryz.func39, Tryz.ntmps39
  go_wp2
  go_ret
  exact ⟨rfl, Below.refl _ _⟩
theorem nrB_comm (a b d : Int) : nrB a b d = nrB b a d := by unfold nrB; rw [Int.max_comm]
theorem rw_In_c (x : Sk) (p q r : Int) (wi ws : Bool) (w : World) :
   Calls Tryz.prog 38 #[.agg #[.int .i64 p, .int .i64 q, .int .i64 r, .bool wi, .bool ws], .agg x.cells] w fun e w' => e = .returned (.bool (hasB x p q r wi ws)) ∧ Below w.heap.size w w' := by
  obtain ⟨a0, a1, a2, a3, a4, a5, xi, xs⟩ := x
  unfold hasB Sk.cells
  dsimp only
  have h1 := fun w1 => rw_from_c p a0 a1 w1
  have h2 := fun w1 => rw_from_c q a2 a3 w1
  have h3 := fun w1 => rw_from_c r a4 a5 w1
  generalize inB p a0 a1 = B1 at *
  generalize inB q a2 a3 = B2 at *
  generalize inB r a4 a5 = B3 at *
  have H1 := Lib.hid h1
  have H2 := Lib.hid h2
  have H3 := Lib.hid h3
  clear h1 h2 h3
  have X1 : ∀ b : Bool, (false && b) = false := fun _ => rfl
  have X2 : ∀ b : Bool, (true && b) = b := fun _ => rfl
  cases B1
  · rw [X1]
    go_enter Tryz.func38, Tryz.ntmps38
    go_wp2_with (first | (go_at_call 65; (with_reducible refine (H1.out _).mono ?_); rintro e w1 ⟨rfl, rfl⟩) | (go_at_call 65; (with_reducible refine (H2.out _).mono ?_); rintro e w1 ⟨rfl, rfl⟩) | (go_at_call 65; (with_reducible refine (H3.out _).mono ?_); rintro e w1 ⟨rfl, rfl⟩))
    go_ret
    exact ⟨rfl, (by repeat' (first | exact Below.refl _ _ | assumption | refine Below.drew ?_ | refine bdn ?_ _ | refine bal ?_ _ | refine Below.setCell ?_ (by first | (simp; done) | omega | (simp; omega)) _))⟩
  rw [X2]
  cases B2
  · rw [X1]
    go_enter Tryz.func38, Tryz.ntmps38
    go_wp2_with (first | (go_at_call 65; (with_reducible refine (H1.out _).mono ?_); rintro e w1 ⟨rfl, rfl⟩) | (go_at_call 65; (with_reducible refine (H2.out _).mono ?_); rintro e w1 ⟨rfl, rfl⟩) | (go_at_call 65; (with_reducible refine (H3.out _).mono ?_); rintro e w1 ⟨rfl, rfl⟩))
    go_ret
    exact ⟨rfl, (by repeat' (first | exact Below.refl _ _ | assumption | refine Below.drew ?_ | refine bdn ?_ _ | refine bal ?_ _ | refine Below.setCell ?_ (by first | (simp; done) | omega | (simp; omega)) _))⟩
  rw [X2]
  cases B3
  · rw [X1]
    go_enter Tryz.func38, Tryz.ntmps38
    go_wp2_with (first | (go_at_call 65; (with_reducible refine (H1.out _).mono ?_); rintro e w1 ⟨rfl, rfl⟩) | (go_at_call 65; (with_reducible refine (H2.out _).mono ?_); rintro e w1 ⟨rfl, rfl⟩) | (go_at_call 65; (with_reducible refine (H3.out _).mono ?_); rintro e w1 ⟨rfl, rfl⟩))
    go_ret
    exact ⟨rfl, (by repeat' (first | exact Below.refl _ _ | assumption | refine Below.drew ?_ | refine bdn ?_ _ | refine bal ?_ _ | refine Below.setCell ?_ (by first | (simp; done) | omega | (simp; omega)) _))⟩
  rw [X2]
  cases wi <;> cases ws <;> cases xi <;> cases xs
  all_goals
    go_enter Tryz.func38, Tryz.ntmps38
    go_wp2_with (first | (go_at_call 65; (with_reducible refine (H1.out _).mono ?_); rintro e w1 ⟨rfl, rfl⟩) | (go_at_call 65; (with_reducible refine (H2.out _).mono ?_); rintro e w1 ⟨rfl, rfl⟩) | (go_at_call 65; (with_reducible refine (H3.out _).mono ?_); rintro e w1 ⟨rfl, rfl⟩))
    go_ret
    exact ⟨rfl, (by repeat' (first | exact Below.refl _ _ | assumption | refine Below.drew ?_ | refine bdn ?_ _ | refine bal ?_ _ | refine Below.setCell ?_ (by first | (simp; done) | omega | (simp; omega)) _))⟩
theorem rw_Real_c (M : MetD) (vF vS : Value) (p f : Int) (A : Option Addr) (n c : Nat) (G : Nat → Nat → Int) (H : Nat → Nat → Bool) (w : World) (hA : MetAt w vF vS M) (hn : n ≤ 100) (hL : RecsAt w A n 5 (weV G H)) :
   Calls Tryz.prog 13 #[.agg #[.int .i64 M.places, .int .i64 M.any.a0, .int .i64 M.any.a1, .int .i64 M.any.a2, .int .i64 M.any.a3, .int .i64 M.any.a4, .int .i64 M.any.a5, .bool M.any.i, .bool M.any.s, .int .i64 M.mw, .int .i64 M.ms, .int .i64 M.mc, vF, vS], .int .i64 p, .int .i64 f, .slice A n c] w fun e w' => e = .returned (.tuple #[.int .i64 (realV M p f n G H).1, .bool (realV M p f n G H).2, .int .i64 (realE M p f n G)]) ∧ Below w.heap.size w w' := by
  have HA := Lib.hid hA
  have HL := Lib.hid hL
  have hat := fun w1 h => rw_checkTick_c M vF vS p f w1 h
  clear hA hL
  unfold realV
  by_cases he : atE M p f = 0
  case neg =>
    have hrE : realE M p f n G = atE M p f := by unfold realE; rw [if_neg he]
    rw [hrE, if_neg he]
    have hez : (atE M p f != 0) = true := by simpa using he
    clear he hrE
    generalize atE M p f = E at *
    have HAT := Lib.hid hat
    clear hat
    go_enter Tryz.func13, Tryz.ntmps13
    go_wp2_with (fail)
    have bHX : Blk (w.alloc (.cells #[.int .i64 M.places, .int .i64 M.any.a0, .int .i64 M.any.a1, .int .i64 M.any.a2, .int .i64 M.any.a3, .int .i64 M.any.a4, .int .i64 M.any.a5, .bool M.any.i, .bool M.any.s, .int .i64 M.mw, .int .i64 M.ms, .int .i64 M.mc, vF, vS] 29)) (w.heap.size) 29 #[.int .i64 M.places, .int .i64 M.any.a0, .int .i64 M.any.a1, .int .i64 M.any.a2, .int .i64 M.any.a3, .int .i64 M.any.a4, .int .i64 M.any.a5, .bool M.any.i, .bool M.any.s, .int .i64 M.mw, .int .i64 M.ms, .int .i64 M.mc, vF, vS] := (by repeat (first | (refine Blk.newAt _ _ _ ?_; first | rfl | (simp; done)) | refine Blk.alloc ?_ _))
    have bHB : Below w.heap.size w (w.alloc (.cells #[.int .i64 M.places, .int .i64 M.any.a0, .int .i64 M.any.a1, .int .i64 M.any.a2, .int .i64 M.any.a3, .int .i64 M.any.a4, .int .i64 M.any.a5, .bool M.any.i, .bool M.any.s, .int .i64 M.mw, .int .i64 M.ms, .int .i64 M.mc, vF, vS] 29)) := (by repeat' (first | exact Below.refl _ _ | assumption | refine Below.drew ?_ | refine bdn ?_ _ | refine bal ?_ _ | refine Below.setCell ?_ (by first | (simp; done) | omega | (simp; omega)) _))
    generalize (w.alloc (.cells #[.int .i64 M.places, .int .i64 M.any.a0, .int .i64 M.any.a1, .int .i64 M.any.a2, .int .i64 M.any.a3, .int .i64 M.any.a4, .int .i64 M.any.a5, .bool M.any.i, .bool M.any.s, .int .i64 M.mw, .int .i64 M.ms, .int .i64 M.mc, vF, vS] 29)) = W at *
    have zW := bHX.lt
    have HX := Lib.hid bHX
    have HB := Lib.hid bHB
    clear bHX bHB
    go_wp2_with (first | (refine wpl_row rfl 29 _ rfl _ rfl #[.int .i64 M.places, .int .i64 M.any.a0, .int .i64 M.any.a1, .int .i64 M.any.a2, .int .i64 M.any.a3, .int .i64 M.any.a4, .int .i64 M.any.a5, .bool M.any.i, .bool M.any.s, .int .i64 M.mw, .int .i64 M.ms, .int .i64 M.mc, vF, vS] 14 HX.out Tryz.rowMet rfl ?_; simp only [Act.put]) | (go_at_call 36; (with_reducible refine (HAT.out _ (HA.out.below HB.out)).mono ?_); rintro e w1 ⟨rfl, hb1⟩; have nHX := Lib.hid (HX.out.below hb1); have nHB := Lib.hid (bthen HB.out hb1); have zz1 := hb1.size; clear HX HB hb1; have HX := nHX; have HB := nHB; clear nHX nHB))
    go_ret3
    exact ⟨rfl, HB.out⟩
  obtain ⟨hM, hf0, hf1⟩ := atE_ok he
  have HM := Lib.hid hM
  have HRE := Lib.hid (show realE M p f n G = if 2000 < f + n - 1 then 2 else if wvA n G then 42 else 0 by unfold realE; rw [if_pos he])
  rw [he] at hat
  have HAT := Lib.hid hat
  clear hat he hM
  by_cases hmany : 2000 < f + n - 1
  · rw [show realE M p f n G = 2 by rw [HRE.out, if_pos hmany], if_neg (by decide)]
    go_enter Tryz.func13, Tryz.ntmps13
    go_wp2_with (fail)
    have bHX : Blk (w.alloc (.cells #[.int .i64 M.places, .int .i64 M.any.a0, .int .i64 M.any.a1, .int .i64 M.any.a2, .int .i64 M.any.a3, .int .i64 M.any.a4, .int .i64 M.any.a5, .bool M.any.i, .bool M.any.s, .int .i64 M.mw, .int .i64 M.ms, .int .i64 M.mc, vF, vS] 29)) (w.heap.size) 29 #[.int .i64 M.places, .int .i64 M.any.a0, .int .i64 M.any.a1, .int .i64 M.any.a2, .int .i64 M.any.a3, .int .i64 M.any.a4, .int .i64 M.any.a5, .bool M.any.i, .bool M.any.s, .int .i64 M.mw, .int .i64 M.ms, .int .i64 M.mc, vF, vS] := (by repeat (first | (refine Blk.newAt _ _ _ ?_; first | rfl | (simp; done)) | refine Blk.alloc ?_ _))
    have bHB : Below w.heap.size w (w.alloc (.cells #[.int .i64 M.places, .int .i64 M.any.a0, .int .i64 M.any.a1, .int .i64 M.any.a2, .int .i64 M.any.a3, .int .i64 M.any.a4, .int .i64 M.any.a5, .bool M.any.i, .bool M.any.s, .int .i64 M.mw, .int .i64 M.ms, .int .i64 M.mc, vF, vS] 29)) := (by repeat' (first | exact Below.refl _ _ | assumption | refine Below.drew ?_ | refine bdn ?_ _ | refine bal ?_ _ | refine Below.setCell ?_ (by first | (simp; done) | omega | (simp; omega)) _))
    generalize (w.alloc (.cells #[.int .i64 M.places, .int .i64 M.any.a0, .int .i64 M.any.a1, .int .i64 M.any.a2, .int .i64 M.any.a3, .int .i64 M.any.a4, .int .i64 M.any.a5, .bool M.any.i, .bool M.any.s, .int .i64 M.mw, .int .i64 M.ms, .int .i64 M.mc, vF, vS] 29)) = W at *
    have zW := bHX.lt
    have HX := Lib.hid bHX
    have HB := Lib.hid bHB
    clear bHX bHB
    go_wp2_with (first | (refine wpl_row rfl 29 _ rfl _ rfl #[.int .i64 M.places, .int .i64 M.any.a0, .int .i64 M.any.a1, .int .i64 M.any.a2, .int .i64 M.any.a3, .int .i64 M.any.a4, .int .i64 M.any.a5, .bool M.any.i, .bool M.any.s, .int .i64 M.mw, .int .i64 M.ms, .int .i64 M.mc, vF, vS] 14 HX.out Tryz.rowMet rfl ?_; simp only [Act.put]) | (go_at_call 36; (with_reducible refine (HAT.out _ (HA.out.below HB.out)).mono ?_); rintro e w1 ⟨rfl, hb1⟩; have nHX := Lib.hid (HX.out.below hb1); have nHB := Lib.hid (bthen HB.out hb1); have zz1 := hb1.size; clear HX HB hb1; have HX := nHX; have HB := nHB; clear nHX nHB))
    go_ret3
    exact ⟨rfl, HB.out⟩
  have HRW := Lib.hid (show realE M p f n G = if wvA n G then 42 else 0 by rw [HRE.out, if_neg hmany])
  clear HRE
  obtain ⟨E, hE⟩ : ∃ q, q = realE M p f n G := ⟨_, rfl⟩
  obtain ⟨R, hR⟩ : ∃ q, q = (if realE M p f n G = 0 then realR M p f G H n 0 else (0, false)) := ⟨_, rfl⟩
  rw [← hE] at hR ⊢
  rw [← hR]
  have HE := Lib.hid hE
  have HR := Lib.hid hR
  clear hE hR
  go_enter Tryz.func13, Tryz.ntmps13
  go_wp2_with (fail)
  have bHX : Blk (w.alloc (.cells #[.int .i64 M.places, .int .i64 M.any.a0, .int .i64 M.any.a1, .int .i64 M.any.a2, .int .i64 M.any.a3, .int .i64 M.any.a4, .int .i64 M.any.a5, .bool M.any.i, .bool M.any.s, .int .i64 M.mw, .int .i64 M.ms, .int .i64 M.mc, vF, vS] 29)) (w.heap.size) 29 #[.int .i64 M.places, .int .i64 M.any.a0, .int .i64 M.any.a1, .int .i64 M.any.a2, .int .i64 M.any.a3, .int .i64 M.any.a4, .int .i64 M.any.a5, .bool M.any.i, .bool M.any.s, .int .i64 M.mw, .int .i64 M.ms, .int .i64 M.mc, vF, vS] := (by repeat (first | (refine Blk.newAt _ _ _ ?_; first | rfl | (simp; done)) | refine Blk.alloc ?_ _))
  have bHB : Below w.heap.size w (w.alloc (.cells #[.int .i64 M.places, .int .i64 M.any.a0, .int .i64 M.any.a1, .int .i64 M.any.a2, .int .i64 M.any.a3, .int .i64 M.any.a4, .int .i64 M.any.a5, .bool M.any.i, .bool M.any.s, .int .i64 M.mw, .int .i64 M.ms, .int .i64 M.mc, vF, vS] 29)) := (by repeat' (first | exact Below.refl _ _ | assumption | refine Below.drew ?_ | refine bdn ?_ _ | refine bal ?_ _ | refine Below.setCell ?_ (by first | (simp; done) | omega | (simp; omega)) _))
  generalize (w.alloc (.cells #[.int .i64 M.places, .int .i64 M.any.a0, .int .i64 M.any.a1, .int .i64 M.any.a2, .int .i64 M.any.a3, .int .i64 M.any.a4, .int .i64 M.any.a5, .bool M.any.i, .bool M.any.s, .int .i64 M.mw, .int .i64 M.ms, .int .i64 M.mc, vF, vS] 29)) = W at *
  have zW := bHX.lt
  have HX := Lib.hid bHX
  have HB := Lib.hid bHB
  clear bHX bHB
  go_wp2_with (first | (refine wpl_row rfl 29 _ rfl _ rfl #[.int .i64 M.places, .int .i64 M.any.a0, .int .i64 M.any.a1, .int .i64 M.any.a2, .int .i64 M.any.a3, .int .i64 M.any.a4, .int .i64 M.any.a5, .bool M.any.i, .bool M.any.s, .int .i64 M.mw, .int .i64 M.ms, .int .i64 M.mc, vF, vS] 14 HX.out Tryz.rowMet rfl ?_; simp only [Act.put]) | (go_at_call 36; (with_reducible refine (HAT.out _ (HA.out.below HB.out)).mono ?_); rintro e w1 ⟨rfl, hb1⟩; have nHX := Lib.hid (HX.out.below hb1); have nHB := Lib.hid (bthen HB.out hb1); have zz1 := hb1.size; clear HX HB hb1; have HX := nHX; have HB := nHB; clear nHX nHB))
  have K0 := Lib.hid (show ReK M vF vS w _ from ⟨HB.out, HX.out⟩)
  clear HX HB HAT
  go_loopg [12] n (fun gx i wr => ∃ k : Nat, i = .int .i64 k ∧ k ≤ n ∧ n - k ≤ gx ∧ Hid (ReK M vF vS w wr) ∧ Hid (∀ j, j < k → wvB (G j 0) (G j 1) (G j 2) = true))
  case atStart => exact ⟨0, rfl, Nat.zero_le _, Nat.le_refl _, K0, fun j hj => absurd hj (Nat.not_lt_zero _)⟩
  case round =>
    clear K0
    obtain ⟨k, rfl, hk, hgx, K0, HV⟩ := hrel
    by_cases hlt : k < n
    · have hltz : (k : Int) < (n : Int) := by omega
      obtain ⟨bw, off, rfl, hbw, hcell⟩ := HL.out (by omega)
      have c0 : wr.cell? ⟨bw, off + k * 5, none⟩ = some (.int .i64 (G k 0)) := (K0.out.b.cell (p := ⟨bw, off + k * 5 + 0, none⟩) hbw).trans (hcell k (by omega) 0 (by omega))
      have c1 : wr.cell? ⟨bw, off + k * 5 + 1, none⟩ = some (.int .i64 (G k 1)) := (K0.out.b.cell (p := ⟨bw, off + k * 5 + 1, none⟩) hbw).trans (hcell k (by omega) 1 (by omega))
      have c2 : wr.cell? ⟨bw, off + k * 5 + 2, none⟩ = some (.int .i64 (G k 2)) := (K0.out.b.cell (p := ⟨bw, off + k * 5 + 2, none⟩) hbw).trans (hcell k (by omega) 2 (by omega))
      have c3 : wr.cell? ⟨bw, off + k * 5 + 3, none⟩ = some (.bool (H k 3)) := (K0.out.b.cell (p := ⟨bw, off + k * 5 + 3, none⟩) hbw).trans (hcell k (by omega) 3 (by omega))
      have c4 : wr.cell? ⟨bw, off + k * 5 + 4, none⟩ = some (.bool (H k 4)) := (K0.out.b.cell (p := ⟨bw, off + k * 5 + 4, none⟩) hbw).trans (hcell k (by omega) 4 (by omega))
      clear hcell
      have hvw := fun w1 => rw_ValidWeather_c (G k 0) (G k 1) (G k 2) (H k 3) (H k 4) w1
      cases hb : wvB (G k 0) (G k 1) (G k 2)
      · have hE : E = 42 := by rw [HE.out, HRW.out, show wvA n G = true from List.any_eq_true.2 ⟨k, List.mem_range.2 hlt, by rw [hb]; rfl⟩]; rfl
        have hR : R = (0, false) := by rw [HR.out, hE]; rfl
        rw [hb] at hvw
        have HVW := Lib.hid hvw
        subst hE hR
        clear hvw hb
        go_wp2_with (go_at_call 37; refine (HVW.out _).mono ?_; rintro e w2 ⟨rfl, hb2⟩)
        go_ret3
        exact ⟨rfl, bthen K0.out.b hb2⟩
      · have HV2 := Lib.hid (show ∀ j, j < k + 1 → wvB (G j 0) (G j 1) (G j 2) = true from fun j hj => by
          by_cases e : j = k
          · rw [e]; exact hb
          · exact HV.out j (by omega))
        rw [hb] at hvw
        have HVW := Lib.hid hvw
        clear hvw hb
        go_wp2_with (go_at_call 37; refine (HVW.out _).mono ?_; rintro e w2 ⟨rfl, hb2⟩)
        go_roundg (n - (k + 1))
        case measure => omega
        case rel => exact ⟨k + 1, by first | rfl | go_num | (congr 1; omega), by omega, Nat.le_refl _, Lib.hid (K0.out.grow hb2), HV2⟩
    · obtain rfl : k = n := by omega
      have hE : E = 0 := by
        rw [HE.out, HRW.out, show wvA k G = false from ?_]
        · rfl
        · unfold wvA
          rw [List.any_eq_false]
          intro j hj
          rw [HV.out j (List.mem_range.1 hj)]
          decide
      have hR : realR M p f G H k 0 = R := by rw [HR.out, if_pos hE]
      subst hE
      have HR2 := Lib.hid hR
      clear hR HR HE HRW hgx hk hlt
      go_wp2_with (fail)
      go_loopg [13] k (fun gx i wr => ∃ q : Nat, i = .int .i64 q ∧ q ≤ k ∧ k - q ≤ gx ∧ Hid (ReK M vF vS w wr) ∧ Hid (realR M p f G H (k - q) q = R))
      case atStart => exact ⟨0, rfl, Nat.zero_le _, Nat.le_refl _, K0, HR2⟩
      case round =>
        clear K0 HR2
        obtain ⟨q, rfl, hq, hgx, K0, HE⟩ := hrel
        by_cases hlt : q < k
        · have hltz : (q : Int) < (k : Int) := by omega
          obtain ⟨bw, off, rfl, hbw, hcell⟩ := HL.out (by omega)
          have HCL := Lib.hid (show ∀ j, j < k → ∀ i, i < 5 → ∀ w3, Below w.heap.size w w3 → w3.cell? ⟨bw, off + j * 5 + i, none⟩ = some (weV G H j i) from fun j hj i hi w3 hb3 => (hb3.cell (p := ⟨bw, off + j * 5 + i, none⟩) hbw).trans (hcell j hj i hi))
          clear hcell
          have hE := HE.out
          rw [show k - q = (k - (q + 1)) + 1 by omega] at hE
          unfold realR at hE
          have hm := fun w1 h => rw_may_c M vF vS p (f + q) w1 HM.out h (by omega) (by omega)
          obtain ⟨a0, a1, a2, a3, a4, a5, xi, xs, hY⟩ : ∃ a0 a1 a2 a3 a4 a5 xi xs, M.may p (f + q) = ⟨a0, a1, a2, a3, a4, a5, xi, xs⟩ := ⟨_, _, _, _, _, _, _, _, rfl⟩
          have hh := fun w1 => rw_In_c (M.may p (f + q)) (G q 0) (G q 1) (G q 2) (H q 3) (H q 4) w1
          generalize hasB (M.may p (f + q)) (G q 0) (G q 1) (G q 2) (H q 3) (H q 4) = HH at *
          rw [hY] at hm hh
          dsimp only [Sk.cells] at hm hh
          have HMY := Lib.hid hm
          have HHS := Lib.hid hh
          have HE2 := Lib.hid hE
          have HX := Lib.hid K0.out.m
          have HB := Lib.hid K0.out.b
          clear hm hh hE HE hY K0
          go_wp2_with (first | (refine wpl_row rfl 29 (.tmp 4) rfl _ rfl #[.int .i64 M.places, .int .i64 M.any.a0, .int .i64 M.any.a1, .int .i64 M.any.a2, .int .i64 M.any.a3, .int .i64 M.any.a4, .int .i64 M.any.a5, .bool M.any.i, .bool M.any.s, .int .i64 M.mw, .int .i64 M.ms, .int .i64 M.mc, vF, vS] 14 HX.out Tryz.rowMet rfl ?_; simp only [Act.put]))
          refine (HMY.out _ (HA.out.below HB.out)).mono ?_
          rintro e w1 ⟨v, rfl, hb1⟩
          have nHX := Lib.hid (HX.out.below hb1)
          have nHB := Lib.hid (bthen HB.out hb1)
          clear HX HB hb1
          have HX := nHX
          have HB := nHB
          clear nHX nHB
          go_wp2_with (fail)
          have bHS := Blk.new w1 25 #[.int .i64 a0, .int .i64 a1, .int .i64 a2, .int .i64 a3, .int .i64 a4, .int .i64 a5, .bool xi, .bool xs]
          have nHX := Lib.hid (HX.out.alloc (.cells #[.int .i64 a0, .int .i64 a1, .int .i64 a2, .int .i64 a3, .int .i64 a4, .int .i64 a5, .bool xi, .bool xs] 25))
          have nHB := Lib.hid (bal HB.out (.cells #[.int .i64 a0, .int .i64 a1, .int .i64 a2, .int .i64 a3, .int .i64 a4, .int .i64 a5, .bool xi, .bool xs] 25))
          clear HX HB
          have HX := nHX
          have HB := nHB
          clear nHX nHB
          generalize w1.alloc (.cells #[.int .i64 a0, .int .i64 a1, .int .i64 a2, .int .i64 a3, .int .i64 a4, .int .i64 a5, .bool xi, .bool xs] 25) = W2 at *
          generalize w1.heap.size = gHS at *
          have HS := Lib.hid bHS
          clear bHS
          have s0 : ∀ r : After W2, r.w.cell? ⟨bw, off + q * 5, none⟩ = some (.int .i64 (G q 0)) := fun (r : After W2) => HCL.out q hlt 0 (by omega) _ (bthen HB.out r.below)
          have s1 : ∀ r : After W2, r.w.cell? ⟨bw, off + q * 5 + 1, none⟩ = some (.int .i64 (G q 1)) := fun (r : After W2) => HCL.out q hlt 1 (by omega) _ (bthen HB.out r.below)
          have s2 : ∀ r : After W2, r.w.cell? ⟨bw, off + q * 5 + 2, none⟩ = some (.int .i64 (G q 2)) := fun (r : After W2) => HCL.out q hlt 2 (by omega) _ (bthen HB.out r.below)
          have s3 : ∀ r : After W2, r.w.cell? ⟨bw, off + q * 5 + 3, none⟩ = some (.bool (H q 3)) := fun (r : After W2) => HCL.out q hlt 3 (by omega) _ (bthen HB.out r.below)
          have s4 : ∀ r : After W2, r.w.cell? ⟨bw, off + q * 5 + 4, none⟩ = some (.bool (H q 4)) := fun (r : After W2) => HCL.out q hlt 4 (by omega) _ (bthen HB.out r.below)
          have hS2 := Lib.hid (fun r : After W2 => HS.out.below r.below)
          refine wp_region_after (by kernel_rfl) (by kernel_rfl) ?_
          iterate 4 (go_big_quiet_step (fail))
          refine wpq_row rfl 25 _ rfl _ rfl _ 8 (fun _ hw => by obtain ⟨r, rfl⟩ := hw; exact hS2.out r) Tryz.rowSky rfl ?_
          simp only [Act.put, List.setIfInBounds_toArray, List.set_cons_succ, List.set_cons_zero]
          iterate 2 (go_big_quiet_step (first | (go_at_call 38; (with_reducible refine qafter (HHS.out _)))))
          refine wpQuiet_nil ?_
          rintro wq ⟨⟨w1, hb1⟩, rfl⟩
          clear s0 s1 s2 s3 s4 hS2
          have nHX := Lib.hid (HX.out.below hb1)
          have nHB := Lib.hid (bthen HB.out hb1)
          clear HX HB hb1
          have HX := nHX
          have HB := nHB
          clear nHX nHB
          clear HS HMY HHS
          cases HH
          case false =>
            have HR2 := Lib.hid (show (f + q, false) = R from HE2.out)
            clear HE2
            go_wp2_with (fail)
            go_ret3
            exact ⟨by rw [← HR2.out]; first | rfl | go_num, HB.out⟩
          go_wp2_with (fail)
          rcases q with _ | j
          · have HE3 := Lib.hid (show realR M p f G H (k - (0 + 1)) (0 + 1) = R from HE2.out)
            clear HE2
            refine wp_region_after (by kernel_rfl) (by kernel_rfl) ?_
            iterate 53 (go_big_quiet_step (fail))
            refine wpQuiet_nil ?_
            rintro _ ⟨⟨w1, hb1⟩, rfl⟩
            have nHX := Lib.hid (HX.out.below hb1)
            have nHB := Lib.hid (bthen HB.out hb1)
            clear HX HB hb1
            have HX := nHX
            have HB := nHB
            clear nHX nHB
            go_wp2_with (fail)
            go_roundg (k - (0 + 1))
            case measure => omega
            case rel => exact ⟨0 + 1, by first | rfl | go_num | (congr 1; omega), by omega, Nat.le_refl _, Lib.hid ⟨HB.out, HX.out⟩, HE3⟩
          · have hE3 := HE2.out
            rw [show decide (j + 1 = 0) = false from rfl, Bool.true_and, Bool.false_or, show j + 1 - 1 = j from rfl] at hE3
            unfold folB at hE3
            rw [nrB_comm (G j 0), nrB_comm (G j 1), nrB_comm (G j 2)] at hE3
            have v1 := HV.out j (by omega)
            have v2 := HV.out (j + 1) (by omega)
            unfold wvB at v1 v2
            simp only [Bool.and_eq_true, inB_iff] at v1 v2
            have n1 := fun w1 => rw_near_c (G (j + 1) 0) (G j 0) M.mw w1 (by omega) (by omega) (by omega) (by omega)
            have n2 := fun w1 => rw_near_c (G (j + 1) 1) (G j 1) M.ms w1 (by omega) (by omega) (by omega) (by omega)
            have n3 := fun w1 => rw_near_c (G (j + 1) 2) (G j 2) M.mc w1 (by omega) (by omega) (by omega) (by omega)
            generalize nrB (G (j + 1) 0) (G j 0) M.mw = B1 at *
            generalize nrB (G (j + 1) 1) (G j 1) M.ms = B2 at *
            generalize nrB (G (j + 1) 2) (G j 2) M.mc = B3 at *
            have N1 := Lib.hid n1
            have N2 := Lib.hid n2
            have N3 := Lib.hid n3
            have HE3 := Lib.hid hE3
            clear n1 n2 n3 v1 v2 hE3 HE2
            have hj0 : (0 : Int) < ((j + 1 : Nat) : Int) := by omega
            have hjn : (j : Int) < (k : Int) := by omega
            have m9 : ∀ r : After wq, r.w.cell? ⟨w.heap.size, 9, none⟩ = some (.int .i64 M.mw) := fun (r : After wq) => (HX.out.below r.below).cell 9
            have m10 : ∀ r : After wq, r.w.cell? ⟨w.heap.size, 10, none⟩ = some (.int .i64 M.ms) := fun (r : After wq) => (HX.out.below r.below).cell 10
            have m11 : ∀ r : After wq, r.w.cell? ⟨w.heap.size, 11, none⟩ = some (.int .i64 M.mc) := fun (r : After wq) => (HX.out.below r.below).cell 11
            have a10 : ∀ r : After wq, r.w.cell? ⟨bw, off + j * 5, none⟩ = some (.int .i64 (G j 0)) := fun (r : After wq) => HCL.out j (by omega) 0 (by omega) _ (bthen HB.out r.below)
            have a11 : ∀ r : After wq, r.w.cell? ⟨bw, off + j * 5 + 1, none⟩ = some (.int .i64 (G j 1)) := fun (r : After wq) => HCL.out j (by omega) 1 (by omega) _ (bthen HB.out r.below)
            have a12 : ∀ r : After wq, r.w.cell? ⟨bw, off + j * 5 + 2, none⟩ = some (.int .i64 (G j 2)) := fun (r : After wq) => HCL.out j (by omega) 2 (by omega) _ (bthen HB.out r.below)
            have a00 : ∀ r : After wq, r.w.cell? ⟨bw, off + (j + 1) * 5, none⟩ = some (.int .i64 (G (j + 1) 0)) := fun (r : After wq) => HCL.out (j + 1) (by omega) 0 (by omega) _ (bthen HB.out r.below)
            have a01 : ∀ r : After wq, r.w.cell? ⟨bw, off + (j + 1) * 5 + 1, none⟩ = some (.int .i64 (G (j + 1) 1)) := fun (r : After wq) => HCL.out (j + 1) (by omega) 1 (by omega) _ (bthen HB.out r.below)
            have a02 : ∀ r : After wq, r.w.cell? ⟨bw, off + (j + 1) * 5 + 2, none⟩ = some (.int .i64 (G (j + 1) 2)) := fun (r : After wq) => HCL.out (j + 1) (by omega) 2 (by omega) _ (bthen HB.out r.below)
            refine wp_region_after (by kernel_rfl) (by kernel_rfl) ?_
            have X1 : ∀ b : Bool, (false && b) = false := fun _ => rfl
            cases B1
            case false =>
              have HR2 := Lib.hid (show (f + ((j + 1 : Nat) : Int), false) = R from HE3.out)
              clear HE3
              iterate 53 (go_big_quiet_step (first | (go_at_call 39; (with_reducible refine qafter (N1.out _))) | (go_at_call 39; (with_reducible refine qafter (N2.out _))) | (go_at_call 39; (with_reducible refine qafter (N3.out _)))))
              refine wpQuiet_nil ?_
              rintro _ ⟨⟨w1, hb1⟩, rfl⟩
              clear a10 a11 a12 a00 a01 a02 m9 m10 m11
              have nHX := Lib.hid (HX.out.below hb1)
              have nHB := Lib.hid (bthen HB.out hb1)
              clear HX HB hb1
              have HX := nHX
              have HB := nHB
              clear nHX nHB
              go_wp2_with (fail)
              go_ret3
              exact ⟨by rw [← HR2.out]; first | rfl | go_num, HB.out⟩
            cases B2
            case false =>
              have HR2 := Lib.hid (show (f + ((j + 1 : Nat) : Int), false) = R from HE3.out)
              clear HE3
              iterate 53 (go_big_quiet_step (first | (go_at_call 39; (with_reducible refine qafter (N1.out _))) | (go_at_call 39; (with_reducible refine qafter (N2.out _))) | (go_at_call 39; (with_reducible refine qafter (N3.out _)))))
              refine wpQuiet_nil ?_
              rintro _ ⟨⟨w1, hb1⟩, rfl⟩
              clear a10 a11 a12 a00 a01 a02 m9 m10 m11
              have nHX := Lib.hid (HX.out.below hb1)
              have nHB := Lib.hid (bthen HB.out hb1)
              clear HX HB hb1
              have HX := nHX
              have HB := nHB
              clear nHX nHB
              go_wp2_with (fail)
              go_ret3
              exact ⟨by rw [← HR2.out]; first | rfl | go_num, HB.out⟩
            cases B3
            case false =>
              have HR2 := Lib.hid (show (f + ((j + 1 : Nat) : Int), false) = R from HE3.out)
              clear HE3
              iterate 53 (go_big_quiet_step (first | (go_at_call 39; (with_reducible refine qafter (N1.out _))) | (go_at_call 39; (with_reducible refine qafter (N2.out _))) | (go_at_call 39; (with_reducible refine qafter (N3.out _)))))
              refine wpQuiet_nil ?_
              rintro _ ⟨⟨w1, hb1⟩, rfl⟩
              clear a10 a11 a12 a00 a01 a02 m9 m10 m11
              have nHX := Lib.hid (HX.out.below hb1)
              have nHB := Lib.hid (bthen HB.out hb1)
              clear HX HB hb1
              have HX := nHX
              have HB := nHB
              clear nHX nHB
              go_wp2_with (fail)
              go_ret3
              exact ⟨by rw [← HR2.out]; first | rfl | go_num, HB.out⟩
            have HE4 := Lib.hid (show realR M p f G H (k - (j + 1 + 1)) (j + 1 + 1) = R from HE3.out)
            clear HE3
            iterate 53 (go_big_quiet_step (first | (go_at_call 39; (with_reducible refine qafter (N1.out _))) | (go_at_call 39; (with_reducible refine qafter (N2.out _))) | (go_at_call 39; (with_reducible refine qafter (N3.out _)))))
            refine wpQuiet_nil ?_
            rintro _ ⟨⟨w1, hb1⟩, rfl⟩
            clear a10 a11 a12 a00 a01 a02 m9 m10 m11
            have nHX := Lib.hid (HX.out.below hb1)
            have nHB := Lib.hid (bthen HB.out hb1)
            clear HX HB hb1
            have HX := nHX
            have HB := nHB
            clear nHX nHB
            go_wp2_with (fail)
            go_roundg (k - (j + 1 + 1))
            case measure => omega
            case rel => exact ⟨j + 1 + 1, by first | rfl | go_num | (congr 1; omega), by omega, Nat.le_refl _, Lib.hid ⟨HB.out, HX.out⟩, HE4⟩
        · obtain rfl : q = k := by omega
          have hE := HE.out
          rw [Nat.sub_self] at hE
          unfold realR at hE
          subst hE
          go_wp2_with (fail)
          go_ret3
          exact ⟨rfl, K0.out.b⟩
end Go.Proofs.YtfcjblnebaemgaaGreat
