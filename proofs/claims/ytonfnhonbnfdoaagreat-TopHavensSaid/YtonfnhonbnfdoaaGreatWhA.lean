/- Contracts: has, follows of package weather. -/
import Derived.Test.YtonfnhonbnfdoaaGreatJAQ
set_option linter.all false
namespace Go.Proofs.YtonfnhonbnfdoaaGreat
open Go Go.RowKit Go.Proofs
set_option maxRecDepth 100000
set_option maxHeartbeats 8000000

theorem Tryz.entH : ∀ args w, (callFunc 95 args).run Tryz.prog w = .ok (.enter 95 args) w := enters_of Tryz.func95 (by kernel_rfl) rfl
theorem Tryz.entL : ∀ args w, (callFunc 96 args).run Tryz.prog w = .ok (.enter 96 args) w := enters_of Tryz.func96 (by kernel_rfl) rfl
theorem Tryz.entR : ∀ args w, (callFunc 43 args).run Tryz.prog w = .ok (.enter 43 args) w := enters_of Tryz.func43 (by kernel_rfl) rfl
theorem has1_c (n lo hi : Int) (w : World) : Calls Tryz.prog 95 #[.int .i64 n, .agg #[.int .i64 lo, .int .i64 hi]] w fun e w' => e = .returned (.bool (inB n lo hi)) ∧ Below w.heap.size w w' := by
  go_enter Tryz.func95, Tryz.ntmps95
  go_wp2_with (first | (go_at_call 82; (with_reducible refine (wwithin_c _ _ _ _).mono ?_); rintro e w1 ⟨rfl, rfl⟩))
  go_ret
  exact ⟨rfl, (by repeat' (first | exact Below.refl _ _ | assumption | refine Below.drew ?_ | refine bdn ?_ _ | refine bal ?_ _ | refine Below.setCell ?_ (by first | (simp; done) | omega | (simp; omega)) _))⟩
def nrB (a b d : Int) : Bool := decide (max (a - b) (b - a) ≤ d)
theorem follows1_c (a b d : Int) (w : World) (h0 : 0 ≤ a) (h1 : a ≤ 20000) (h2 : 0 ≤ b) (h3 : b ≤ 20000) : Calls Tryz.prog 96 #[.int .i64 a, .int .i64 b, .int .i64 d] w fun e w' => e = .returned (.bool (nrB a b d)) ∧ Below w.heap.size w w' := by
  unfold nrB
  go_enter Tryz.func96, Tryz.ntmps96
  go_wp2
  go_ret
  exact ⟨rfl, Below.refl _ _⟩
def hasB (x : Sk) (p q r : Int) (i s : Bool) : Bool := inB p x.a0 x.a1 && (inB q x.a2 x.a3 && (inB r x.a4 x.a5 && ((!i || x.i) && (!s || x.s))))
theorem has_c (x : Sk) (p q r : Int) (wi ws : Bool) (w : World) :
   Calls Tryz.prog 47 #[.agg x.cells, .agg #[.int .i64 p, .int .i64 q, .int .i64 r, .bool wi, .bool ws]] w fun e w' => e = .returned (.bool (hasB x p q r wi ws)) ∧ Below w.heap.size w w' := by
  have eH := Tryz.entH
  obtain ⟨a0, a1, a2, a3, a4, a5, xi, xs⟩ := x
  unfold hasB Sk.cells
  dsimp only
  have h1 := fun w1 => has1_c p a0 a1 w1
  have h2 := fun w1 => has1_c q a2 a3 w1
  have h3 := fun w1 => has1_c r a4 a5 w1
  generalize inB p a0 a1 = B1 at *
  generalize inB q a2 a3 = B2 at *
  generalize inB r a4 a5 = B3 at *
  have H1 := Lib.hid h1
  have H2 := Lib.hid h2
  have H3 := Lib.hid h3
  clear h1 h2 h3
  cases B1
  · skip
    go_enter Tryz.func47, Tryz.ntmps47
    go_wp2_with (fail)
    have _x := frm2 w #[.int .i64 a0, .int .i64 a1, .int .i64 a2, .int .i64 a3, .int .i64 a4, .int .i64 a5, .bool xi, .bool xs] 108 #[.int .i64 p, .int .i64 q, .int .i64 r, .bool wi, .bool ws] 57
    have HX := Lib.hid _x.1
    have HW := Lib.hid _x.2.1
    have HB := Lib.hid _x.2.2.1
    have zW := _x.2.2.2
    clear _x
    generalize World.alloc (World.alloc w _) _ = W at *
    have zHX := HX.out.lt
    have cHX0 := HX.out.cell 0
    have cHX1 := HX.out.cell 1
    have zHW := HW.out.lt
    have cHW0 := HW.out.cell 0
    go_wp2_with (first | (go_at_fn 95; (with_reducible refine (H1.out _).mono ?_); rintro e w1 ⟨rfl, hb1⟩; have nHX := Lib.hid (HX.out.below hb1); have nHW := Lib.hid (HW.out.below hb1); have nHB := Lib.hid (bthen HB.out hb1); clear HX HW HB hb1; have HX := nHX; have HW := nHW; have HB := nHB; clear nHX nHW nHB; have c2 := HX.out.cell 2; have c3 := HX.out.cell 3; have d1 := HW.out.cell 1; simp only [List.getElem?_toArray, List.getElem?_cons_succ, List.getElem?_cons_zero] at c2 c3 d1) | (go_at_fn 95; (with_reducible refine (H2.out _).mono ?_); rintro e w1 ⟨rfl, hb1⟩; have nHX := Lib.hid (HX.out.below hb1); have nHW := Lib.hid (HW.out.below hb1); have nHB := Lib.hid (bthen HB.out hb1); clear HX HW HB hb1; have HX := nHX; have HW := nHW; have HB := nHB; clear nHX nHW nHB; have c2 := HX.out.cell 4; have c3 := HX.out.cell 5; have d1 := HW.out.cell 2; simp only [List.getElem?_toArray, List.getElem?_cons_succ, List.getElem?_cons_zero] at c2 c3 d1) | (go_at_fn 95; (with_reducible refine (H3.out _).mono ?_); rintro e w1 ⟨rfl, hb1⟩; have nHX := Lib.hid (HX.out.below hb1); have nHW := Lib.hid (HW.out.below hb1); have nHB := Lib.hid (bthen HB.out hb1); clear HX HW HB hb1; have HX := nHX; have HW := nHW; have HB := nHB; clear nHX nHW nHB; have c2 := HX.out.cell 6; have c3 := HX.out.cell 7; have d1 := HW.out.cell 3; have d2 := HW.out.cell 4; simp only [List.getElem?_toArray, List.getElem?_cons_succ, List.getElem?_cons_zero] at c2 c3 d1 d2))
    go_ret
    exact ⟨rfl, HB.out⟩
  cases B2
  · skip
    go_enter Tryz.func47, Tryz.ntmps47
    go_wp2_with (fail)
    have _x := frm2 w #[.int .i64 a0, .int .i64 a1, .int .i64 a2, .int .i64 a3, .int .i64 a4, .int .i64 a5, .bool xi, .bool xs] 108 #[.int .i64 p, .int .i64 q, .int .i64 r, .bool wi, .bool ws] 57
    have HX := Lib.hid _x.1
    have HW := Lib.hid _x.2.1
    have HB := Lib.hid _x.2.2.1
    have zW := _x.2.2.2
    clear _x
    generalize World.alloc (World.alloc w _) _ = W at *
    have zHX := HX.out.lt
    have cHX0 := HX.out.cell 0
    have cHX1 := HX.out.cell 1
    have zHW := HW.out.lt
    have cHW0 := HW.out.cell 0
    go_wp2_with (first | (go_at_fn 95; (with_reducible refine (H1.out _).mono ?_); rintro e w1 ⟨rfl, hb1⟩; have nHX := Lib.hid (HX.out.below hb1); have nHW := Lib.hid (HW.out.below hb1); have nHB := Lib.hid (bthen HB.out hb1); clear HX HW HB hb1; have HX := nHX; have HW := nHW; have HB := nHB; clear nHX nHW nHB; have c2 := HX.out.cell 2; have c3 := HX.out.cell 3; have d1 := HW.out.cell 1; simp only [List.getElem?_toArray, List.getElem?_cons_succ, List.getElem?_cons_zero] at c2 c3 d1) | (go_at_fn 95; (with_reducible refine (H2.out _).mono ?_); rintro e w1 ⟨rfl, hb1⟩; have nHX := Lib.hid (HX.out.below hb1); have nHW := Lib.hid (HW.out.below hb1); have nHB := Lib.hid (bthen HB.out hb1); clear HX HW HB hb1; have HX := nHX; have HW := nHW; have HB := nHB; clear nHX nHW nHB; have c2 := HX.out.cell 4; have c3 := HX.out.cell 5; have d1 := HW.out.cell 2; simp only [List.getElem?_toArray, List.getElem?_cons_succ, List.getElem?_cons_zero] at c2 c3 d1) | (go_at_fn 95; (with_reducible refine (H3.out _).mono ?_); rintro e w1 ⟨rfl, hb1⟩; have nHX := Lib.hid (HX.out.below hb1); have nHW := Lib.hid (HW.out.below hb1); have nHB := Lib.hid (bthen HB.out hb1); clear HX HW HB hb1; have HX := nHX; have HW := nHW; have HB := nHB; clear nHX nHW nHB; have c2 := HX.out.cell 6; have c3 := HX.out.cell 7; have d1 := HW.out.cell 3; have d2 := HW.out.cell 4; simp only [List.getElem?_toArray, List.getElem?_cons_succ, List.getElem?_cons_zero] at c2 c3 d1 d2))
    go_ret
    exact ⟨rfl, HB.out⟩
  cases B3
  · skip
    go_enter Tryz.func47, Tryz.ntmps47
    go_wp2_with (fail)
    have _x := frm2 w #[.int .i64 a0, .int .i64 a1, .int .i64 a2, .int .i64 a3, .int .i64 a4, .int .i64 a5, .bool xi, .bool xs] 108 #[.int .i64 p, .int .i64 q, .int .i64 r, .bool wi, .bool ws] 57
    have HX := Lib.hid _x.1
    have HW := Lib.hid _x.2.1
    have HB := Lib.hid _x.2.2.1
    have zW := _x.2.2.2
    clear _x
    generalize World.alloc (World.alloc w _) _ = W at *
    have zHX := HX.out.lt
    have cHX0 := HX.out.cell 0
    have cHX1 := HX.out.cell 1
    have zHW := HW.out.lt
    have cHW0 := HW.out.cell 0
    go_wp2_with (first | (go_at_fn 95; (with_reducible refine (H1.out _).mono ?_); rintro e w1 ⟨rfl, hb1⟩; have nHX := Lib.hid (HX.out.below hb1); have nHW := Lib.hid (HW.out.below hb1); have nHB := Lib.hid (bthen HB.out hb1); clear HX HW HB hb1; have HX := nHX; have HW := nHW; have HB := nHB; clear nHX nHW nHB; have c2 := HX.out.cell 2; have c3 := HX.out.cell 3; have d1 := HW.out.cell 1; simp only [List.getElem?_toArray, List.getElem?_cons_succ, List.getElem?_cons_zero] at c2 c3 d1) | (go_at_fn 95; (with_reducible refine (H2.out _).mono ?_); rintro e w1 ⟨rfl, hb1⟩; have nHX := Lib.hid (HX.out.below hb1); have nHW := Lib.hid (HW.out.below hb1); have nHB := Lib.hid (bthen HB.out hb1); clear HX HW HB hb1; have HX := nHX; have HW := nHW; have HB := nHB; clear nHX nHW nHB; have c2 := HX.out.cell 4; have c3 := HX.out.cell 5; have d1 := HW.out.cell 2; simp only [List.getElem?_toArray, List.getElem?_cons_succ, List.getElem?_cons_zero] at c2 c3 d1) | (go_at_fn 95; (with_reducible refine (H3.out _).mono ?_); rintro e w1 ⟨rfl, hb1⟩; have nHX := Lib.hid (HX.out.below hb1); have nHW := Lib.hid (HW.out.below hb1); have nHB := Lib.hid (bthen HB.out hb1); clear HX HW HB hb1; have HX := nHX; have HW := nHW; have HB := nHB; clear nHX nHW nHB; have c2 := HX.out.cell 6; have c3 := HX.out.cell 7; have d1 := HW.out.cell 3; have d2 := HW.out.cell 4; simp only [List.getElem?_toArray, List.getElem?_cons_succ, List.getElem?_cons_zero] at c2 c3 d1 d2))
    go_ret
    exact ⟨rfl, HB.out⟩
  cases xi <;> cases xs <;> cases wi <;> cases ws
  · skip
    go_enter Tryz.func47, Tryz.ntmps47
    go_wp2_with (fail)
    have _x := frm2 w #[.int .i64 a0, .int .i64 a1, .int .i64 a2, .int .i64 a3, .int .i64 a4, .int .i64 a5, .bool false, .bool false] 108 #[.int .i64 p, .int .i64 q, .int .i64 r, .bool false, .bool false] 57
    have HX := Lib.hid _x.1
    have HW := Lib.hid _x.2.1
    have HB := Lib.hid _x.2.2.1
    have zW := _x.2.2.2
    clear _x
    generalize World.alloc (World.alloc w _) _ = W at *
    have zHX := HX.out.lt
    have cHX0 := HX.out.cell 0
    have cHX1 := HX.out.cell 1
    have zHW := HW.out.lt
    have cHW0 := HW.out.cell 0
    go_wp2_with (first | (go_at_fn 95; (with_reducible refine (H1.out _).mono ?_); rintro e w1 ⟨rfl, hb1⟩; have nHX := Lib.hid (HX.out.below hb1); have nHW := Lib.hid (HW.out.below hb1); have nHB := Lib.hid (bthen HB.out hb1); clear HX HW HB hb1; have HX := nHX; have HW := nHW; have HB := nHB; clear nHX nHW nHB; have c2 := HX.out.cell 2; have c3 := HX.out.cell 3; have d1 := HW.out.cell 1; simp only [List.getElem?_toArray, List.getElem?_cons_succ, List.getElem?_cons_zero] at c2 c3 d1) | (go_at_fn 95; (with_reducible refine (H2.out _).mono ?_); rintro e w1 ⟨rfl, hb1⟩; have nHX := Lib.hid (HX.out.below hb1); have nHW := Lib.hid (HW.out.below hb1); have nHB := Lib.hid (bthen HB.out hb1); clear HX HW HB hb1; have HX := nHX; have HW := nHW; have HB := nHB; clear nHX nHW nHB; have c2 := HX.out.cell 4; have c3 := HX.out.cell 5; have d1 := HW.out.cell 2; simp only [List.getElem?_toArray, List.getElem?_cons_succ, List.getElem?_cons_zero] at c2 c3 d1) | (go_at_fn 95; (with_reducible refine (H3.out _).mono ?_); rintro e w1 ⟨rfl, hb1⟩; have nHX := Lib.hid (HX.out.below hb1); have nHW := Lib.hid (HW.out.below hb1); have nHB := Lib.hid (bthen HB.out hb1); clear HX HW HB hb1; have HX := nHX; have HW := nHW; have HB := nHB; clear nHX nHW nHB; have c2 := HX.out.cell 6; have c3 := HX.out.cell 7; have d1 := HW.out.cell 3; have d2 := HW.out.cell 4; simp only [List.getElem?_toArray, List.getElem?_cons_succ, List.getElem?_cons_zero] at c2 c3 d1 d2))
    go_ret
    exact ⟨rfl, HB.out⟩
  · skip
    go_enter Tryz.func47, Tryz.ntmps47
    go_wp2_with (fail)
    have _x := frm2 w #[.int .i64 a0, .int .i64 a1, .int .i64 a2, .int .i64 a3, .int .i64 a4, .int .i64 a5, .bool false, .bool false] 108 #[.int .i64 p, .int .i64 q, .int .i64 r, .bool false, .bool true] 57
    have HX := Lib.hid _x.1
    have HW := Lib.hid _x.2.1
    have HB := Lib.hid _x.2.2.1
    have zW := _x.2.2.2
    clear _x
    generalize World.alloc (World.alloc w _) _ = W at *
    have zHX := HX.out.lt
    have cHX0 := HX.out.cell 0
    have cHX1 := HX.out.cell 1
    have zHW := HW.out.lt
    have cHW0 := HW.out.cell 0
    go_wp2_with (first | (go_at_fn 95; (with_reducible refine (H1.out _).mono ?_); rintro e w1 ⟨rfl, hb1⟩; have nHX := Lib.hid (HX.out.below hb1); have nHW := Lib.hid (HW.out.below hb1); have nHB := Lib.hid (bthen HB.out hb1); clear HX HW HB hb1; have HX := nHX; have HW := nHW; have HB := nHB; clear nHX nHW nHB; have c2 := HX.out.cell 2; have c3 := HX.out.cell 3; have d1 := HW.out.cell 1; simp only [List.getElem?_toArray, List.getElem?_cons_succ, List.getElem?_cons_zero] at c2 c3 d1) | (go_at_fn 95; (with_reducible refine (H2.out _).mono ?_); rintro e w1 ⟨rfl, hb1⟩; have nHX := Lib.hid (HX.out.below hb1); have nHW := Lib.hid (HW.out.below hb1); have nHB := Lib.hid (bthen HB.out hb1); clear HX HW HB hb1; have HX := nHX; have HW := nHW; have HB := nHB; clear nHX nHW nHB; have c2 := HX.out.cell 4; have c3 := HX.out.cell 5; have d1 := HW.out.cell 2; simp only [List.getElem?_toArray, List.getElem?_cons_succ, List.getElem?_cons_zero] at c2 c3 d1) | (go_at_fn 95; (with_reducible refine (H3.out _).mono ?_); rintro e w1 ⟨rfl, hb1⟩; have nHX := Lib.hid (HX.out.below hb1); have nHW := Lib.hid (HW.out.below hb1); have nHB := Lib.hid (bthen HB.out hb1); clear HX HW HB hb1; have HX := nHX; have HW := nHW; have HB := nHB; clear nHX nHW nHB; have c2 := HX.out.cell 6; have c3 := HX.out.cell 7; have d1 := HW.out.cell 3; have d2 := HW.out.cell 4; simp only [List.getElem?_toArray, List.getElem?_cons_succ, List.getElem?_cons_zero] at c2 c3 d1 d2))
    go_ret
    exact ⟨rfl, HB.out⟩
  · skip
    go_enter Tryz.func47, Tryz.ntmps47
    go_wp2_with (fail)
    have _x := frm2 w #[.int .i64 a0, .int .i64 a1, .int .i64 a2, .int .i64 a3, .int .i64 a4, .int .i64 a5, .bool false, .bool false] 108 #[.int .i64 p, .int .i64 q, .int .i64 r, .bool true, .bool false] 57
    have HX := Lib.hid _x.1
    have HW := Lib.hid _x.2.1
    have HB := Lib.hid _x.2.2.1
    have zW := _x.2.2.2
    clear _x
    generalize World.alloc (World.alloc w _) _ = W at *
    have zHX := HX.out.lt
    have cHX0 := HX.out.cell 0
    have cHX1 := HX.out.cell 1
    have zHW := HW.out.lt
    have cHW0 := HW.out.cell 0
    go_wp2_with (first | (go_at_fn 95; (with_reducible refine (H1.out _).mono ?_); rintro e w1 ⟨rfl, hb1⟩; have nHX := Lib.hid (HX.out.below hb1); have nHW := Lib.hid (HW.out.below hb1); have nHB := Lib.hid (bthen HB.out hb1); clear HX HW HB hb1; have HX := nHX; have HW := nHW; have HB := nHB; clear nHX nHW nHB; have c2 := HX.out.cell 2; have c3 := HX.out.cell 3; have d1 := HW.out.cell 1; simp only [List.getElem?_toArray, List.getElem?_cons_succ, List.getElem?_cons_zero] at c2 c3 d1) | (go_at_fn 95; (with_reducible refine (H2.out _).mono ?_); rintro e w1 ⟨rfl, hb1⟩; have nHX := Lib.hid (HX.out.below hb1); have nHW := Lib.hid (HW.out.below hb1); have nHB := Lib.hid (bthen HB.out hb1); clear HX HW HB hb1; have HX := nHX; have HW := nHW; have HB := nHB; clear nHX nHW nHB; have c2 := HX.out.cell 4; have c3 := HX.out.cell 5; have d1 := HW.out.cell 2; simp only [List.getElem?_toArray, List.getElem?_cons_succ, List.getElem?_cons_zero] at c2 c3 d1) | (go_at_fn 95; (with_reducible refine (H3.out _).mono ?_); rintro e w1 ⟨rfl, hb1⟩; have nHX := Lib.hid (HX.out.below hb1); have nHW := Lib.hid (HW.out.below hb1); have nHB := Lib.hid (bthen HB.out hb1); clear HX HW HB hb1; have HX := nHX; have HW := nHW; have HB := nHB; clear nHX nHW nHB; have c2 := HX.out.cell 6; have c3 := HX.out.cell 7; have d1 := HW.out.cell 3; have d2 := HW.out.cell 4; simp only [List.getElem?_toArray, List.getElem?_cons_succ, List.getElem?_cons_zero] at c2 c3 d1 d2))
    go_ret
    exact ⟨rfl, HB.out⟩
  · skip
    go_enter Tryz.func47, Tryz.ntmps47
    go_wp2_with (fail)
    have _x := frm2 w #[.int .i64 a0, .int .i64 a1, .int .i64 a2, .int .i64 a3, .int .i64 a4, .int .i64 a5, .bool false, .bool false] 108 #[.int .i64 p, .int .i64 q, .int .i64 r, .bool true, .bool true] 57
    have HX := Lib.hid _x.1
    have HW := Lib.hid _x.2.1
    have HB := Lib.hid _x.2.2.1
    have zW := _x.2.2.2
    clear _x
    generalize World.alloc (World.alloc w _) _ = W at *
    have zHX := HX.out.lt
    have cHX0 := HX.out.cell 0
    have cHX1 := HX.out.cell 1
    have zHW := HW.out.lt
    have cHW0 := HW.out.cell 0
    go_wp2_with (first | (go_at_fn 95; (with_reducible refine (H1.out _).mono ?_); rintro e w1 ⟨rfl, hb1⟩; have nHX := Lib.hid (HX.out.below hb1); have nHW := Lib.hid (HW.out.below hb1); have nHB := Lib.hid (bthen HB.out hb1); clear HX HW HB hb1; have HX := nHX; have HW := nHW; have HB := nHB; clear nHX nHW nHB; have c2 := HX.out.cell 2; have c3 := HX.out.cell 3; have d1 := HW.out.cell 1; simp only [List.getElem?_toArray, List.getElem?_cons_succ, List.getElem?_cons_zero] at c2 c3 d1) | (go_at_fn 95; (with_reducible refine (H2.out _).mono ?_); rintro e w1 ⟨rfl, hb1⟩; have nHX := Lib.hid (HX.out.below hb1); have nHW := Lib.hid (HW.out.below hb1); have nHB := Lib.hid (bthen HB.out hb1); clear HX HW HB hb1; have HX := nHX; have HW := nHW; have HB := nHB; clear nHX nHW nHB; have c2 := HX.out.cell 4; have c3 := HX.out.cell 5; have d1 := HW.out.cell 2; simp only [List.getElem?_toArray, List.getElem?_cons_succ, List.getElem?_cons_zero] at c2 c3 d1) | (go_at_fn 95; (with_reducible refine (H3.out _).mono ?_); rintro e w1 ⟨rfl, hb1⟩; have nHX := Lib.hid (HX.out.below hb1); have nHW := Lib.hid (HW.out.below hb1); have nHB := Lib.hid (bthen HB.out hb1); clear HX HW HB hb1; have HX := nHX; have HW := nHW; have HB := nHB; clear nHX nHW nHB; have c2 := HX.out.cell 6; have c3 := HX.out.cell 7; have d1 := HW.out.cell 3; have d2 := HW.out.cell 4; simp only [List.getElem?_toArray, List.getElem?_cons_succ, List.getElem?_cons_zero] at c2 c3 d1 d2))
    go_ret
    exact ⟨rfl, HB.out⟩
  · skip
    go_enter Tryz.func47, Tryz.ntmps47
    go_wp2_with (fail)
    have _x := frm2 w #[.int .i64 a0, .int .i64 a1, .int .i64 a2, .int .i64 a3, .int .i64 a4, .int .i64 a5, .bool false, .bool true] 108 #[.int .i64 p, .int .i64 q, .int .i64 r, .bool false, .bool false] 57
    have HX := Lib.hid _x.1
    have HW := Lib.hid _x.2.1
    have HB := Lib.hid _x.2.2.1
    have zW := _x.2.2.2
    clear _x
    generalize World.alloc (World.alloc w _) _ = W at *
    have zHX := HX.out.lt
    have cHX0 := HX.out.cell 0
    have cHX1 := HX.out.cell 1
    have zHW := HW.out.lt
    have cHW0 := HW.out.cell 0
    go_wp2_with (first | (go_at_fn 95; (with_reducible refine (H1.out _).mono ?_); rintro e w1 ⟨rfl, hb1⟩; have nHX := Lib.hid (HX.out.below hb1); have nHW := Lib.hid (HW.out.below hb1); have nHB := Lib.hid (bthen HB.out hb1); clear HX HW HB hb1; have HX := nHX; have HW := nHW; have HB := nHB; clear nHX nHW nHB; have c2 := HX.out.cell 2; have c3 := HX.out.cell 3; have d1 := HW.out.cell 1; simp only [List.getElem?_toArray, List.getElem?_cons_succ, List.getElem?_cons_zero] at c2 c3 d1) | (go_at_fn 95; (with_reducible refine (H2.out _).mono ?_); rintro e w1 ⟨rfl, hb1⟩; have nHX := Lib.hid (HX.out.below hb1); have nHW := Lib.hid (HW.out.below hb1); have nHB := Lib.hid (bthen HB.out hb1); clear HX HW HB hb1; have HX := nHX; have HW := nHW; have HB := nHB; clear nHX nHW nHB; have c2 := HX.out.cell 4; have c3 := HX.out.cell 5; have d1 := HW.out.cell 2; simp only [List.getElem?_toArray, List.getElem?_cons_succ, List.getElem?_cons_zero] at c2 c3 d1) | (go_at_fn 95; (with_reducible refine (H3.out _).mono ?_); rintro e w1 ⟨rfl, hb1⟩; have nHX := Lib.hid (HX.out.below hb1); have nHW := Lib.hid (HW.out.below hb1); have nHB := Lib.hid (bthen HB.out hb1); clear HX HW HB hb1; have HX := nHX; have HW := nHW; have HB := nHB; clear nHX nHW nHB; have c2 := HX.out.cell 6; have c3 := HX.out.cell 7; have d1 := HW.out.cell 3; have d2 := HW.out.cell 4; simp only [List.getElem?_toArray, List.getElem?_cons_succ, List.getElem?_cons_zero] at c2 c3 d1 d2))
    go_ret
    exact ⟨rfl, HB.out⟩
  · skip
    go_enter Tryz.func47, Tryz.ntmps47
    go_wp2_with (fail)
    have _x := frm2 w #[.int .i64 a0, .int .i64 a1, .int .i64 a2, .int .i64 a3, .int .i64 a4, .int .i64 a5, .bool false, .bool true] 108 #[.int .i64 p, .int .i64 q, .int .i64 r, .bool false, .bool true] 57
    have HX := Lib.hid _x.1
    have HW := Lib.hid _x.2.1
    have HB := Lib.hid _x.2.2.1
    have zW := _x.2.2.2
    clear _x
    generalize World.alloc (World.alloc w _) _ = W at *
    have zHX := HX.out.lt
    have cHX0 := HX.out.cell 0
    have cHX1 := HX.out.cell 1
    have zHW := HW.out.lt
    have cHW0 := HW.out.cell 0
    go_wp2_with (first | (go_at_fn 95; (with_reducible refine (H1.out _).mono ?_); rintro e w1 ⟨rfl, hb1⟩; have nHX := Lib.hid (HX.out.below hb1); have nHW := Lib.hid (HW.out.below hb1); have nHB := Lib.hid (bthen HB.out hb1); clear HX HW HB hb1; have HX := nHX; have HW := nHW; have HB := nHB; clear nHX nHW nHB; have c2 := HX.out.cell 2; have c3 := HX.out.cell 3; have d1 := HW.out.cell 1; simp only [List.getElem?_toArray, List.getElem?_cons_succ, List.getElem?_cons_zero] at c2 c3 d1) | (go_at_fn 95; (with_reducible refine (H2.out _).mono ?_); rintro e w1 ⟨rfl, hb1⟩; have nHX := Lib.hid (HX.out.below hb1); have nHW := Lib.hid (HW.out.below hb1); have nHB := Lib.hid (bthen HB.out hb1); clear HX HW HB hb1; have HX := nHX; have HW := nHW; have HB := nHB; clear nHX nHW nHB; have c2 := HX.out.cell 4; have c3 := HX.out.cell 5; have d1 := HW.out.cell 2; simp only [List.getElem?_toArray, List.getElem?_cons_succ, List.getElem?_cons_zero] at c2 c3 d1) | (go_at_fn 95; (with_reducible refine (H3.out _).mono ?_); rintro e w1 ⟨rfl, hb1⟩; have nHX := Lib.hid (HX.out.below hb1); have nHW := Lib.hid (HW.out.below hb1); have nHB := Lib.hid (bthen HB.out hb1); clear HX HW HB hb1; have HX := nHX; have HW := nHW; have HB := nHB; clear nHX nHW nHB; have c2 := HX.out.cell 6; have c3 := HX.out.cell 7; have d1 := HW.out.cell 3; have d2 := HW.out.cell 4; simp only [List.getElem?_toArray, List.getElem?_cons_succ, List.getElem?_cons_zero] at c2 c3 d1 d2))
    go_ret
    exact ⟨rfl, HB.out⟩
  · skip
    go_enter Tryz.func47, Tryz.ntmps47
    go_wp2_with (fail)
    have _x := frm2 w #[.int .i64 a0, .int .i64 a1, .int .i64 a2, .int .i64 a3, .int .i64 a4, .int .i64 a5, .bool false, .bool true] 108 #[.int .i64 p, .int .i64 q, .int .i64 r, .bool true, .bool false] 57
    have HX := Lib.hid _x.1
    have HW := Lib.hid _x.2.1
    have HB := Lib.hid _x.2.2.1
    have zW := _x.2.2.2
    clear _x
    generalize World.alloc (World.alloc w _) _ = W at *
    have zHX := HX.out.lt
    have cHX0 := HX.out.cell 0
    have cHX1 := HX.out.cell 1
    have zHW := HW.out.lt
    have cHW0 := HW.out.cell 0
    go_wp2_with (first | (go_at_fn 95; (with_reducible refine (H1.out _).mono ?_); rintro e w1 ⟨rfl, hb1⟩; have nHX := Lib.hid (HX.out.below hb1); have nHW := Lib.hid (HW.out.below hb1); have nHB := Lib.hid (bthen HB.out hb1); clear HX HW HB hb1; have HX := nHX; have HW := nHW; have HB := nHB; clear nHX nHW nHB; have c2 := HX.out.cell 2; have c3 := HX.out.cell 3; have d1 := HW.out.cell 1; simp only [List.getElem?_toArray, List.getElem?_cons_succ, List.getElem?_cons_zero] at c2 c3 d1) | (go_at_fn 95; (with_reducible refine (H2.out _).mono ?_); rintro e w1 ⟨rfl, hb1⟩; have nHX := Lib.hid (HX.out.below hb1); have nHW := Lib.hid (HW.out.below hb1); have nHB := Lib.hid (bthen HB.out hb1); clear HX HW HB hb1; have HX := nHX; have HW := nHW; have HB := nHB; clear nHX nHW nHB; have c2 := HX.out.cell 4; have c3 := HX.out.cell 5; have d1 := HW.out.cell 2; simp only [List.getElem?_toArray, List.getElem?_cons_succ, List.getElem?_cons_zero] at c2 c3 d1) | (go_at_fn 95; (with_reducible refine (H3.out _).mono ?_); rintro e w1 ⟨rfl, hb1⟩; have nHX := Lib.hid (HX.out.below hb1); have nHW := Lib.hid (HW.out.below hb1); have nHB := Lib.hid (bthen HB.out hb1); clear HX HW HB hb1; have HX := nHX; have HW := nHW; have HB := nHB; clear nHX nHW nHB; have c2 := HX.out.cell 6; have c3 := HX.out.cell 7; have d1 := HW.out.cell 3; have d2 := HW.out.cell 4; simp only [List.getElem?_toArray, List.getElem?_cons_succ, List.getElem?_cons_zero] at c2 c3 d1 d2))
    go_ret
    exact ⟨rfl, HB.out⟩
  · skip
    go_enter Tryz.func47, Tryz.ntmps47
    go_wp2_with (fail)
    have _x := frm2 w #[.int .i64 a0, .int .i64 a1, .int .i64 a2, .int .i64 a3, .int .i64 a4, .int .i64 a5, .bool false, .bool true] 108 #[.int .i64 p, .int .i64 q, .int .i64 r, .bool true, .bool true] 57
    have HX := Lib.hid _x.1
    have HW := Lib.hid _x.2.1
    have HB := Lib.hid _x.2.2.1
    have zW := _x.2.2.2
    clear _x
    generalize World.alloc (World.alloc w _) _ = W at *
    have zHX := HX.out.lt
    have cHX0 := HX.out.cell 0
    have cHX1 := HX.out.cell 1
    have zHW := HW.out.lt
    have cHW0 := HW.out.cell 0
    go_wp2_with (first | (go_at_fn 95; (with_reducible refine (H1.out _).mono ?_); rintro e w1 ⟨rfl, hb1⟩; have nHX := Lib.hid (HX.out.below hb1); have nHW := Lib.hid (HW.out.below hb1); have nHB := Lib.hid (bthen HB.out hb1); clear HX HW HB hb1; have HX := nHX; have HW := nHW; have HB := nHB; clear nHX nHW nHB; have c2 := HX.out.cell 2; have c3 := HX.out.cell 3; have d1 := HW.out.cell 1; simp only [List.getElem?_toArray, List.getElem?_cons_succ, List.getElem?_cons_zero] at c2 c3 d1) | (go_at_fn 95; (with_reducible refine (H2.out _).mono ?_); rintro e w1 ⟨rfl, hb1⟩; have nHX := Lib.hid (HX.out.below hb1); have nHW := Lib.hid (HW.out.below hb1); have nHB := Lib.hid (bthen HB.out hb1); clear HX HW HB hb1; have HX := nHX; have HW := nHW; have HB := nHB; clear nHX nHW nHB; have c2 := HX.out.cell 4; have c3 := HX.out.cell 5; have d1 := HW.out.cell 2; simp only [List.getElem?_toArray, List.getElem?_cons_succ, List.getElem?_cons_zero] at c2 c3 d1) | (go_at_fn 95; (with_reducible refine (H3.out _).mono ?_); rintro e w1 ⟨rfl, hb1⟩; have nHX := Lib.hid (HX.out.below hb1); have nHW := Lib.hid (HW.out.below hb1); have nHB := Lib.hid (bthen HB.out hb1); clear HX HW HB hb1; have HX := nHX; have HW := nHW; have HB := nHB; clear nHX nHW nHB; have c2 := HX.out.cell 6; have c3 := HX.out.cell 7; have d1 := HW.out.cell 3; have d2 := HW.out.cell 4; simp only [List.getElem?_toArray, List.getElem?_cons_succ, List.getElem?_cons_zero] at c2 c3 d1 d2))
    go_ret
    exact ⟨rfl, HB.out⟩
  · skip
    go_enter Tryz.func47, Tryz.ntmps47
    go_wp2_with (fail)
    have _x := frm2 w #[.int .i64 a0, .int .i64 a1, .int .i64 a2, .int .i64 a3, .int .i64 a4, .int .i64 a5, .bool true, .bool false] 108 #[.int .i64 p, .int .i64 q, .int .i64 r, .bool false, .bool false] 57
    have HX := Lib.hid _x.1
    have HW := Lib.hid _x.2.1
    have HB := Lib.hid _x.2.2.1
    have zW := _x.2.2.2
    clear _x
    generalize World.alloc (World.alloc w _) _ = W at *
    have zHX := HX.out.lt
    have cHX0 := HX.out.cell 0
    have cHX1 := HX.out.cell 1
    have zHW := HW.out.lt
    have cHW0 := HW.out.cell 0
    go_wp2_with (first | (go_at_fn 95; (with_reducible refine (H1.out _).mono ?_); rintro e w1 ⟨rfl, hb1⟩; have nHX := Lib.hid (HX.out.below hb1); have nHW := Lib.hid (HW.out.below hb1); have nHB := Lib.hid (bthen HB.out hb1); clear HX HW HB hb1; have HX := nHX; have HW := nHW; have HB := nHB; clear nHX nHW nHB; have c2 := HX.out.cell 2; have c3 := HX.out.cell 3; have d1 := HW.out.cell 1; simp only [List.getElem?_toArray, List.getElem?_cons_succ, List.getElem?_cons_zero] at c2 c3 d1) | (go_at_fn 95; (with_reducible refine (H2.out _).mono ?_); rintro e w1 ⟨rfl, hb1⟩; have nHX := Lib.hid (HX.out.below hb1); have nHW := Lib.hid (HW.out.below hb1); have nHB := Lib.hid (bthen HB.out hb1); clear HX HW HB hb1; have HX := nHX; have HW := nHW; have HB := nHB; clear nHX nHW nHB; have c2 := HX.out.cell 4; have c3 := HX.out.cell 5; have d1 := HW.out.cell 2; simp only [List.getElem?_toArray, List.getElem?_cons_succ, List.getElem?_cons_zero] at c2 c3 d1) | (go_at_fn 95; (with_reducible refine (H3.out _).mono ?_); rintro e w1 ⟨rfl, hb1⟩; have nHX := Lib.hid (HX.out.below hb1); have nHW := Lib.hid (HW.out.below hb1); have nHB := Lib.hid (bthen HB.out hb1); clear HX HW HB hb1; have HX := nHX; have HW := nHW; have HB := nHB; clear nHX nHW nHB; have c2 := HX.out.cell 6; have c3 := HX.out.cell 7; have d1 := HW.out.cell 3; have d2 := HW.out.cell 4; simp only [List.getElem?_toArray, List.getElem?_cons_succ, List.getElem?_cons_zero] at c2 c3 d1 d2))
    go_ret
    exact ⟨rfl, HB.out⟩
  · skip
    go_enter Tryz.func47, Tryz.ntmps47
    go_wp2_with (fail)
    have _x := frm2 w #[.int .i64 a0, .int .i64 a1, .int .i64 a2, .int .i64 a3, .int .i64 a4, .int .i64 a5, .bool true, .bool false] 108 #[.int .i64 p, .int .i64 q, .int .i64 r, .bool false, .bool true] 57
    have HX := Lib.hid _x.1
    have HW := Lib.hid _x.2.1
    have HB := Lib.hid _x.2.2.1
    have zW := _x.2.2.2
    clear _x
    generalize World.alloc (World.alloc w _) _ = W at *
    have zHX := HX.out.lt
    have cHX0 := HX.out.cell 0
    have cHX1 := HX.out.cell 1
    have zHW := HW.out.lt
    have cHW0 := HW.out.cell 0
    go_wp2_with (first | (go_at_fn 95; (with_reducible refine (H1.out _).mono ?_); rintro e w1 ⟨rfl, hb1⟩; have nHX := Lib.hid (HX.out.below hb1); have nHW := Lib.hid (HW.out.below hb1); have nHB := Lib.hid (bthen HB.out hb1); clear HX HW HB hb1; have HX := nHX; have HW := nHW; have HB := nHB; clear nHX nHW nHB; have c2 := HX.out.cell 2; have c3 := HX.out.cell 3; have d1 := HW.out.cell 1; simp only [List.getElem?_toArray, List.getElem?_cons_succ, List.getElem?_cons_zero] at c2 c3 d1) | (go_at_fn 95; (with_reducible refine (H2.out _).mono ?_); rintro e w1 ⟨rfl, hb1⟩; have nHX := Lib.hid (HX.out.below hb1); have nHW := Lib.hid (HW.out.below hb1); have nHB := Lib.hid (bthen HB.out hb1); clear HX HW HB hb1; have HX := nHX; have HW := nHW; have HB := nHB; clear nHX nHW nHB; have c2 := HX.out.cell 4; have c3 := HX.out.cell 5; have d1 := HW.out.cell 2; simp only [List.getElem?_toArray, List.getElem?_cons_succ, List.getElem?_cons_zero] at c2 c3 d1) | (go_at_fn 95; (with_reducible refine (H3.out _).mono ?_); rintro e w1 ⟨rfl, hb1⟩; have nHX := Lib.hid (HX.out.below hb1); have nHW := Lib.hid (HW.out.below hb1); have nHB := Lib.hid (bthen HB.out hb1); clear HX HW HB hb1; have HX := nHX; have HW := nHW; have HB := nHB; clear nHX nHW nHB; have c2 := HX.out.cell 6; have c3 := HX.out.cell 7; have d1 := HW.out.cell 3; have d2 := HW.out.cell 4; simp only [List.getElem?_toArray, List.getElem?_cons_succ, List.getElem?_cons_zero] at c2 c3 d1 d2))
    go_ret
    exact ⟨rfl, HB.out⟩
  · skip
    go_enter Tryz.func47, Tryz.ntmps47
    go_wp2_with (fail)
    have _x := frm2 w #[.int .i64 a0, .int .i64 a1, .int .i64 a2, .int .i64 a3, .int .i64 a4, .int .i64 a5, .bool true, .bool false] 108 #[.int .i64 p, .int .i64 q, .int .i64 r, .bool true, .bool false] 57
    have HX := Lib.hid _x.1
    have HW := Lib.hid _x.2.1
    have HB := Lib.hid _x.2.2.1
    have zW := _x.2.2.2
    clear _x
    generalize World.alloc (World.alloc w _) _ = W at *
    have zHX := HX.out.lt
    have cHX0 := HX.out.cell 0
    have cHX1 := HX.out.cell 1
    have zHW := HW.out.lt
    have cHW0 := HW.out.cell 0
    go_wp2_with (first | (go_at_fn 95; (with_reducible refine (H1.out _).mono ?_); rintro e w1 ⟨rfl, hb1⟩; have nHX := Lib.hid (HX.out.below hb1); have nHW := Lib.hid (HW.out.below hb1); have nHB := Lib.hid (bthen HB.out hb1); clear HX HW HB hb1; have HX := nHX; have HW := nHW; have HB := nHB; clear nHX nHW nHB; have c2 := HX.out.cell 2; have c3 := HX.out.cell 3; have d1 := HW.out.cell 1; simp only [List.getElem?_toArray, List.getElem?_cons_succ, List.getElem?_cons_zero] at c2 c3 d1) | (go_at_fn 95; (with_reducible refine (H2.out _).mono ?_); rintro e w1 ⟨rfl, hb1⟩; have nHX := Lib.hid (HX.out.below hb1); have nHW := Lib.hid (HW.out.below hb1); have nHB := Lib.hid (bthen HB.out hb1); clear HX HW HB hb1; have HX := nHX; have HW := nHW; have HB := nHB; clear nHX nHW nHB; have c2 := HX.out.cell 4; have c3 := HX.out.cell 5; have d1 := HW.out.cell 2; simp only [List.getElem?_toArray, List.getElem?_cons_succ, List.getElem?_cons_zero] at c2 c3 d1) | (go_at_fn 95; (with_reducible refine (H3.out _).mono ?_); rintro e w1 ⟨rfl, hb1⟩; have nHX := Lib.hid (HX.out.below hb1); have nHW := Lib.hid (HW.out.below hb1); have nHB := Lib.hid (bthen HB.out hb1); clear HX HW HB hb1; have HX := nHX; have HW := nHW; have HB := nHB; clear nHX nHW nHB; have c2 := HX.out.cell 6; have c3 := HX.out.cell 7; have d1 := HW.out.cell 3; have d2 := HW.out.cell 4; simp only [List.getElem?_toArray, List.getElem?_cons_succ, List.getElem?_cons_zero] at c2 c3 d1 d2))
    go_ret
    exact ⟨rfl, HB.out⟩
  · skip
    go_enter Tryz.func47, Tryz.ntmps47
    go_wp2_with (fail)
    have _x := frm2 w #[.int .i64 a0, .int .i64 a1, .int .i64 a2, .int .i64 a3, .int .i64 a4, .int .i64 a5, .bool true, .bool false] 108 #[.int .i64 p, .int .i64 q, .int .i64 r, .bool true, .bool true] 57
    have HX := Lib.hid _x.1
    have HW := Lib.hid _x.2.1
    have HB := Lib.hid _x.2.2.1
    have zW := _x.2.2.2
    clear _x
    generalize World.alloc (World.alloc w _) _ = W at *
    have zHX := HX.out.lt
    have cHX0 := HX.out.cell 0
    have cHX1 := HX.out.cell 1
    have zHW := HW.out.lt
    have cHW0 := HW.out.cell 0
    go_wp2_with (first | (go_at_fn 95; (with_reducible refine (H1.out _).mono ?_); rintro e w1 ⟨rfl, hb1⟩; have nHX := Lib.hid (HX.out.below hb1); have nHW := Lib.hid (HW.out.below hb1); have nHB := Lib.hid (bthen HB.out hb1); clear HX HW HB hb1; have HX := nHX; have HW := nHW; have HB := nHB; clear nHX nHW nHB; have c2 := HX.out.cell 2; have c3 := HX.out.cell 3; have d1 := HW.out.cell 1; simp only [List.getElem?_toArray, List.getElem?_cons_succ, List.getElem?_cons_zero] at c2 c3 d1) | (go_at_fn 95; (with_reducible refine (H2.out _).mono ?_); rintro e w1 ⟨rfl, hb1⟩; have nHX := Lib.hid (HX.out.below hb1); have nHW := Lib.hid (HW.out.below hb1); have nHB := Lib.hid (bthen HB.out hb1); clear HX HW HB hb1; have HX := nHX; have HW := nHW; have HB := nHB; clear nHX nHW nHB; have c2 := HX.out.cell 4; have c3 := HX.out.cell 5; have d1 := HW.out.cell 2; simp only [List.getElem?_toArray, List.getElem?_cons_succ, List.getElem?_cons_zero] at c2 c3 d1) | (go_at_fn 95; (with_reducible refine (H3.out _).mono ?_); rintro e w1 ⟨rfl, hb1⟩; have nHX := Lib.hid (HX.out.below hb1); have nHW := Lib.hid (HW.out.below hb1); have nHB := Lib.hid (bthen HB.out hb1); clear HX HW HB hb1; have HX := nHX; have HW := nHW; have HB := nHB; clear nHX nHW nHB; have c2 := HX.out.cell 6; have c3 := HX.out.cell 7; have d1 := HW.out.cell 3; have d2 := HW.out.cell 4; simp only [List.getElem?_toArray, List.getElem?_cons_succ, List.getElem?_cons_zero] at c2 c3 d1 d2))
    go_ret
    exact ⟨rfl, HB.out⟩
  · skip
    go_enter Tryz.func47, Tryz.ntmps47
    go_wp2_with (fail)
    have _x := frm2 w #[.int .i64 a0, .int .i64 a1, .int .i64 a2, .int .i64 a3, .int .i64 a4, .int .i64 a5, .bool true, .bool true] 108 #[.int .i64 p, .int .i64 q, .int .i64 r, .bool false, .bool false] 57
    have HX := Lib.hid _x.1
    have HW := Lib.hid _x.2.1
    have HB := Lib.hid _x.2.2.1
    have zW := _x.2.2.2
    clear _x
    generalize World.alloc (World.alloc w _) _ = W at *
    have zHX := HX.out.lt
    have cHX0 := HX.out.cell 0
    have cHX1 := HX.out.cell 1
    have zHW := HW.out.lt
    have cHW0 := HW.out.cell 0
    go_wp2_with (first | (go_at_fn 95; (with_reducible refine (H1.out _).mono ?_); rintro e w1 ⟨rfl, hb1⟩; have nHX := Lib.hid (HX.out.below hb1); have nHW := Lib.hid (HW.out.below hb1); have nHB := Lib.hid (bthen HB.out hb1); clear HX HW HB hb1; have HX := nHX; have HW := nHW; have HB := nHB; clear nHX nHW nHB; have c2 := HX.out.cell 2; have c3 := HX.out.cell 3; have d1 := HW.out.cell 1; simp only [List.getElem?_toArray, List.getElem?_cons_succ, List.getElem?_cons_zero] at c2 c3 d1) | (go_at_fn 95; (with_reducible refine (H2.out _).mono ?_); rintro e w1 ⟨rfl, hb1⟩; have nHX := Lib.hid (HX.out.below hb1); have nHW := Lib.hid (HW.out.below hb1); have nHB := Lib.hid (bthen HB.out hb1); clear HX HW HB hb1; have HX := nHX; have HW := nHW; have HB := nHB; clear nHX nHW nHB; have c2 := HX.out.cell 4; have c3 := HX.out.cell 5; have d1 := HW.out.cell 2; simp only [List.getElem?_toArray, List.getElem?_cons_succ, List.getElem?_cons_zero] at c2 c3 d1) | (go_at_fn 95; (with_reducible refine (H3.out _).mono ?_); rintro e w1 ⟨rfl, hb1⟩; have nHX := Lib.hid (HX.out.below hb1); have nHW := Lib.hid (HW.out.below hb1); have nHB := Lib.hid (bthen HB.out hb1); clear HX HW HB hb1; have HX := nHX; have HW := nHW; have HB := nHB; clear nHX nHW nHB; have c2 := HX.out.cell 6; have c3 := HX.out.cell 7; have d1 := HW.out.cell 3; have d2 := HW.out.cell 4; simp only [List.getElem?_toArray, List.getElem?_cons_succ, List.getElem?_cons_zero] at c2 c3 d1 d2))
    go_ret
    exact ⟨rfl, HB.out⟩
  · skip
    go_enter Tryz.func47, Tryz.ntmps47
    go_wp2_with (fail)
    have _x := frm2 w #[.int .i64 a0, .int .i64 a1, .int .i64 a2, .int .i64 a3, .int .i64 a4, .int .i64 a5, .bool true, .bool true] 108 #[.int .i64 p, .int .i64 q, .int .i64 r, .bool false, .bool true] 57
    have HX := Lib.hid _x.1
    have HW := Lib.hid _x.2.1
    have HB := Lib.hid _x.2.2.1
    have zW := _x.2.2.2
    clear _x
    generalize World.alloc (World.alloc w _) _ = W at *
    have zHX := HX.out.lt
    have cHX0 := HX.out.cell 0
    have cHX1 := HX.out.cell 1
    have zHW := HW.out.lt
    have cHW0 := HW.out.cell 0
    go_wp2_with (first | (go_at_fn 95; (with_reducible refine (H1.out _).mono ?_); rintro e w1 ⟨rfl, hb1⟩; have nHX := Lib.hid (HX.out.below hb1); have nHW := Lib.hid (HW.out.below hb1); have nHB := Lib.hid (bthen HB.out hb1); clear HX HW HB hb1; have HX := nHX; have HW := nHW; have HB := nHB; clear nHX nHW nHB; have c2 := HX.out.cell 2; have c3 := HX.out.cell 3; have d1 := HW.out.cell 1; simp only [List.getElem?_toArray, List.getElem?_cons_succ, List.getElem?_cons_zero] at c2 c3 d1) | (go_at_fn 95; (with_reducible refine (H2.out _).mono ?_); rintro e w1 ⟨rfl, hb1⟩; have nHX := Lib.hid (HX.out.below hb1); have nHW := Lib.hid (HW.out.below hb1); have nHB := Lib.hid (bthen HB.out hb1); clear HX HW HB hb1; have HX := nHX; have HW := nHW; have HB := nHB; clear nHX nHW nHB; have c2 := HX.out.cell 4; have c3 := HX.out.cell 5; have d1 := HW.out.cell 2; simp only [List.getElem?_toArray, List.getElem?_cons_succ, List.getElem?_cons_zero] at c2 c3 d1) | (go_at_fn 95; (with_reducible refine (H3.out _).mono ?_); rintro e w1 ⟨rfl, hb1⟩; have nHX := Lib.hid (HX.out.below hb1); have nHW := Lib.hid (HW.out.below hb1); have nHB := Lib.hid (bthen HB.out hb1); clear HX HW HB hb1; have HX := nHX; have HW := nHW; have HB := nHB; clear nHX nHW nHB; have c2 := HX.out.cell 6; have c3 := HX.out.cell 7; have d1 := HW.out.cell 3; have d2 := HW.out.cell 4; simp only [List.getElem?_toArray, List.getElem?_cons_succ, List.getElem?_cons_zero] at c2 c3 d1 d2))
    go_ret
    exact ⟨rfl, HB.out⟩
  · skip
    go_enter Tryz.func47, Tryz.ntmps47
    go_wp2_with (fail)
    have _x := frm2 w #[.int .i64 a0, .int .i64 a1, .int .i64 a2, .int .i64 a3, .int .i64 a4, .int .i64 a5, .bool true, .bool true] 108 #[.int .i64 p, .int .i64 q, .int .i64 r, .bool true, .bool false] 57
    have HX := Lib.hid _x.1
    have HW := Lib.hid _x.2.1
    have HB := Lib.hid _x.2.2.1
    have zW := _x.2.2.2
    clear _x
    generalize World.alloc (World.alloc w _) _ = W at *
    have zHX := HX.out.lt
    have cHX0 := HX.out.cell 0
    have cHX1 := HX.out.cell 1
    have zHW := HW.out.lt
    have cHW0 := HW.out.cell 0
    go_wp2_with (first | (go_at_fn 95; (with_reducible refine (H1.out _).mono ?_); rintro e w1 ⟨rfl, hb1⟩; have nHX := Lib.hid (HX.out.below hb1); have nHW := Lib.hid (HW.out.below hb1); have nHB := Lib.hid (bthen HB.out hb1); clear HX HW HB hb1; have HX := nHX; have HW := nHW; have HB := nHB; clear nHX nHW nHB; have c2 := HX.out.cell 2; have c3 := HX.out.cell 3; have d1 := HW.out.cell 1; simp only [List.getElem?_toArray, List.getElem?_cons_succ, List.getElem?_cons_zero] at c2 c3 d1) | (go_at_fn 95; (with_reducible refine (H2.out _).mono ?_); rintro e w1 ⟨rfl, hb1⟩; have nHX := Lib.hid (HX.out.below hb1); have nHW := Lib.hid (HW.out.below hb1); have nHB := Lib.hid (bthen HB.out hb1); clear HX HW HB hb1; have HX := nHX; have HW := nHW; have HB := nHB; clear nHX nHW nHB; have c2 := HX.out.cell 4; have c3 := HX.out.cell 5; have d1 := HW.out.cell 2; simp only [List.getElem?_toArray, List.getElem?_cons_succ, List.getElem?_cons_zero] at c2 c3 d1) | (go_at_fn 95; (with_reducible refine (H3.out _).mono ?_); rintro e w1 ⟨rfl, hb1⟩; have nHX := Lib.hid (HX.out.below hb1); have nHW := Lib.hid (HW.out.below hb1); have nHB := Lib.hid (bthen HB.out hb1); clear HX HW HB hb1; have HX := nHX; have HW := nHW; have HB := nHB; clear nHX nHW nHB; have c2 := HX.out.cell 6; have c3 := HX.out.cell 7; have d1 := HW.out.cell 3; have d2 := HW.out.cell 4; simp only [List.getElem?_toArray, List.getElem?_cons_succ, List.getElem?_cons_zero] at c2 c3 d1 d2))
    go_ret
    exact ⟨rfl, HB.out⟩
  · skip
    go_enter Tryz.func47, Tryz.ntmps47
    go_wp2_with (fail)
    have _x := frm2 w #[.int .i64 a0, .int .i64 a1, .int .i64 a2, .int .i64 a3, .int .i64 a4, .int .i64 a5, .bool true, .bool true] 108 #[.int .i64 p, .int .i64 q, .int .i64 r, .bool true, .bool true] 57
    have HX := Lib.hid _x.1
    have HW := Lib.hid _x.2.1
    have HB := Lib.hid _x.2.2.1
    have zW := _x.2.2.2
    clear _x
    generalize World.alloc (World.alloc w _) _ = W at *
    have zHX := HX.out.lt
    have cHX0 := HX.out.cell 0
    have cHX1 := HX.out.cell 1
    have zHW := HW.out.lt
    have cHW0 := HW.out.cell 0
    go_wp2_with (first | (go_at_fn 95; (with_reducible refine (H1.out _).mono ?_); rintro e w1 ⟨rfl, hb1⟩; have nHX := Lib.hid (HX.out.below hb1); have nHW := Lib.hid (HW.out.below hb1); have nHB := Lib.hid (bthen HB.out hb1); clear HX HW HB hb1; have HX := nHX; have HW := nHW; have HB := nHB; clear nHX nHW nHB; have c2 := HX.out.cell 2; have c3 := HX.out.cell 3; have d1 := HW.out.cell 1; simp only [List.getElem?_toArray, List.getElem?_cons_succ, List.getElem?_cons_zero] at c2 c3 d1) | (go_at_fn 95; (with_reducible refine (H2.out _).mono ?_); rintro e w1 ⟨rfl, hb1⟩; have nHX := Lib.hid (HX.out.below hb1); have nHW := Lib.hid (HW.out.below hb1); have nHB := Lib.hid (bthen HB.out hb1); clear HX HW HB hb1; have HX := nHX; have HW := nHW; have HB := nHB; clear nHX nHW nHB; have c2 := HX.out.cell 4; have c3 := HX.out.cell 5; have d1 := HW.out.cell 2; simp only [List.getElem?_toArray, List.getElem?_cons_succ, List.getElem?_cons_zero] at c2 c3 d1) | (go_at_fn 95; (with_reducible refine (H3.out _).mono ?_); rintro e w1 ⟨rfl, hb1⟩; have nHX := Lib.hid (HX.out.below hb1); have nHW := Lib.hid (HW.out.below hb1); have nHB := Lib.hid (bthen HB.out hb1); clear HX HW HB hb1; have HX := nHX; have HW := nHW; have HB := nHB; clear nHX nHW nHB; have c2 := HX.out.cell 6; have c3 := HX.out.cell 7; have d1 := HW.out.cell 3; have d2 := HW.out.cell 4; simp only [List.getElem?_toArray, List.getElem?_cons_succ, List.getElem?_cons_zero] at c2 c3 d1 d2))
    go_ret
    exact ⟨rfl, HB.out⟩
/-- A weather that may follow another one. -/
def folB (M : MetD) (a b c d e f : Int) : Bool := nrB a d M.mw && (nrB b e M.ms && nrB c f M.mc)
theorem follows_c (M : MetD) (vF vS : Value) (a b c : Int) (ai as1 : Bool) (d e f : Int) (bi bs : Bool) (w : World) (h1 : wvB a b c = true) (h2 : wvB d e f = true) :
   Calls Tryz.prog 48 #[.agg #[.int .i64 M.places, .int .i64 M.any.a0, .int .i64 M.any.a1, .int .i64 M.any.a2, .int .i64 M.any.a3, .int .i64 M.any.a4, .int .i64 M.any.a5, .bool M.any.i, .bool M.any.s, .int .i64 M.mw, .int .i64 M.ms, .int .i64 M.mc, vF, vS], .agg #[.int .i64 a, .int .i64 b, .int .i64 c, .bool ai, .bool as1], .agg #[.int .i64 d, .int .i64 e, .int .i64 f, .bool bi, .bool bs]] w fun x w' => x = .returned (.bool (folB M a b c d e f)) ∧ Below w.heap.size w w' := by
  have eL := Tryz.entL
  unfold wvB at h1 h2
  simp only [Bool.and_eq_true, inB_iff] at h1 h2
  unfold folB
  have h1 := fun w1 => follows1_c a d M.mw w1 (by omega) (by omega) (by omega) (by omega)
  have h2 := fun w1 => follows1_c b e M.ms w1 (by omega) (by omega) (by omega) (by omega)
  have h3 := fun w1 => follows1_c c f M.mc w1 (by omega) (by omega) (by omega) (by omega)
  rename_i k1 k2
  clear k1 k2
  generalize nrB a d M.mw = B1 at *
  generalize nrB b e M.ms = B2 at *
  generalize nrB c f M.mc = B3 at *
  have H1 := Lib.hid h1
  have H2 := Lib.hid h2
  have H3 := Lib.hid h3
  clear h1 h2 h3
  cases B1
  · skip
    go_enter Tryz.func48, Tryz.ntmps48
    go_wp2_with (fail)
    have _x := frm3 w #[.int .i64 M.places, .int .i64 M.any.a0, .int .i64 M.any.a1, .int .i64 M.any.a2, .int .i64 M.any.a3, .int .i64 M.any.a4, .int .i64 M.any.a5, .bool M.any.i, .bool M.any.s, .int .i64 M.mw, .int .i64 M.ms, .int .i64 M.mc, vF, vS] 29 #[.int .i64 a, .int .i64 b, .int .i64 c, .bool ai, .bool as1] 57 #[.int .i64 d, .int .i64 e, .int .i64 f, .bool bi, .bool bs] 57
    have HX := Lib.hid _x.1
    have HV := Lib.hid _x.2.1
    have HW := Lib.hid _x.2.2.1
    have HB := Lib.hid _x.2.2.2.1
    have zW := _x.2.2.2.2
    clear _x
    generalize World.alloc (World.alloc (World.alloc w _) _) _ = W at *
    have zHX := HX.out.lt
    have cHX9 := HX.out.cell 9
    have zHV := HV.out.lt
    have cHV0 := HV.out.cell 0
    have zHW := HW.out.lt
    have cHW0 := HW.out.cell 0
    go_wp2_with (first | (go_at_fn 96; (with_reducible refine (H1.out _).mono ?_); rintro e w1 ⟨rfl, hb1⟩; have nHX := Lib.hid (HX.out.below hb1); have nHV := Lib.hid (HV.out.below hb1); have nHW := Lib.hid (HW.out.below hb1); have nHB := Lib.hid (bthen HB.out hb1); clear HX HV HW HB hb1; have HX := nHX; have HV := nHV; have HW := nHW; have HB := nHB; clear nHX nHV nHW nHB; have c2 := HX.out.cell 10; have c3 := HV.out.cell 1; have d1 := HW.out.cell 1; simp only [List.getElem?_toArray, List.getElem?_cons_succ, List.getElem?_cons_zero] at c2 c3 d1) | (go_at_fn 96; (with_reducible refine (H2.out _).mono ?_); rintro e w1 ⟨rfl, hb1⟩; have nHX := Lib.hid (HX.out.below hb1); have nHV := Lib.hid (HV.out.below hb1); have nHW := Lib.hid (HW.out.below hb1); have nHB := Lib.hid (bthen HB.out hb1); clear HX HV HW HB hb1; have HX := nHX; have HV := nHV; have HW := nHW; have HB := nHB; clear nHX nHV nHW nHB; have c2 := HX.out.cell 11; have c3 := HV.out.cell 2; have d1 := HW.out.cell 2; simp only [List.getElem?_toArray, List.getElem?_cons_succ, List.getElem?_cons_zero] at c2 c3 d1) | (go_at_fn 96; (with_reducible refine (H3.out _).mono ?_); rintro e w1 ⟨rfl, hb1⟩; have nHX := Lib.hid (HX.out.below hb1); have nHV := Lib.hid (HV.out.below hb1); have nHW := Lib.hid (HW.out.below hb1); have nHB := Lib.hid (bthen HB.out hb1); clear HX HV HW HB hb1; have HX := nHX; have HV := nHV; have HW := nHW; have HB := nHB; clear nHX nHV nHW nHB))
    go_ret
    exact ⟨rfl, HB.out⟩
  cases B2
  · skip
    go_enter Tryz.func48, Tryz.ntmps48
    go_wp2_with (fail)
    have _x := frm3 w #[.int .i64 M.places, .int .i64 M.any.a0, .int .i64 M.any.a1, .int .i64 M.any.a2, .int .i64 M.any.a3, .int .i64 M.any.a4, .int .i64 M.any.a5, .bool M.any.i, .bool M.any.s, .int .i64 M.mw, .int .i64 M.ms, .int .i64 M.mc, vF, vS] 29 #[.int .i64 a, .int .i64 b, .int .i64 c, .bool ai, .bool as1] 57 #[.int .i64 d, .int .i64 e, .int .i64 f, .bool bi, .bool bs] 57
    have HX := Lib.hid _x.1
    have HV := Lib.hid _x.2.1
    have HW := Lib.hid _x.2.2.1
    have HB := Lib.hid _x.2.2.2.1
    have zW := _x.2.2.2.2
    clear _x
    generalize World.alloc (World.alloc (World.alloc w _) _) _ = W at *
    have zHX := HX.out.lt
    have cHX9 := HX.out.cell 9
    have zHV := HV.out.lt
    have cHV0 := HV.out.cell 0
    have zHW := HW.out.lt
    have cHW0 := HW.out.cell 0
    go_wp2_with (first | (go_at_fn 96; (with_reducible refine (H1.out _).mono ?_); rintro e w1 ⟨rfl, hb1⟩; have nHX := Lib.hid (HX.out.below hb1); have nHV := Lib.hid (HV.out.below hb1); have nHW := Lib.hid (HW.out.below hb1); have nHB := Lib.hid (bthen HB.out hb1); clear HX HV HW HB hb1; have HX := nHX; have HV := nHV; have HW := nHW; have HB := nHB; clear nHX nHV nHW nHB; have c2 := HX.out.cell 10; have c3 := HV.out.cell 1; have d1 := HW.out.cell 1; simp only [List.getElem?_toArray, List.getElem?_cons_succ, List.getElem?_cons_zero] at c2 c3 d1) | (go_at_fn 96; (with_reducible refine (H2.out _).mono ?_); rintro e w1 ⟨rfl, hb1⟩; have nHX := Lib.hid (HX.out.below hb1); have nHV := Lib.hid (HV.out.below hb1); have nHW := Lib.hid (HW.out.below hb1); have nHB := Lib.hid (bthen HB.out hb1); clear HX HV HW HB hb1; have HX := nHX; have HV := nHV; have HW := nHW; have HB := nHB; clear nHX nHV nHW nHB; have c2 := HX.out.cell 11; have c3 := HV.out.cell 2; have d1 := HW.out.cell 2; simp only [List.getElem?_toArray, List.getElem?_cons_succ, List.getElem?_cons_zero] at c2 c3 d1) | (go_at_fn 96; (with_reducible refine (H3.out _).mono ?_); rintro e w1 ⟨rfl, hb1⟩; have nHX := Lib.hid (HX.out.below hb1); have nHV := Lib.hid (HV.out.below hb1); have nHW := Lib.hid (HW.out.below hb1); have nHB := Lib.hid (bthen HB.out hb1); clear HX HV HW HB hb1; have HX := nHX; have HV := nHV; have HW := nHW; have HB := nHB; clear nHX nHV nHW nHB))
    go_ret
    exact ⟨rfl, HB.out⟩
  cases B3
  · skip
    go_enter Tryz.func48, Tryz.ntmps48
    go_wp2_with (fail)
    have _x := frm3 w #[.int .i64 M.places, .int .i64 M.any.a0, .int .i64 M.any.a1, .int .i64 M.any.a2, .int .i64 M.any.a3, .int .i64 M.any.a4, .int .i64 M.any.a5, .bool M.any.i, .bool M.any.s, .int .i64 M.mw, .int .i64 M.ms, .int .i64 M.mc, vF, vS] 29 #[.int .i64 a, .int .i64 b, .int .i64 c, .bool ai, .bool as1] 57 #[.int .i64 d, .int .i64 e, .int .i64 f, .bool bi, .bool bs] 57
    have HX := Lib.hid _x.1
    have HV := Lib.hid _x.2.1
    have HW := Lib.hid _x.2.2.1
    have HB := Lib.hid _x.2.2.2.1
    have zW := _x.2.2.2.2
    clear _x
    generalize World.alloc (World.alloc (World.alloc w _) _) _ = W at *
    have zHX := HX.out.lt
    have cHX9 := HX.out.cell 9
    have zHV := HV.out.lt
    have cHV0 := HV.out.cell 0
    have zHW := HW.out.lt
    have cHW0 := HW.out.cell 0
    go_wp2_with (first | (go_at_fn 96; (with_reducible refine (H1.out _).mono ?_); rintro e w1 ⟨rfl, hb1⟩; have nHX := Lib.hid (HX.out.below hb1); have nHV := Lib.hid (HV.out.below hb1); have nHW := Lib.hid (HW.out.below hb1); have nHB := Lib.hid (bthen HB.out hb1); clear HX HV HW HB hb1; have HX := nHX; have HV := nHV; have HW := nHW; have HB := nHB; clear nHX nHV nHW nHB; have c2 := HX.out.cell 10; have c3 := HV.out.cell 1; have d1 := HW.out.cell 1; simp only [List.getElem?_toArray, List.getElem?_cons_succ, List.getElem?_cons_zero] at c2 c3 d1) | (go_at_fn 96; (with_reducible refine (H2.out _).mono ?_); rintro e w1 ⟨rfl, hb1⟩; have nHX := Lib.hid (HX.out.below hb1); have nHV := Lib.hid (HV.out.below hb1); have nHW := Lib.hid (HW.out.below hb1); have nHB := Lib.hid (bthen HB.out hb1); clear HX HV HW HB hb1; have HX := nHX; have HV := nHV; have HW := nHW; have HB := nHB; clear nHX nHV nHW nHB; have c2 := HX.out.cell 11; have c3 := HV.out.cell 2; have d1 := HW.out.cell 2; simp only [List.getElem?_toArray, List.getElem?_cons_succ, List.getElem?_cons_zero] at c2 c3 d1) | (go_at_fn 96; (with_reducible refine (H3.out _).mono ?_); rintro e w1 ⟨rfl, hb1⟩; have nHX := Lib.hid (HX.out.below hb1); have nHV := Lib.hid (HV.out.below hb1); have nHW := Lib.hid (HW.out.below hb1); have nHB := Lib.hid (bthen HB.out hb1); clear HX HV HW HB hb1; have HX := nHX; have HV := nHV; have HW := nHW; have HB := nHB; clear nHX nHV nHW nHB))
    go_ret
    exact ⟨rfl, HB.out⟩
  · skip
    go_enter Tryz.func48, Tryz.ntmps48
    go_wp2_with (fail)
    have _x := frm3 w #[.int .i64 M.places, .int .i64 M.any.a0, .int .i64 M.any.a1, .int .i64 M.any.a2, .int .i64 M.any.a3, .int .i64 M.any.a4, .int .i64 M.any.a5, .bool M.any.i, .bool M.any.s, .int .i64 M.mw, .int .i64 M.ms, .int .i64 M.mc, vF, vS] 29 #[.int .i64 a, .int .i64 b, .int .i64 c, .bool ai, .bool as1] 57 #[.int .i64 d, .int .i64 e, .int .i64 f, .bool bi, .bool bs] 57
    have HX := Lib.hid _x.1
    have HV := Lib.hid _x.2.1
    have HW := Lib.hid _x.2.2.1
    have HB := Lib.hid _x.2.2.2.1
    have zW := _x.2.2.2.2
    clear _x
    generalize World.alloc (World.alloc (World.alloc w _) _) _ = W at *
    have zHX := HX.out.lt
    have cHX9 := HX.out.cell 9
    have zHV := HV.out.lt
    have cHV0 := HV.out.cell 0
    have zHW := HW.out.lt
    have cHW0 := HW.out.cell 0
    go_wp2_with (first | (go_at_fn 96; (with_reducible refine (H1.out _).mono ?_); rintro e w1 ⟨rfl, hb1⟩; have nHX := Lib.hid (HX.out.below hb1); have nHV := Lib.hid (HV.out.below hb1); have nHW := Lib.hid (HW.out.below hb1); have nHB := Lib.hid (bthen HB.out hb1); clear HX HV HW HB hb1; have HX := nHX; have HV := nHV; have HW := nHW; have HB := nHB; clear nHX nHV nHW nHB; have c2 := HX.out.cell 10; have c3 := HV.out.cell 1; have d1 := HW.out.cell 1; simp only [List.getElem?_toArray, List.getElem?_cons_succ, List.getElem?_cons_zero] at c2 c3 d1) | (go_at_fn 96; (with_reducible refine (H2.out _).mono ?_); rintro e w1 ⟨rfl, hb1⟩; have nHX := Lib.hid (HX.out.below hb1); have nHV := Lib.hid (HV.out.below hb1); have nHW := Lib.hid (HW.out.below hb1); have nHB := Lib.hid (bthen HB.out hb1); clear HX HV HW HB hb1; have HX := nHX; have HV := nHV; have HW := nHW; have HB := nHB; clear nHX nHV nHW nHB; have c2 := HX.out.cell 11; have c3 := HV.out.cell 2; have d1 := HW.out.cell 2; simp only [List.getElem?_toArray, List.getElem?_cons_succ, List.getElem?_cons_zero] at c2 c3 d1) | (go_at_fn 96; (with_reducible refine (H3.out _).mono ?_); rintro e w1 ⟨rfl, hb1⟩; have nHX := Lib.hid (HX.out.below hb1); have nHV := Lib.hid (HV.out.below hb1); have nHW := Lib.hid (HW.out.below hb1); have nHB := Lib.hid (bthen HB.out hb1); clear HX HV HW HB hb1; have HX := nHX; have HV := nHV; have HW := nHW; have HB := nHB; clear nHX nHV nHW nHB))
    go_ret
    exact ⟨rfl, HB.out⟩
theorem real1_c (a b c : Int) (i s : Bool) (w : World) : Calls Tryz.prog 43 #[.agg #[.int .i64 a, .int .i64 b, .int .i64 c, .bool i, .bool s]] w fun e w' => e = .returned (.bool (!wvB a b c)) ∧ Below w.heap.size w w' := by
  have h1 := fun w1 => only_c a b c i s w1
  have h2 : ∀ w1, Calls Tryz.prog 44 #[.agg #[.int .i64 a, .int .i64 a, .int .i64 b, .int .i64 b, .int .i64 c, .int .i64 c, .bool i, .bool s]] w1 fun e w' => e = .returned (.bool (wvB a b c)) ∧ Below w1.heap.size w1 w' := fun w1 => by
    have := sky_c ⟨a, a, b, b, c, c, i, s⟩ w1
    rw [show (Sk.mk a a b b c c i s).inr = wvB a b c from wvB_inr] at this
    exact this
  generalize wvB a b c = V at *
  have H1 := Lib.hid h1
  have H2 := Lib.hid h2
  clear h1 h2
  go_enter Tryz.func43, Tryz.ntmps43
  go_wp2_with (fail)
  have _x := frm1 w #[.int .i64 a, .int .i64 b, .int .i64 c, .bool i, .bool s] 57
  have HX := Lib.hid _x.1
  have HB := Lib.hid _x.2.1
  have zW := _x.2.2
  clear _x
  generalize World.alloc w _ = W at *
  have zHX := HX.out.lt
  have cHX0 := HX.out.cell 0
  have cHX1 := HX.out.cell 1
  have cHX2 := HX.out.cell 2
  have cHX3 := HX.out.cell 3
  have cHX4 := HX.out.cell 4
  go_wp2_with (first | (go_at_call 45; (with_reducible refine (H1.out _).mono ?_); rintro e w1 ⟨rfl, hb1⟩; have nHX := Lib.hid (HX.out.below hb1); have nHB := Lib.hid (bthen HB.out hb1); have zz1 := hb1.size; clear HX HB hb1; have HX := nHX; have HB := nHB; clear nHX nHB) | (go_at_call 44; (with_reducible refine (H2.out _).mono ?_); rintro e w1 ⟨rfl, hb1⟩; have nHX := Lib.hid (HX.out.below hb1); have nHB := Lib.hid (bthen HB.out hb1); have zz1 := hb1.size; clear HX HB hb1; have HX := nHX; have HB := nHB; clear nHX nHB))
  go_ret
  exact ⟨rfl, HB.out⟩
end Go.Proofs.YtonfnhonbnfdoaaGreat
