/- Contract: cutSky of the reference of weather. -/
import Derived.Test.YtbgkbdhdkpjcdaaGreatJAT
set_option linter.all false
namespace Go.Proofs.YtbgkbdhdkpjcdaaGreat
open Go Go.RowKit Go.Proofs
set_option maxRecDepth 100000
set_option maxHeartbeats 8000000
theorem rw_cutSky_c (x y : Sk) (w : World) (hx : x.ok) (hy : y.ok) :
   Calls Tryz.prog 217 #[.agg x.cells, .agg y.cells] w fun e w' => e = .returned (.tuple #[.agg (Sk.mk (x.cut y).a0 (x.cut y).a1 (x.cut y).a2 (x.cut y).a3 (x.cut y).a4 (x.cut y).a5 (x.i && y.i) (x.s && y.s)).cells, .bool (x.odd y)]) ∧ Below w.heap.size w w' := by
  obtain ⟨a0, a1, a2, a3, a4, a5, ai, as1⟩ := x
  obtain ⟨b0, b1, b2, b3, b4, b5, bi, bs⟩ := y
  obtain ⟨p1, p2, p3⟩ := hx
  obtain ⟨q1, q2, q3⟩ := hy
  have h1 := fun w1 => rw_cut_c a0 a1 b0 b1 w1 p1 q1
  have h2 := fun w1 => rw_cut_c a2 a3 b2 b3 w1 p2 q2
  have h3 := fun w1 => rw_cut_c a4 a5 b4 b5 w1 p3 q3
  clear p1 p2 p3 q1 q2 q3
  unfold Sk.cut Sk.odd skF Sk.cells
  dsimp only
  generalize cuL a0 a1 b0 b1 = l1 at *
  generalize cuH a0 a1 b0 b1 = g1 at *
  generalize cuF a0 a1 b0 b1 = F1 at *
  generalize cuL a2 a3 b2 b3 = l2 at *
  generalize cuH a2 a3 b2 b3 = g2 at *
  generalize cuF a2 a3 b2 b3 = F2 at *
  generalize cuL a4 a5 b4 b5 = l3 at *
  generalize cuH a4 a5 b4 b5 = g3 at *
  generalize cuF a4 a5 b4 b5 = F3 at *
  have H1 := Lib.hid h1
  have H2 := Lib.hid h2
  have H3 := Lib.hid h3
  clear h1 h2 h3
  go_enter Tryz.func217, Tryz.ntmps217
  go_wp2_with (fail)
  have _x := frm3 w #[.int .i64 a0, .int .i64 a1, .int .i64 a2, .int .i64 a3, .int .i64 a4, .int .i64 a5, .bool ai, .bool as1] 25 #[.int .i64 b0, .int .i64 b1, .int .i64 b2, .int .i64 b3, .int .i64 b4, .int .i64 b5, .bool bi, .bool bs] 25 #[.int .i64 0, .int .i64 0, .int .i64 0, .int .i64 0, .int .i64 0, .int .i64 0, .bool false, .bool false] 25
  have HX := Lib.hid _x.1
  have HY := Lib.hid _x.2.1
  have HR := Lib.hid _x.2.2.1
  have HB := Lib.hid _x.2.2.2.1
  have zW := _x.2.2.2.2
  clear _x
  generalize World.alloc (World.alloc (World.alloc w _) _) _ = W at *
  have zHX := HX.out.lt
  have cHX0 := HX.out.cell 0
  have cHX1 := HX.out.cell 1
  have zHY := HY.out.lt
  have cHY0 := HY.out.cell 0
  have cHY1 := HY.out.cell 1
  go_wp2_with (fail)
  refine (H1.out _).mono ?_
  rintro e w1 ⟨rfl, hb1⟩
  have nHX := Lib.hid (HX.out.below hb1)
  have nHY := Lib.hid (HY.out.below hb1)
  have nHR := Lib.hid (HR.out.below hb1)
  have nHB := Lib.hid (bthen HB.out hb1)
  clear HX HY HR HB hb1
  have HX := nHX
  have HY := nHY
  have HR := nHR
  have HB := nHB
  clear nHX nHY nHR nHB
  have zHX := HX.out.lt
  have cHX2 := HX.out.cell 2
  have cHX3 := HX.out.cell 3
  have zHY := HY.out.lt
  have cHY2 := HY.out.cell 2
  have cHY3 := HY.out.cell 3
  go_wp2_with (fail)
  have bHP := Blk.new w1 23 #[.int .i64 l1, .int .i64 g1]
  have nHX := Lib.hid (HX.out.alloc (.cells #[.int .i64 l1, .int .i64 g1] 23))
  have nHY := Lib.hid (HY.out.alloc (.cells #[.int .i64 l1, .int .i64 g1] 23))
  have nHR := Lib.hid (HR.out.alloc (.cells #[.int .i64 l1, .int .i64 g1] 23))
  have nHB := Lib.hid (bal HB.out (.cells #[.int .i64 l1, .int .i64 g1] 23))
  clear HX HY HR HB
  have HX := nHX
  have HY := nHY
  have HR := nHR
  have HB := nHB
  clear nHX nHY nHR nHB
  generalize w1.alloc (.cells #[.int .i64 l1, .int .i64 g1] 23) = W2 at *
  generalize w1.heap.size = gHP at *
  have HP := Lib.hid bHP
  clear bHP
  refine (H2.out _).mono ?_
  rintro e w1 ⟨rfl, hb1⟩
  have nHX := Lib.hid (HX.out.below hb1)
  have nHY := Lib.hid (HY.out.below hb1)
  have nHR := Lib.hid (HR.out.below hb1)
  have nHP := Lib.hid (HP.out.below hb1)
  have nHB := Lib.hid (bthen HB.out hb1)
  clear HX HY HR HP HB hb1
  have HX := nHX
  have HY := nHY
  have HR := nHR
  have HP := nHP
  have HB := nHB
  clear nHX nHY nHR nHP nHB
  have zHX := HX.out.lt
  have cHX4 := HX.out.cell 4
  have cHX5 := HX.out.cell 5
  have zHY := HY.out.lt
  have cHY4 := HY.out.cell 4
  have cHY5 := HY.out.cell 5
  go_wp2_with (fail)
  have bHQ := Blk.new w1 23 #[.int .i64 l2, .int .i64 g2]
  have nHX := Lib.hid (HX.out.alloc (.cells #[.int .i64 l2, .int .i64 g2] 23))
  have nHY := Lib.hid (HY.out.alloc (.cells #[.int .i64 l2, .int .i64 g2] 23))
  have nHR := Lib.hid (HR.out.alloc (.cells #[.int .i64 l2, .int .i64 g2] 23))
  have nHP := Lib.hid (HP.out.alloc (.cells #[.int .i64 l2, .int .i64 g2] 23))
  have nHB := Lib.hid (bal HB.out (.cells #[.int .i64 l2, .int .i64 g2] 23))
  clear HX HY HR HP HB
  have HX := nHX
  have HY := nHY
  have HR := nHR
  have HP := nHP
  have HB := nHB
  clear nHX nHY nHR nHP nHB
  generalize w1.alloc (.cells #[.int .i64 l2, .int .i64 g2] 23) = W2 at *
  generalize w1.heap.size = gHQ at *
  have HQ := Lib.hid bHQ
  clear bHQ
  refine (H3.out _).mono ?_
  rintro e w1 ⟨rfl, hb1⟩
  have nHX := Lib.hid (HX.out.below hb1)
  have nHY := Lib.hid (HY.out.below hb1)
  have nHR := Lib.hid (HR.out.below hb1)
  have nHP := Lib.hid (HP.out.below hb1)
  have nHQ := Lib.hid (HQ.out.below hb1)
  have nHB := Lib.hid (bthen HB.out hb1)
  clear HX HY HR HP HQ HB hb1
  have HX := nHX
  have HY := nHY
  have HR := nHR
  have HP := nHP
  have HQ := nHQ
  have HB := nHB
  clear nHX nHY nHR nHP nHQ nHB
  have zR := HR.out.lt
  have zP := HP.out.lt
  have zQ := HQ.out.lt
  have zX := HX.out.lt
  have zY := HY.out.lt
  have x6 := HX.out.cell 6
  have x7 := HX.out.cell 7
  have y6 := HY.out.cell 6
  have y7 := HY.out.cell 7
  have p0 := HP.out.cell 0
  have p1 := HP.out.cell 1
  have q0 := HQ.out.cell 0
  have q1 := HQ.out.cell 1
  simp only [List.getElem?_toArray, List.getElem?_cons_succ, List.getElem?_cons_zero] at x6 x7 y6 y7 p0 p1 q0 q1
  cases ai <;> cases as1 <;> cases F1 <;> cases F2
  all_goals
    go_wp2_with (first | (refine wpList_store_row rfl 25 (.tmp 4) (.tmp 51) rfl (w.heap.size + 1 + 1) _ rfl rfl 25 #[.int .i64 0, .int .i64 0, .int .i64 0, .int .i64 0, .int .i64 0, .int .i64 0, .bool false, .bool false] (HR.out.alloc _) Tryz.sizeSky rfl (oneS _ _ _ _ _ _ _ _) ?_; simp only [Act.put]))
    exact bodyPost_ret (res_ct rfl _ _ _ 8 rfl (setRow_heap _ _ _ _ _ _ (HR.out.alloc _)) Tryz.rowSky rfl) rfl ⟨rfl, rowBelow (bal HB.out _) (by omega) _⟩
end Go.Proofs.YtbgkbdhdkpjcdaaGreat
