/- Texts joined: KZI. -/
import Derived.Test.YtlabfpjlckdmfaaGreatKAO
set_option linter.all false
namespace Go.Proofs.YtlabfpjlckdmfaaGreat
open Go Go.RowKit Go.Proofs
set_option maxRecDepth 100000
set_option maxHeartbeats 8000000
theorem or_t1 {a b : Bool} (h : a = true) : (a || b) = true := by rw [h]; rfl
theorem or_t2 {a b : Bool} (h : b = true) : (a || b) = true := by rw [h]; cases a <;> rfl
theorem err_of {M : MetD} (h : M.bad = true) : M.err = 40 := by unfold MetD.err; rw [h]; rfl
theorem err_p {M : MetD} (h : inB M.places 1 8 = false) : M.err = 40 := err_of (or_t1 (by rw [h]; rfl))
theorem err_a {M : MetD} (h : M.any.inr = false) : M.err = 40 := err_of (or_t2 (or_t1 (by rw [h]; rfl)))
theorem err_w {M : MetD} (h : inB M.mw 0 20000 = false) : M.err = 40 := err_of (or_t2 (or_t2 (or_t1 (or_t1 (by rw [h]; rfl)))))
theorem err_s {M : MetD} (h : inB M.ms 0 20000 = false) : M.err = 40 := err_of (or_t2 (or_t2 (or_t1 (or_t2 (or_t1 (by rw [h]; rfl))))))
theorem err_c {M : MetD} (h : inB M.mc 0 20000 = false) : M.err = 40 := err_of (or_t2 (or_t2 (or_t1 (or_t2 (or_t2 (by rw [h]; rfl))))))
theorem err_n {M : MetD} (h : 40 < M.n) : M.err = 40 := err_of (or_t2 (or_t2 (or_t2 (or_t1 (by simpa using h)))))
theorem err_f {M : MetD} {i : Nat} (hi : i < M.n) (h : M.fcB i = true) : M.err = 40 := err_of (or_t2 (or_t2 (or_t2 (or_t2 (or_t1 (List.any_eq_true.2 ⟨i, List.mem_range.2 hi, h⟩))))))
theorem err_m {M : MetD} (h : 20 < M.m) : M.err = 40 := err_of (or_t2 (or_t2 (or_t2 (or_t2 (or_t2 (or_t1 (by simpa using h)))))))
theorem err_g {M : MetD} {i : Nat} (hi : i < M.m) (h : M.siB i = true) : M.err = 40 := err_of (or_t2 (or_t2 (or_t2 (or_t2 (or_t2 (or_t2 (List.any_eq_true.2 ⟨i, List.mem_range.2 hi, h⟩)))))))
theorem err_ok {M : MetD} (h1 : inB M.places 1 8 = true) (h2 : M.any.inr = true) (h3 : inB M.mw 0 20000 = true) (h4 : inB M.ms 0 20000 = true) (h5 : inB M.mc 0 20000 = true) (h6 : ¬ 40 < M.n) (h7 : ¬ 20 < M.m)
  (h8 : ∀ i, i < M.n → M.fcB i = false) (h9 : ∀ i, i < M.m → M.siB i = false) : M.err = 0 := by
 have e1 : (List.range M.n).any M.fcB = false := by rw [List.any_eq_false]; intro i hi; simp [h8 i (List.mem_range.1 hi)]
 have e2 : (List.range M.m).any M.siB = false := by rw [List.any_eq_false]; intro i hi; simp [h9 i (List.mem_range.1 hi)]
 unfold MetD.err MetD.bad rngB
 rw [h1, h2, h3, h4, h5, e1, e2, decide_eq_false h6, decide_eq_false h7]
 rfl
theorem fcB_1 {M : MetD} {k : Nat} (h : inB (M.D k 0) 0 (M.places - 1) = false) : M.fcB k = true := or_t1 (by rw [h]; rfl)
theorem fcB_2 {M : MetD} {k : Nat} (h : M.D k 1 < 0) : M.fcB k = true := or_t2 (or_t1 (by cases hh : inB (M.D k 1) 0 2000; rfl; have := inB_iff.1 hh; omega))
theorem fcB_3 {M : MetD} {k : Nat} (h : M.D k 2 ≤ M.D k 1) : M.fcB k = true := or_t2 (or_t2 (or_t2 (or_t1 (by simpa using h))))
theorem fcB_4 {M : MetD} {k : Nat} (h : 2000 < M.D k 2) : M.fcB k = true := or_t2 (or_t2 (or_t1 (by cases hh : inB (M.D k 2) 0 2000; rfl; have := inB_iff.1 hh; omega)))
theorem fcB_5 {M : MetD} {k : Nat} (h : inB (M.D k 3) 0 2000 = false) : M.fcB k = true := or_t2 (or_t2 (or_t2 (or_t2 (or_t1 (by rw [h]; rfl)))))
theorem fcB_6 {M : MetD} {k : Nat} (h : (M.fc k).inr = false) : M.fcB k = true := or_t2 (or_t2 (or_t2 (or_t2 (or_t2 (by rw [h]; rfl)))))
theorem fcB_0 {M : MetD} {k : Nat} (h1 : inB (M.D k 0) 0 (M.places - 1) = true) (h2 : ¬ M.D k 1 < 0) (h3 : ¬ M.D k 2 ≤ M.D k 1) (h4 : ¬ 2000 < M.D k 2) (h5 : inB (M.D k 3) 0 2000 = true) (h6 : (M.fc k).inr = true) : M.fcB k = false := by
 unfold MetD.fcB fcBad
 rw [h1, h5, h6, inB_iff.2 (show 0 ≤ M.D k 1 ∧ M.D k 1 ≤ 2000 by omega), inB_iff.2 (show 0 ≤ M.D k 2 ∧ M.D k 2 ≤ 2000 by omega), decide_eq_false h3]
 rfl
theorem wvB_inr {a b c : Int} : (Sk.mk a a b b c c false false).inr = wvB a b c := by
 unfold Sk.inr wvB
 rw [Bool.eq_iff_iff]
 simp only [Bool.and_eq_true, insB_iff, inB_iff, vspan_iff']
 omega
theorem siB_1 {M : MetD} {k : Nat} (h : inB (M.E k 0) 0 (M.places - 1) = false) : M.siB k = true := or_t1 (by rw [h]; rfl)
theorem siB_2 {M : MetD} {k : Nat} (h : inB (M.E k 1) 0 2000 = false) : M.siB k = true := or_t2 (or_t1 (by rw [h]; rfl))
theorem siB_3 {M : MetD} {k : Nat} (h : wvB (M.E k 2) (M.E k 3) (M.E k 4) = false) : M.siB k = true := or_t2 (or_t2 (by rw [wvB_inr, h]; rfl))
theorem siB_0 {M : MetD} {k : Nat} (h1 : inB (M.E k 0) 0 (M.places - 1) = true) (h2 : inB (M.E k 1) 0 2000 = true) (h3 : wvB (M.E k 2) (M.E k 3) (M.E k 4) = true) : M.siB k = false := by
 unfold MetD.siB siBad
 rw [wvB_inr, h1, h2, h3]
 rfl
structure RcK (M : MetD) (vF vS : Value) (w wr : World) : Prop where
 b : Below w.heap.size w wr
 m : Blk wr w.heap.size 29 #[.int .i64 M.places, .int .i64 M.any.a0, .int .i64 M.any.a1, .int .i64 M.any.a2, .int .i64 M.any.a3, .int .i64 M.any.a4, .int .i64 M.any.a5, .bool M.any.i, .bool M.any.s, .int .i64 M.mw, .int .i64 M.ms, .int .i64 M.mc, vF, vS]
theorem RcK.grow {M : MetD} {vF vS : Value} {w wr w2 : World} (h : RcK M vF vS w wr) (hb : Below wr.heap.size wr w2) : RcK M vF vS w w2 := ⟨bthen h.b hb, h.m.below hb⟩
theorem rw_Check_c (M : MetD) (vF vS : Value) (w : World) (hA : MetAt w vF vS M) :
  Calls Tryz.prog 19 #[.agg #[.int .i64 M.places, .int .i64 M.any.a0, .int .i64 M.any.a1, .int .i64 M.any.a2, .int .i64 M.any.a3, .int .i64 M.any.a4, .int .i64 M.any.a5, .bool M.any.i, .bool M.any.s, .int .i64 M.mw, .int .i64 M.ms, .int .i64 M.mc, vF, vS]] w fun e w' => e = .returned (.int .i64 M.err) ∧ Below w.heap.size w w' := by
 have HA := hI9 hA
 obtain ⟨⟨A, cF, rfl, hF1, hF2, -⟩, ⟨A2, cS, rfl, hS1, hS2, -⟩⟩ := hA
 have HSK := hI9 (fun w1 => rw_ValidSky_c M.any w1)
 cases b0 : inB M.places 1 8
 ·have HER := hI9 (err_p b0)
  generalize M.err = E at *
  go_enter Tryz.func19, Tryz.ntmps19
  go_wp2_with (fail)
  have _x := frm1 w #[.int .i64 M.places, .int .i64 M.any.a0, .int .i64 M.any.a1, .int .i64 M.any.a2, .int .i64 M.any.a3, .int .i64 M.any.a4, .int .i64 M.any.a5, .bool M.any.i, .bool M.any.s, .int .i64 M.mw, .int .i64 M.ms, .int .i64 M.mc, .slice A M.n cF, .slice A2 M.m cS] 29
  have HX := hI9 _x.1
  have HB := hI9 _x.2.1
  have zW := _x.2.2
  clear _x
  generalize World.alloc w _ = W at *
  have zHX := HX.out.lt
  have cHX0 := HX.out.cell 0
  have cHX1 := HX.out.cell 1
  have cHX2 := HX.out.cell 2
  have cHX3 := HX.out.cell 3
  have cHX4 := HX.out.cell 4
  have cHX5 := HX.out.cell 5
  have cHX6 := HX.out.cell 6
  have cHX7 := HX.out.cell 7
  have cHX8 := HX.out.cell 8
  go_wp2_with (first | (go_at_call 39; (with_reducible refine (rw_from_c _ _ _ _).mono ?_); rintro e w1 ⟨rfl, rfl⟩) | (go_at_call 40; (with_reducible refine (HSK.out _).mono ?_); rintro e w1 ⟨rfl, hb1⟩; have nHX := hI9 (HX.out.below hb1); have nHB := hI9 (bthen HB.out hb1); have zz1 := hb1.size; clear HX HB hb1; have HX := nHX; have HB := nHB; clear nHX nHB; (try clear zHX); have zHX := HX.out.lt; (try clear cHX9); have cHX9 := HX.out.cell 9; (try clear cHX10); have cHX10 := HX.out.cell 10; (try clear cHX11); have cHX11 := HX.out.cell 11; (try clear cHX12); have cHX12 := HX.out.cell 12; (try clear cHX13); have cHX13 := HX.out.cell 13))
  go_ret
  exact ⟨ret_int HER.out.symm, HB.out⟩
 have hpl := inB_iff.1 b0
 have hpl1 := hpl.1
 have hpl2 := hpl.2
 cases b1 : M.any.inr
 ·have HER := hI9 (err_a b1)
  rw [b1] at HSK
  generalize M.err = E at *
  go_enter Tryz.func19, Tryz.ntmps19
  go_wp2_with (fail)
  have _x := frm1 w #[.int .i64 M.places, .int .i64 M.any.a0, .int .i64 M.any.a1, .int .i64 M.any.a2, .int .i64 M.any.a3, .int .i64 M.any.a4, .int .i64 M.any.a5, .bool M.any.i, .bool M.any.s, .int .i64 M.mw, .int .i64 M.ms, .int .i64 M.mc, .slice A M.n cF, .slice A2 M.m cS] 29
  have HX := hI9 _x.1
  have HB := hI9 _x.2.1
  have zW := _x.2.2
  clear _x
  generalize World.alloc w _ = W at *
  have zHX := HX.out.lt
  have cHX0 := HX.out.cell 0
  have cHX1 := HX.out.cell 1
  have cHX2 := HX.out.cell 2
  have cHX3 := HX.out.cell 3
  have cHX4 := HX.out.cell 4
  have cHX5 := HX.out.cell 5
  have cHX6 := HX.out.cell 6
  have cHX7 := HX.out.cell 7
  have cHX8 := HX.out.cell 8
  go_wp2_with (first | (go_at_call 39; (with_reducible refine (rw_from_c _ _ _ _).mono ?_); rintro e w1 ⟨rfl, rfl⟩) | (go_at_call 40; (with_reducible refine (HSK.out _).mono ?_); rintro e w1 ⟨rfl, hb1⟩; have nHX := hI9 (HX.out.below hb1); have nHB := hI9 (bthen HB.out hb1); have zz1 := hb1.size; clear HX HB hb1; have HX := nHX; have HB := nHB; clear nHX nHB; (try clear zHX); have zHX := HX.out.lt; (try clear cHX9); have cHX9 := HX.out.cell 9; (try clear cHX10); have cHX10 := HX.out.cell 10; (try clear cHX11); have cHX11 := HX.out.cell 11; (try clear cHX12); have cHX12 := HX.out.cell 12; (try clear cHX13); have cHX13 := HX.out.cell 13))
  go_ret
  exact ⟨ret_int HER.out.symm, HB.out⟩
 rw [b1] at HSK
 cases b9 : inB M.mw 0 20000
 ·have HER := hI9 (err_w b9)
  generalize M.err = E at *
  go_enter Tryz.func19, Tryz.ntmps19
  go_wp2_with (fail)
  have _x := frm1 w #[.int .i64 M.places, .int .i64 M.any.a0, .int .i64 M.any.a1, .int .i64 M.any.a2, .int .i64 M.any.a3, .int .i64 M.any.a4, .int .i64 M.any.a5, .bool M.any.i, .bool M.any.s, .int .i64 M.mw, .int .i64 M.ms, .int .i64 M.mc, .slice A M.n cF, .slice A2 M.m cS] 29
  have HX := hI9 _x.1
  have HB := hI9 _x.2.1
  have zW := _x.2.2
  clear _x
  generalize World.alloc w _ = W at *
  have zHX := HX.out.lt
  have cHX0 := HX.out.cell 0
  have cHX1 := HX.out.cell 1
  have cHX2 := HX.out.cell 2
  have cHX3 := HX.out.cell 3
  have cHX4 := HX.out.cell 4
  have cHX5 := HX.out.cell 5
  have cHX6 := HX.out.cell 6
  have cHX7 := HX.out.cell 7
  have cHX8 := HX.out.cell 8
  go_wp2_with (first | (go_at_call 39; (with_reducible refine (rw_from_c _ _ _ _).mono ?_); rintro e w1 ⟨rfl, rfl⟩) | (go_at_call 40; (with_reducible refine (HSK.out _).mono ?_); rintro e w1 ⟨rfl, hb1⟩; have nHX := hI9 (HX.out.below hb1); have nHB := hI9 (bthen HB.out hb1); have zz1 := hb1.size; clear HX HB hb1; have HX := nHX; have HB := nHB; clear nHX nHB; (try clear zHX); have zHX := HX.out.lt; (try clear cHX9); have cHX9 := HX.out.cell 9; (try clear cHX10); have cHX10 := HX.out.cell 10; (try clear cHX11); have cHX11 := HX.out.cell 11; (try clear cHX12); have cHX12 := HX.out.cell 12; (try clear cHX13); have cHX13 := HX.out.cell 13))
  go_ret
  exact ⟨ret_int HER.out.symm, HB.out⟩
 cases b10 : inB M.ms 0 20000
 ·have HER := hI9 (err_s b10)
  generalize M.err = E at *
  go_enter Tryz.func19, Tryz.ntmps19
  go_wp2_with (fail)
  have _x := frm1 w #[.int .i64 M.places, .int .i64 M.any.a0, .int .i64 M.any.a1, .int .i64 M.any.a2, .int .i64 M.any.a3, .int .i64 M.any.a4, .int .i64 M.any.a5, .bool M.any.i, .bool M.any.s, .int .i64 M.mw, .int .i64 M.ms, .int .i64 M.mc, .slice A M.n cF, .slice A2 M.m cS] 29
  have HX := hI9 _x.1
  have HB := hI9 _x.2.1
  have zW := _x.2.2
  clear _x
  generalize World.alloc w _ = W at *
  have zHX := HX.out.lt
  have cHX0 := HX.out.cell 0
  have cHX1 := HX.out.cell 1
  have cHX2 := HX.out.cell 2
  have cHX3 := HX.out.cell 3
  have cHX4 := HX.out.cell 4
  have cHX5 := HX.out.cell 5
  have cHX6 := HX.out.cell 6
  have cHX7 := HX.out.cell 7
  have cHX8 := HX.out.cell 8
  go_wp2_with (first | (go_at_call 39; (with_reducible refine (rw_from_c _ _ _ _).mono ?_); rintro e w1 ⟨rfl, rfl⟩) | (go_at_call 40; (with_reducible refine (HSK.out _).mono ?_); rintro e w1 ⟨rfl, hb1⟩; have nHX := hI9 (HX.out.below hb1); have nHB := hI9 (bthen HB.out hb1); have zz1 := hb1.size; clear HX HB hb1; have HX := nHX; have HB := nHB; clear nHX nHB; (try clear zHX); have zHX := HX.out.lt; (try clear cHX9); have cHX9 := HX.out.cell 9; (try clear cHX10); have cHX10 := HX.out.cell 10; (try clear cHX11); have cHX11 := HX.out.cell 11; (try clear cHX12); have cHX12 := HX.out.cell 12; (try clear cHX13); have cHX13 := HX.out.cell 13))
  go_ret
  exact ⟨ret_int HER.out.symm, HB.out⟩
 cases b11 : inB M.mc 0 20000
 ·have HER := hI9 (err_c b11)
  generalize M.err = E at *
  go_enter Tryz.func19, Tryz.ntmps19
  go_wp2_with (fail)
  have _x := frm1 w #[.int .i64 M.places, .int .i64 M.any.a0, .int .i64 M.any.a1, .int .i64 M.any.a2, .int .i64 M.any.a3, .int .i64 M.any.a4, .int .i64 M.any.a5, .bool M.any.i, .bool M.any.s, .int .i64 M.mw, .int .i64 M.ms, .int .i64 M.mc, .slice A M.n cF, .slice A2 M.m cS] 29
  have HX := hI9 _x.1
  have HB := hI9 _x.2.1
  have zW := _x.2.2
  clear _x
  generalize World.alloc w _ = W at *
  have zHX := HX.out.lt
  have cHX0 := HX.out.cell 0
  have cHX1 := HX.out.cell 1
  have cHX2 := HX.out.cell 2
  have cHX3 := HX.out.cell 3
  have cHX4 := HX.out.cell 4
  have cHX5 := HX.out.cell 5
  have cHX6 := HX.out.cell 6
  have cHX7 := HX.out.cell 7
  have cHX8 := HX.out.cell 8
  go_wp2_with (first | (go_at_call 39; (with_reducible refine (rw_from_c _ _ _ _).mono ?_); rintro e w1 ⟨rfl, rfl⟩) | (go_at_call 40; (with_reducible refine (HSK.out _).mono ?_); rintro e w1 ⟨rfl, hb1⟩; have nHX := hI9 (HX.out.below hb1); have nHB := hI9 (bthen HB.out hb1); have zz1 := hb1.size; clear HX HB hb1; have HX := nHX; have HB := nHB; clear nHX nHB; (try clear zHX); have zHX := HX.out.lt; (try clear cHX9); have cHX9 := HX.out.cell 9; (try clear cHX10); have cHX10 := HX.out.cell 10; (try clear cHX11); have cHX11 := HX.out.cell 11; (try clear cHX12); have cHX12 := HX.out.cell 12; (try clear cHX13); have cHX13 := HX.out.cell 13))
  go_ret
  exact ⟨ret_int HER.out.symm, HB.out⟩
 by_cases hn : 40 < M.n
 ·have HER := hI9 (err_n hn)
  have hnz : (40 : Int) < (M.n : Int) := by omega
  generalize M.err = E at *
  go_enter Tryz.func19, Tryz.ntmps19
  go_wp2_with (fail)
  have _x := frm1 w #[.int .i64 M.places, .int .i64 M.any.a0, .int .i64 M.any.a1, .int .i64 M.any.a2, .int .i64 M.any.a3, .int .i64 M.any.a4, .int .i64 M.any.a5, .bool M.any.i, .bool M.any.s, .int .i64 M.mw, .int .i64 M.ms, .int .i64 M.mc, .slice A M.n cF, .slice A2 M.m cS] 29
  have HX := hI9 _x.1
  have HB := hI9 _x.2.1
  have zW := _x.2.2
  clear _x
  generalize World.alloc w _ = W at *
  have zHX := HX.out.lt
  have cHX0 := HX.out.cell 0
  have cHX1 := HX.out.cell 1
  have cHX2 := HX.out.cell 2
  have cHX3 := HX.out.cell 3
  have cHX4 := HX.out.cell 4
  have cHX5 := HX.out.cell 5
  have cHX6 := HX.out.cell 6
  have cHX7 := HX.out.cell 7
  have cHX8 := HX.out.cell 8
  go_wp2_with (first | (go_at_call 39; (with_reducible refine (rw_from_c _ _ _ _).mono ?_); rintro e w1 ⟨rfl, rfl⟩) | (go_at_call 40; (with_reducible refine (HSK.out _).mono ?_); rintro e w1 ⟨rfl, hb1⟩; have nHX := hI9 (HX.out.below hb1); have nHB := hI9 (bthen HB.out hb1); have zz1 := hb1.size; clear HX HB hb1; have HX := nHX; have HB := nHB; clear nHX nHB; (try clear zHX); have zHX := HX.out.lt; (try clear cHX9); have cHX9 := HX.out.cell 9; (try clear cHX10); have cHX10 := HX.out.cell 10; (try clear cHX11); have cHX11 := HX.out.cell 11; (try clear cHX12); have cHX12 := HX.out.cell 12; (try clear cHX13); have cHX13 := HX.out.cell 13))
  go_ret
  exact ⟨ret_int HER.out.symm, HB.out⟩
 have hnz : ¬ (40 : Int) < (M.n : Int) := by omega
 by_cases hm : 20 < M.m
 ·have HER := hI9 (err_m hm)
  have hmz : (20 : Int) < (M.m : Int) := by omega
  generalize M.err = E at *
  go_enter Tryz.func19, Tryz.ntmps19
  go_wp2_with (fail)
  have _x := frm1 w #[.int .i64 M.places, .int .i64 M.any.a0, .int .i64 M.any.a1, .int .i64 M.any.a2, .int .i64 M.any.a3, .int .i64 M.any.a4, .int .i64 M.any.a5, .bool M.any.i, .bool M.any.s, .int .i64 M.mw, .int .i64 M.ms, .int .i64 M.mc, .slice A M.n cF, .slice A2 M.m cS] 29
  have HX := hI9 _x.1
  have HB := hI9 _x.2.1
  have zW := _x.2.2
  clear _x
  generalize World.alloc w _ = W at *
  have zHX := HX.out.lt
  have cHX0 := HX.out.cell 0
  have cHX1 := HX.out.cell 1
  have cHX2 := HX.out.cell 2
  have cHX3 := HX.out.cell 3
  have cHX4 := HX.out.cell 4
  have cHX5 := HX.out.cell 5
  have cHX6 := HX.out.cell 6
  have cHX7 := HX.out.cell 7
  have cHX8 := HX.out.cell 8
  go_wp2_with (first | (go_at_call 39; (with_reducible refine (rw_from_c _ _ _ _).mono ?_); rintro e w1 ⟨rfl, rfl⟩) | (go_at_call 40; (with_reducible refine (HSK.out _).mono ?_); rintro e w1 ⟨rfl, hb1⟩; have nHX := hI9 (HX.out.below hb1); have nHB := hI9 (bthen HB.out hb1); have zz1 := hb1.size; clear HX HB hb1; have HX := nHX; have HB := nHB; clear nHX nHB; (try clear zHX); have zHX := HX.out.lt; (try clear cHX9); have cHX9 := HX.out.cell 9; (try clear cHX10); have cHX10 := HX.out.cell 10; (try clear cHX11); have cHX11 := HX.out.cell 11; (try clear cHX12); have cHX12 := HX.out.cell 12; (try clear cHX13); have cHX13 := HX.out.cell 13))
  go_ret
  exact ⟨ret_int HER.out.symm, HB.out⟩
 have hmz : ¬ (20 : Int) < (M.m : Int) := by omega
 have HOK := hI9 (err_ok b0 b1 b9 b10 b11 hn hm)
 have HEF := hI9 (fun i hi h => err_f (M := M) (i := i) hi h)
 have HEG := hI9 (fun i hi h => err_g (M := M) (i := i) hi h)
 generalize hE : M.err = E at *
 clear hE
 go_enter Tryz.func19, Tryz.ntmps19
 go_wp2_with (fail)
 have _x := frm1 w #[.int .i64 M.places, .int .i64 M.any.a0, .int .i64 M.any.a1, .int .i64 M.any.a2, .int .i64 M.any.a3, .int .i64 M.any.a4, .int .i64 M.any.a5, .bool M.any.i, .bool M.any.s, .int .i64 M.mw, .int .i64 M.ms, .int .i64 M.mc, .slice A M.n cF, .slice A2 M.m cS] 29
 have HX := hI9 _x.1
 have HB := hI9 _x.2.1
 have zW := _x.2.2
 clear _x
 generalize World.alloc w _ = W at *
 have zHX := HX.out.lt
 have cHX0 := HX.out.cell 0
 have cHX1 := HX.out.cell 1
 have cHX2 := HX.out.cell 2
 have cHX3 := HX.out.cell 3
 have cHX4 := HX.out.cell 4
 have cHX5 := HX.out.cell 5
 have cHX6 := HX.out.cell 6
 have cHX7 := HX.out.cell 7
 have cHX8 := HX.out.cell 8
 go_wp2_with (first | (go_at_call 39; (with_reducible refine (rw_from_c _ _ _ _).mono ?_); rintro e w1 ⟨rfl, rfl⟩) | (go_at_call 40; (with_reducible refine (HSK.out _).mono ?_); rintro e w1 ⟨rfl, hb1⟩; have nHX := hI9 (HX.out.below hb1); have nHB := hI9 (bthen HB.out hb1); have zz1 := hb1.size; clear HX HB hb1; have HX := nHX; have HB := nHB; clear nHX nHB; (try clear zHX); have zHX := HX.out.lt; (try clear cHX9); have cHX9 := HX.out.cell 9; (try clear cHX10); have cHX10 := HX.out.cell 10; (try clear cHX11); have cHX11 := HX.out.cell 11; (try clear cHX12); have cHX12 := HX.out.cell 12; (try clear cHX13); have cHX13 := HX.out.cell 13))
 have K0 := hI9 (show RcK M (.slice A M.n cF) (.slice A2 M.m cS) w _ from ⟨HB.out, HX.out⟩)
 clear HX HB HSK b0 b1 b9 b10 b11
 go_loopg [3] M.n (fun gx i wr => ∃ k : Nat, i = .int .i64 k ∧ k ≤ M.n ∧ M.n - k ≤ gx ∧ Hid (RcK M (.slice A M.n cF) (.slice A2 M.m cS) w wr) ∧ Hid (∀ j, j < k → M.fcB j = false))
 case atStart => exact ⟨0, rfl, Nat.zero_le _, Nat.le_refl _, K0, hI9 (fun j hj => absurd hj (Nat.not_lt_zero _))⟩
 case round =>
  clear K0
  obtain ⟨k, rfl, hk, hgx, K0, HF⟩ := hrel
  have m12 := K0.out.m.cell 12
  simp only [gtA, gtS, gtZ] at m12
  by_cases hlt : k < M.n
  ·have hltz : (k : Int) < (M.n : Int) := by omega
   obtain ⟨A', c', hA', -, -, hrec⟩ := HA.out.f
   simp only [Value.slice.injEq] at hA'
   obtain ⟨rfl, -, rfl⟩ := hA'
   obtain ⟨bf, off, rfl, hbf, hcell⟩ := hrec (by omega)
   have hcr : ∀ j, j < 12 → wr.cell? ⟨bf, off + k * 12 + j, none⟩ = some (fcV M.D M.B k j) := fun j hj => (K0.out.b.cell (p := ⟨bf, off + k * 12 + j, none⟩) hbf).trans (hcell k hlt j hj)
   have c0 : wr.cell? ⟨bf, off + k * 12, none⟩ = some (.int .i64 (M.D k 0)) := hcr 0 (by omega)
   have c1 : wr.cell? ⟨bf, off + k * 12 + 1, none⟩ = some (.int .i64 (M.D k 1)) := hcr 1 (by omega)
   have c2 : wr.cell? ⟨bf, off + k * 12 + 2, none⟩ = some (.int .i64 (M.D k 2)) := hcr 2 (by omega)
   have c3 : wr.cell? ⟨bf, off + k * 12 + 3, none⟩ = some (.int .i64 (M.D k 3)) := hcr 3 (by omega)
   have c4 : wr.cell? ⟨bf, off + k * 12 + 4, none⟩ = some (.int .i64 (M.D k 4)) := hcr 4 (by omega)
   have c5 : wr.cell? ⟨bf, off + k * 12 + 5, none⟩ = some (.int .i64 (M.D k 5)) := hcr 5 (by omega)
   have c6 : wr.cell? ⟨bf, off + k * 12 + 6, none⟩ = some (.int .i64 (M.D k 6)) := hcr 6 (by omega)
   have c7 : wr.cell? ⟨bf, off + k * 12 + 7, none⟩ = some (.int .i64 (M.D k 7)) := hcr 7 (by omega)
   have c8 : wr.cell? ⟨bf, off + k * 12 + 8, none⟩ = some (.int .i64 (M.D k 8)) := hcr 8 (by omega)
   have c9 : wr.cell? ⟨bf, off + k * 12 + 9, none⟩ = some (.int .i64 (M.D k 9)) := hcr 9 (by omega)
   have c10 : wr.cell? ⟨bf, off + k * 12 + 10, none⟩ = some (.bool (M.B k 10)) := hcr 10 (by omega)
   have c11 : wr.cell? ⟨bf, off + k * 12 + 11, none⟩ = some (.bool (M.B k 11)) := hcr 11 (by omega)
   clear hcr hcell hrec
   have m0 := K0.out.m.cell 0
   simp only [gtA, gtS, gtZ] at m0
   have z0 := K0.out.m.lt
   have hq : ∀ w1, Calls Tryz.prog 40 #[.agg #[.int .i64 (M.D k 4), .int .i64 (M.D k 5), .int .i64 (M.D k 6), .int .i64 (M.D k 7), .int .i64 (M.D k 8), .int .i64 (M.D k 9), .bool (M.B k 10), .bool (M.B k 11)]] w1 fun e w' => e = .returned (.bool (M.fc k).inr) ∧ Below w1.heap.size w1 w' := fun w1 => rw_ValidSky_c (M.fc k) w1
   cases d1 : inB (M.D k 0) 0 (M.places - 1)
   ·have HER := hI9 (HEF.out k hlt (fcB_1 d1))
    clear hq
    go_wp2_with (first | (go_at_call 39; (with_reducible refine (rw_from_c _ _ _ _).mono ?_); rintro e w1 ⟨rfl, rfl⟩))
    go_ret
    exact ⟨ret_int HER.out.symm, bthen K0.out.b (by repeat' (first | exact Below.refl _ _ | assumption | refine Below.drew ?_ | refine bdn ?_ _ | refine bal ?_ _ | refine Below.setCell ?_ (by first | (simp; done) | omega | (simp; omega)) _))⟩
   by_cases d2 : M.D k 1 < 0
   ·have HER := hI9 (HEF.out k hlt (fcB_2 d2))
    clear hq
    go_wp2_with (first | (go_at_call 39; (with_reducible refine (rw_from_c _ _ _ _).mono ?_); rintro e w1 ⟨rfl, rfl⟩))
    go_ret
    exact ⟨ret_int HER.out.symm, bthen K0.out.b (by repeat' (first | exact Below.refl _ _ | assumption | refine Below.drew ?_ | refine bdn ?_ _ | refine bal ?_ _ | refine Below.setCell ?_ (by first | (simp; done) | omega | (simp; omega)) _))⟩
   by_cases d3 : M.D k 2 ≤ M.D k 1
   ·have HER := hI9 (HEF.out k hlt (fcB_3 d3))
    clear hq
    go_wp2_with (first | (go_at_call 39; (with_reducible refine (rw_from_c _ _ _ _).mono ?_); rintro e w1 ⟨rfl, rfl⟩))
    go_ret
    exact ⟨ret_int HER.out.symm, bthen K0.out.b (by repeat' (first | exact Below.refl _ _ | assumption | refine Below.drew ?_ | refine bdn ?_ _ | refine bal ?_ _ | refine Below.setCell ?_ (by first | (simp; done) | omega | (simp; omega)) _))⟩
   by_cases d4 : 2000 < M.D k 2
   ·have HER := hI9 (HEF.out k hlt (fcB_4 d4))
    clear hq
    go_wp2_with (first | (go_at_call 39; (with_reducible refine (rw_from_c _ _ _ _).mono ?_); rintro e w1 ⟨rfl, rfl⟩))
    go_ret
    exact ⟨ret_int HER.out.symm, bthen K0.out.b (by repeat' (first | exact Below.refl _ _ | assumption | refine Below.drew ?_ | refine bdn ?_ _ | refine bal ?_ _ | refine Below.setCell ?_ (by first | (simp; done) | omega | (simp; omega)) _))⟩
   cases d5 : inB (M.D k 3) 0 2000
   ·have HER := hI9 (HEF.out k hlt (fcB_5 d5))
    clear hq
    go_wp2_with (first | (go_at_call 39; (with_reducible refine (rw_from_c _ _ _ _).mono ?_); rintro e w1 ⟨rfl, rfl⟩))
    go_ret
    exact ⟨ret_int HER.out.symm, bthen K0.out.b (by repeat' (first | exact Below.refl _ _ | assumption | refine Below.drew ?_ | refine bdn ?_ _ | refine bal ?_ _ | refine Below.setCell ?_ (by first | (simp; done) | omega | (simp; omega)) _))⟩
   cases d6 : (M.fc k).inr
   ·have HER := hI9 (HEF.out k hlt (fcB_6 d6))
    rw [d6] at hq
    have HQ := hI9 hq
    clear hq
    go_wp2_with (first | (go_at_call 39; (with_reducible refine (rw_from_c _ _ _ _).mono ?_); rintro e w1 ⟨rfl, rfl⟩) | (go_at_call 40; refine (HQ.out _).mono ?_; rintro _ w2 ⟨rfl, hb2⟩))
    go_ret
    exact ⟨ret_int HER.out.symm, bthen K0.out.b (bthen (bal (Below.refl _ _) _) hb2)⟩
   ·rw [d6] at hq
    have HQ := hI9 hq
    have HF0 := hI9 (fcB_0 d1 d2 d3 d4 d5 d6)
    clear hq
    go_wp2_with (first | (go_at_call 39; (with_reducible refine (rw_from_c _ _ _ _).mono ?_); rintro e w1 ⟨rfl, rfl⟩) | (go_at_call 40; refine (HQ.out _).mono ?_; rintro _ w2 ⟨rfl, hb2⟩))
    go_roundg (M.n - (k + 1))
    case measure => omega
    case rel => exact ⟨k + 1, by first | rfl | go_num | (congr 1; omega), by omega, Nat.le_refl _, hI9 (K0.out.grow (bthen (bal (Below.refl _ _) _) hb2)), hI9 (fun j hj => by
     by_cases e : j = k
     ·subst e; exact HF0.out
     ·exact HF.out j (by omega))⟩
  ·obtain rfl : k = M.n := by omega
   go_wp2_with (fail)
   go_loopg [5] M.m (fun gx i wr => ∃ k : Nat, i = .int .i64 k ∧ k ≤ M.m ∧ M.m - k ≤ gx ∧ Hid (RcK M (.slice A M.n cF) (.slice A2 M.m cS) w wr) ∧ Hid (∀ j, j < k → M.siB j = false))
   case atStart => exact ⟨0, rfl, Nat.zero_le _, Nat.le_refl _, K0, hI9 (fun j hj => absurd hj (Nat.not_lt_zero _))⟩
   case round =>
    clear K0
    obtain ⟨k, rfl, hk, hgx, K0, HG⟩ := hrel
    have m13 := K0.out.m.cell 13
    simp only [gtA, gtS, gtZ] at m13
    by_cases hlt : k < M.m
    ·have hltz : (k : Int) < (M.m : Int) := by omega
     obtain ⟨A', c', hA', -, -, hrec⟩ := HA.out.s
     simp only [Value.slice.injEq] at hA'
     obtain ⟨rfl, -, rfl⟩ := hA'
     obtain ⟨bf, off, rfl, hbf, hcell⟩ := hrec (by omega)
     have hcr : ∀ j, j < 7 → wr.cell? ⟨bf, off + k * 7 + j, none⟩ = some (siV M.E M.C k j) := fun j hj => (K0.out.b.cell (p := ⟨bf, off + k * 7 + j, none⟩) hbf).trans (hcell k hlt j hj)
     have c0 : wr.cell? ⟨bf, off + k * 7, none⟩ = some (.int .i64 (M.E k 0)) := hcr 0 (by omega)
     have c1 : wr.cell? ⟨bf, off + k * 7 + 1, none⟩ = some (.int .i64 (M.E k 1)) := hcr 1 (by omega)
     have c2 : wr.cell? ⟨bf, off + k * 7 + 2, none⟩ = some (.int .i64 (M.E k 2)) := hcr 2 (by omega)
     have c3 : wr.cell? ⟨bf, off + k * 7 + 3, none⟩ = some (.int .i64 (M.E k 3)) := hcr 3 (by omega)
     have c4 : wr.cell? ⟨bf, off + k * 7 + 4, none⟩ = some (.int .i64 (M.E k 4)) := hcr 4 (by omega)
     have c5 : wr.cell? ⟨bf, off + k * 7 + 5, none⟩ = some (.bool (M.C k 5)) := hcr 5 (by omega)
     have c6 : wr.cell? ⟨bf, off + k * 7 + 6, none⟩ = some (.bool (M.C k 6)) := hcr 6 (by omega)
     clear hcr hcell hrec
     have m0 := K0.out.m.cell 0
     simp only [gtA, gtS, gtZ] at m0
     have z0 := K0.out.m.lt
     have hq := fun w1 => rw_ValidWeather_c (M.E k 2) (M.E k 3) (M.E k 4) (M.C k 5) (M.C k 6) w1
     cases d1 : inB (M.E k 0) 0 (M.places - 1)
     ·have HER := hI9 (HEG.out k hlt (siB_1 d1))
      clear hq
      go_wp2_with (first | (go_at_call 39; (with_reducible refine (rw_from_c _ _ _ _).mono ?_); rintro e w1 ⟨rfl, rfl⟩))
      go_ret
      exact ⟨ret_int HER.out.symm, bthen K0.out.b (by repeat' (first | exact Below.refl _ _ | assumption | refine Below.drew ?_ | refine bdn ?_ _ | refine bal ?_ _ | refine Below.setCell ?_ (by first | (simp; done) | omega | (simp; omega)) _))⟩
     cases d2 : inB (M.E k 1) 0 2000
     ·have HER := hI9 (HEG.out k hlt (siB_2 d2))
      clear hq
      go_wp2_with (first | (go_at_call 39; (with_reducible refine (rw_from_c _ _ _ _).mono ?_); rintro e w1 ⟨rfl, rfl⟩))
      go_ret
      exact ⟨ret_int HER.out.symm, bthen K0.out.b (by repeat' (first | exact Below.refl _ _ | assumption | refine Below.drew ?_ | refine bdn ?_ _ | refine bal ?_ _ | refine Below.setCell ?_ (by first | (simp; done) | omega | (simp; omega)) _))⟩
     cases d3 : wvB (M.E k 2) (M.E k 3) (M.E k 4)
     ·have HER := hI9 (HEG.out k hlt (siB_3 d3))
      rw [d3] at hq
      have HQ := hI9 hq
      clear hq
      go_wp2_with (first | (go_at_call 39; (with_reducible refine (rw_from_c _ _ _ _).mono ?_); rintro e w1 ⟨rfl, rfl⟩) | (go_at_call 41; refine (HQ.out _).mono ?_; rintro _ w2 ⟨rfl, hb2⟩))
      go_ret
      exact ⟨ret_int HER.out.symm, bthen K0.out.b (bthen (bal (Below.refl _ _) _) hb2)⟩
     ·rw [d3] at hq
      have HQ := hI9 hq
      have HF0 := hI9 (siB_0 d1 d2 d3)
      clear hq
      go_wp2_with (first | (go_at_call 39; (with_reducible refine (rw_from_c _ _ _ _).mono ?_); rintro e w1 ⟨rfl, rfl⟩) | (go_at_call 41; refine (HQ.out _).mono ?_; rintro _ w2 ⟨rfl, hb2⟩))
      go_roundg (M.m - (k + 1))
      case measure => omega
      case rel => exact ⟨k + 1, by first | rfl | go_num | (congr 1; omega), by omega, Nat.le_refl _, hI9 (K0.out.grow (bthen (bal (Below.refl _ _) _) hb2)), hI9 (fun j hj => by
       by_cases e : j = k
       ·subst e; exact HF0.out
       ·exact HG.out j (by omega))⟩
    ·obtain rfl : k = M.m := by omega
     have HER := hI9 (HOK.out HF.out HG.out)
     go_wp2_with (fail)
     go_ret
     exact ⟨ret_int HER.out.symm, K0.out.b⟩
end Go.Proofs.YtlabfpjlckdmfaaGreat
