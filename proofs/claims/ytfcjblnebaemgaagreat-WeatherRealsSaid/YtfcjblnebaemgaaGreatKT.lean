/- Texts joined: KT. -/
import Derived.Test.YtfcjblnebaemgaaGreatRwC
import Derived.Test.YtfcjblnebaemgaaGreatWfE
set_option linter.all false
namespace Go.Proofs.YtfcjblnebaemgaaGreat
open Go Go.RowKit Go.Proofs
set_option maxRecDepth 100000
set_option maxHeartbeats 8000000
theorem rw_Meet_c (al ah bl bh : Int) (w : World) (ha : vspan al ah = true) (hb : vspan bl bh = true) :
   Calls Tryz.prog 74 #[.agg #[.int .i64 al, .int .i64 ah], .agg #[.int .i64 bl, .int .i64 bh]] w fun e w' => e = .returned (.tuple #[.agg #[.int .i64 (meL al ah bl bh), .int .i64 (meH al ah bl bh)], .int .i64 (meE al ah bl bh)]) ∧ Below w.heap.size w w' := by
  obtain ⟨v0, v1, v2⟩ := vspan_iff'.1 ha
  obtain ⟨v3, v4, v5⟩ := vspan_iff'.1 hb
  have ht := fun w1 => rf_two_c al ah bl bh w1
  rw [ha, hb] at ht
  have HT := Lib.hid (show ∀ w1, Calls Tryz.prog 99 #[.agg #[.int .i64 al, .int .i64 ah], .agg #[.int .i64 bl, .int .i64 bh]] w1 fun e w' => e = .returned (.int .i64 0) ∧ Below w1.heap.size w1 w' from fun w1 => by
    have := ht w1
    rw [show (!true || !true) = false from rfl, spanE_f] at this
    exact this)
  clear ha hb ht
  unfold meE meL meH
  by_cases h : max al bl ≤ min ah bh
  · rw [if_pos h, if_pos h, if_pos h]
    have h2 : ¬ min ah bh < max al bl := by omega
    go_enter Tryz.func74, Tryz.ntmps74
    go_wp2_with (fail)
    have bHX : Blk (((w.alloc (.cells #[.int .i64 al, .int .i64 ah] 23)).alloc (.cells #[.int .i64 bl, .int .i64 bh] 23)).alloc (.cells #[.int .i64 0, .int .i64 0] 23)) (w.heap.size) 23 #[.int .i64 al, .int .i64 ah] := (by repeat (first | (refine Blk.newAt _ _ _ ?_; first | rfl | (simp; done)) | refine Blk.alloc ?_ _))
    have bHY : Blk (((w.alloc (.cells #[.int .i64 al, .int .i64 ah] 23)).alloc (.cells #[.int .i64 bl, .int .i64 bh] 23)).alloc (.cells #[.int .i64 0, .int .i64 0] 23)) (w.heap.size + 1) 23 #[.int .i64 bl, .int .i64 bh] := (by repeat (first | (refine Blk.newAt _ _ _ ?_; first | rfl | (simp; done)) | refine Blk.alloc ?_ _))
    have bHR : Blk (((w.alloc (.cells #[.int .i64 al, .int .i64 ah] 23)).alloc (.cells #[.int .i64 bl, .int .i64 bh] 23)).alloc (.cells #[.int .i64 0, .int .i64 0] 23)) (w.heap.size + 1 + 1) 23 #[.int .i64 0, .int .i64 0] := (by repeat (first | (refine Blk.newAt _ _ _ ?_; first | rfl | (simp; done)) | refine Blk.alloc ?_ _))
    have bHB : Below w.heap.size w (((w.alloc (.cells #[.int .i64 al, .int .i64 ah] 23)).alloc (.cells #[.int .i64 bl, .int .i64 bh] 23)).alloc (.cells #[.int .i64 0, .int .i64 0] 23)) := (by repeat' (first | exact Below.refl _ _ | assumption | refine Below.drew ?_ | refine bdn ?_ _ | refine bal ?_ _ | refine Below.setCell ?_ (by first | (simp; done) | omega | (simp; omega)) _))
    generalize (((w.alloc (.cells #[.int .i64 al, .int .i64 ah] 23)).alloc (.cells #[.int .i64 bl, .int .i64 bh] 23)).alloc (.cells #[.int .i64 0, .int .i64 0] 23)) = W at *
    have zW := bHR.lt
    have HX := Lib.hid bHX
    have HY := Lib.hid bHY
    have HR := Lib.hid bHR
    have HB := Lib.hid bHB
    clear bHX bHY bHR bHB
    have zHX := HX.out.lt
    have cHX0 := HX.out.cell 0
    have cHX1 := HX.out.cell 1
    have zHY := HY.out.lt
    have cHY0 := HY.out.cell 0
    have cHY1 := HY.out.cell 1
    go_wp2_with (first | (go_at_call 99; (with_reducible refine (HT.out _).mono ?_); rintro e w1 ⟨rfl, hb1⟩; have nHX := Lib.hid (HX.out.below hb1); have nHY := Lib.hid (HY.out.below hb1); have nHR := Lib.hid (HR.out.below hb1); have nHB := Lib.hid (bthen HB.out hb1); have zz1 := hb1.size; clear HX HY HR HB hb1; have HX := nHX; have HY := nHY; have HR := nHR; have HB := nHB; clear nHX nHY nHR nHB; (try clear zHX); have zHX := HX.out.lt; (try clear cHX0); have cHX0 := HX.out.cell 0; (try clear cHX1); have cHX1 := HX.out.cell 1; (try clear zHY); have zHY := HY.out.lt; (try clear cHY0); have cHY0 := HY.out.cell 0; (try clear cHY1); have cHY1 := HY.out.cell 1; (try clear zHR); have zHR := HR.out.lt; (try clear cHR0); have cHR0 := HR.out.cell 0; (try clear cHR1); have cHR1 := HR.out.cell 1; (try clear fHR); have fHR := fun i => HR.out.frozen i))
    exact bodyPost_ret (res_ct rfl _ _ #[.int .i64 (max al bl), .int .i64 (min ah bh)] 2 rfl (((HR.out.set_ 0 _).set_ 1 _).alloc _) Tryz.rowSpan rfl) rfl ⟨rfl, bal (bset (bset HB.out (g := w.heap.size + 1 + 1) (by omega) (i := 0) _) (g := w.heap.size + 1 + 1) (by omega) (i := 1) _) _⟩
  · rw [if_neg h, if_neg h, if_neg h]
    have h2 : min ah bh < max al bl := by omega
    go_enter Tryz.func74, Tryz.ntmps74
    go_wp2_with (fail)
    have bHX : Blk (((w.alloc (.cells #[.int .i64 al, .int .i64 ah] 23)).alloc (.cells #[.int .i64 bl, .int .i64 bh] 23)).alloc (.cells #[.int .i64 0, .int .i64 0] 23)) (w.heap.size) 23 #[.int .i64 al, .int .i64 ah] := (by repeat (first | (refine Blk.newAt _ _ _ ?_; first | rfl | (simp; done)) | refine Blk.alloc ?_ _))
    have bHY : Blk (((w.alloc (.cells #[.int .i64 al, .int .i64 ah] 23)).alloc (.cells #[.int .i64 bl, .int .i64 bh] 23)).alloc (.cells #[.int .i64 0, .int .i64 0] 23)) (w.heap.size + 1) 23 #[.int .i64 bl, .int .i64 bh] := (by repeat (first | (refine Blk.newAt _ _ _ ?_; first | rfl | (simp; done)) | refine Blk.alloc ?_ _))
    have bHR : Blk (((w.alloc (.cells #[.int .i64 al, .int .i64 ah] 23)).alloc (.cells #[.int .i64 bl, .int .i64 bh] 23)).alloc (.cells #[.int .i64 0, .int .i64 0] 23)) (w.heap.size + 1 + 1) 23 #[.int .i64 0, .int .i64 0] := (by repeat (first | (refine Blk.newAt _ _ _ ?_; first | rfl | (simp; done)) | refine Blk.alloc ?_ _))
    have bHB : Below w.heap.size w (((w.alloc (.cells #[.int .i64 al, .int .i64 ah] 23)).alloc (.cells #[.int .i64 bl, .int .i64 bh] 23)).alloc (.cells #[.int .i64 0, .int .i64 0] 23)) := (by repeat' (first | exact Below.refl _ _ | assumption | refine Below.drew ?_ | refine bdn ?_ _ | refine bal ?_ _ | refine Below.setCell ?_ (by first | (simp; done) | omega | (simp; omega)) _))
    generalize (((w.alloc (.cells #[.int .i64 al, .int .i64 ah] 23)).alloc (.cells #[.int .i64 bl, .int .i64 bh] 23)).alloc (.cells #[.int .i64 0, .int .i64 0] 23)) = W at *
    have zW := bHR.lt
    have HX := Lib.hid bHX
    have HY := Lib.hid bHY
    have HR := Lib.hid bHR
    have HB := Lib.hid bHB
    clear bHX bHY bHR bHB
    have zHX := HX.out.lt
    have cHX0 := HX.out.cell 0
    have cHX1 := HX.out.cell 1
    have zHY := HY.out.lt
    have cHY0 := HY.out.cell 0
    have cHY1 := HY.out.cell 1
    go_wp2_with (first | (go_at_call 99; (with_reducible refine (HT.out _).mono ?_); rintro e w1 ⟨rfl, hb1⟩; have nHX := Lib.hid (HX.out.below hb1); have nHY := Lib.hid (HY.out.below hb1); have nHR := Lib.hid (HR.out.below hb1); have nHB := Lib.hid (bthen HB.out hb1); have zz1 := hb1.size; clear HX HY HR HB hb1; have HX := nHX; have HY := nHY; have HR := nHR; have HB := nHB; clear nHX nHY nHR nHB; (try clear zHX); have zHX := HX.out.lt; (try clear cHX0); have cHX0 := HX.out.cell 0; (try clear cHX1); have cHX1 := HX.out.cell 1; (try clear zHY); have zHY := HY.out.lt; (try clear cHY0); have cHY0 := HY.out.cell 0; (try clear cHY1); have cHY1 := HY.out.cell 1; (try clear zHR); have zHR := HR.out.lt; (try clear cHR0); have cHR0 := HR.out.cell 0; (try clear cHR1); have cHR1 := HR.out.cell 1; (try clear fHR); have fHR := fun i => HR.out.frozen i))
    exact bodyPost_ret (res_ct rfl _ _ #[.int .i64 0, .int .i64 0] 2 rfl (((HR.out.set_ 0 _).set_ 1 _).alloc _) Tryz.rowSpan rfl) rfl ⟨rfl, bal (bset (bset HB.out (g := w.heap.size + 1 + 1) (by omega) (i := 0) _) (g := w.heap.size + 1 + 1) (by omega) (i := 1) _) _⟩
theorem rw_around_c (n d m : Int) (w : World) (h0 : -1000000000 ≤ n) (h1 : n ≤ 1000000000) (h2 : -1000000000 ≤ d) (h3 : d ≤ 1000000000) (hn0 : 0 ≤ n) (hn1 : n ≤ m) (hd : 0 ≤ d) (hm : m ≤ 1000000) :
   Calls Tryz.prog 57 #[.int .i64 n, .int .i64 d, .int .i64 m] w fun e w' => e = .returned (.agg #[.int .i64 (neL n d m), .int .i64 (neH n d m)]) ∧ Below w.heap.size w w' := by
  go_enter Tryz.func57, Tryz.ntmps57
  go_wp2
  all_goals exact bodyPost_ret (res_c rfl _ _ _ 2 rfl (Blk.new _ _ _) Tryz.rowSpan rfl) rfl ⟨ret2 (by unfold neL; omega) (by unfold neH; omega), bal (Below.refl _ _) _⟩
theorem rw_cut_c (al ah bl bh : Int) (w : World) (ha : vspan al ah = true) (hb : vspan bl bh = true) :
   Calls Tryz.prog 56 #[.agg #[.int .i64 al, .int .i64 ah], .agg #[.int .i64 bl, .int .i64 bh]] w fun e w' => e = .returned (.tuple #[.agg #[.int .i64 (cuL al ah bl bh), .int .i64 (cuH al ah bl bh)], .bool (cuF al ah bl bh)]) ∧ Below w.heap.size w w' := by
  have hm := fun w1 => rw_Meet_c al ah bl bh w1 ha hb
  unfold cuL cuH cuF
  clear ha hb
  unfold meL meH meE at hm
  by_cases h : max al bl ≤ min ah bh
  · rw [if_pos h, if_pos h, if_pos h] at hm
    rw [if_pos h, if_pos h, show (!decide (max al bl ≤ min ah bh)) = false by simp [h]]
    have HM := Lib.hid hm
    clear hm
    go_enter Tryz.func56, Tryz.ntmps56
    go_wp2_with (fail)
    have bHX : Blk (((w.alloc (.cells #[.int .i64 al, .int .i64 ah] 23)).alloc (.cells #[.int .i64 bl, .int .i64 bh] 23)).alloc (.cells #[.int .i64 0, .int .i64 0] 23)) (w.heap.size) 23 #[.int .i64 al, .int .i64 ah] := (by repeat (first | (refine Blk.newAt _ _ _ ?_; first | rfl | (simp; done)) | refine Blk.alloc ?_ _))
    have bHY : Blk (((w.alloc (.cells #[.int .i64 al, .int .i64 ah] 23)).alloc (.cells #[.int .i64 bl, .int .i64 bh] 23)).alloc (.cells #[.int .i64 0, .int .i64 0] 23)) (w.heap.size + 1) 23 #[.int .i64 bl, .int .i64 bh] := (by repeat (first | (refine Blk.newAt _ _ _ ?_; first | rfl | (simp; done)) | refine Blk.alloc ?_ _))
    have bHR : Blk (((w.alloc (.cells #[.int .i64 al, .int .i64 ah] 23)).alloc (.cells #[.int .i64 bl, .int .i64 bh] 23)).alloc (.cells #[.int .i64 0, .int .i64 0] 23)) (w.heap.size + 1 + 1) 23 #[.int .i64 0, .int .i64 0] := (by repeat (first | (refine Blk.newAt _ _ _ ?_; first | rfl | (simp; done)) | refine Blk.alloc ?_ _))
    have bHB : Below w.heap.size w (((w.alloc (.cells #[.int .i64 al, .int .i64 ah] 23)).alloc (.cells #[.int .i64 bl, .int .i64 bh] 23)).alloc (.cells #[.int .i64 0, .int .i64 0] 23)) := (by repeat' (first | exact Below.refl _ _ | assumption | refine Below.drew ?_ | refine bdn ?_ _ | refine bal ?_ _ | refine Below.setCell ?_ (by first | (simp; done) | omega | (simp; omega)) _))
    generalize (((w.alloc (.cells #[.int .i64 al, .int .i64 ah] 23)).alloc (.cells #[.int .i64 bl, .int .i64 bh] 23)).alloc (.cells #[.int .i64 0, .int .i64 0] 23)) = W at *
    have zW := bHR.lt
    have HX := Lib.hid bHX
    have HY := Lib.hid bHY
    have HR := Lib.hid bHR
    have HB := Lib.hid bHB
    clear bHX bHY bHR bHB
    have zHX := HX.out.lt
    have cHX0 := HX.out.cell 0
    have cHX1 := HX.out.cell 1
    have zHY := HY.out.lt
    have cHY0 := HY.out.cell 0
    have cHY1 := HY.out.cell 1
    go_wp2_with (first | (go_at_call 74; (with_reducible refine (HM.out _).mono ?_); rintro e w1 ⟨rfl, hb1⟩; have nHX := Lib.hid (HX.out.below hb1); have nHY := Lib.hid (HY.out.below hb1); have nHR := Lib.hid (HR.out.below hb1); have nHB := Lib.hid (bthen HB.out hb1); have zz1 := hb1.size; clear HX HY HR HB hb1; have HX := nHX; have HY := nHY; have HR := nHR; have HB := nHB; clear nHX nHY nHR nHB; (try clear zHY); have zHY := HY.out.lt; (try clear cHY0); have cHY0 := HY.out.cell 0; (try clear cHY1); have cHY1 := HY.out.cell 1; (try clear zHR); have zHR := HR.out.lt; (try clear cHR0); have cHR0 := HR.out.cell 0; (try clear cHR1); have cHR1 := HR.out.cell 1; (try clear fHR); have fHR := fun i => HR.out.frozen i))
    exact bodyPost_ret (res_ct rfl _ _ #[.int .i64 (max al bl), .int .i64 (min ah bh)] 2 rfl (((HR.out.set_ 0 _).set_ 1 _).alloc _) Tryz.rowSpan rfl) rfl ⟨rfl, bal (bset (bset HB.out (g := w.heap.size + 1 + 1) (by omega) (i := 0) _) (g := w.heap.size + 1 + 1) (by omega) (i := 1) _) _⟩
  · rw [if_neg h, if_neg h, if_neg h] at hm
    rw [if_neg h, if_neg h, show (!decide (max al bl ≤ min ah bh)) = true by simp [h]]
    have HM := Lib.hid hm
    clear hm
    go_enter Tryz.func56, Tryz.ntmps56
    go_wp2_with (fail)
    have bHX : Blk (((w.alloc (.cells #[.int .i64 al, .int .i64 ah] 23)).alloc (.cells #[.int .i64 bl, .int .i64 bh] 23)).alloc (.cells #[.int .i64 0, .int .i64 0] 23)) (w.heap.size) 23 #[.int .i64 al, .int .i64 ah] := (by repeat (first | (refine Blk.newAt _ _ _ ?_; first | rfl | (simp; done)) | refine Blk.alloc ?_ _))
    have bHY : Blk (((w.alloc (.cells #[.int .i64 al, .int .i64 ah] 23)).alloc (.cells #[.int .i64 bl, .int .i64 bh] 23)).alloc (.cells #[.int .i64 0, .int .i64 0] 23)) (w.heap.size + 1) 23 #[.int .i64 bl, .int .i64 bh] := (by repeat (first | (refine Blk.newAt _ _ _ ?_; first | rfl | (simp; done)) | refine Blk.alloc ?_ _))
    have bHR : Blk (((w.alloc (.cells #[.int .i64 al, .int .i64 ah] 23)).alloc (.cells #[.int .i64 bl, .int .i64 bh] 23)).alloc (.cells #[.int .i64 0, .int .i64 0] 23)) (w.heap.size + 1 + 1) 23 #[.int .i64 0, .int .i64 0] := (by repeat (first | (refine Blk.newAt _ _ _ ?_; first | rfl | (simp; done)) | refine Blk.alloc ?_ _))
    have bHB : Below w.heap.size w (((w.alloc (.cells #[.int .i64 al, .int .i64 ah] 23)).alloc (.cells #[.int .i64 bl, .int .i64 bh] 23)).alloc (.cells #[.int .i64 0, .int .i64 0] 23)) := (by repeat' (first | exact Below.refl _ _ | assumption | refine Below.drew ?_ | refine bdn ?_ _ | refine bal ?_ _ | refine Below.setCell ?_ (by first | (simp; done) | omega | (simp; omega)) _))
    generalize (((w.alloc (.cells #[.int .i64 al, .int .i64 ah] 23)).alloc (.cells #[.int .i64 bl, .int .i64 bh] 23)).alloc (.cells #[.int .i64 0, .int .i64 0] 23)) = W at *
    have zW := bHR.lt
    have HX := Lib.hid bHX
    have HY := Lib.hid bHY
    have HR := Lib.hid bHR
    have HB := Lib.hid bHB
    clear bHX bHY bHR bHB
    have zHX := HX.out.lt
    have cHX0 := HX.out.cell 0
    have cHX1 := HX.out.cell 1
    have zHY := HY.out.lt
    have cHY0 := HY.out.cell 0
    have cHY1 := HY.out.cell 1
    go_wp2_with (first | (go_at_call 74; (with_reducible refine (HM.out _).mono ?_); rintro e w1 ⟨rfl, hb1⟩; have nHX := Lib.hid (HX.out.below hb1); have nHY := Lib.hid (HY.out.below hb1); have nHR := Lib.hid (HR.out.below hb1); have nHB := Lib.hid (bthen HB.out hb1); have zz1 := hb1.size; clear HX HY HR HB hb1; have HX := nHX; have HY := nHY; have HR := nHR; have HB := nHB; clear nHX nHY nHR nHB; (try clear zHY); have zHY := HY.out.lt; (try clear cHY0); have cHY0 := HY.out.cell 0; (try clear cHY1); have cHY1 := HY.out.cell 1; (try clear zHR); have zHR := HR.out.lt; (try clear cHR0); have cHR0 := HR.out.cell 0; (try clear cHR1); have cHR1 := HR.out.cell 1; (try clear fHR); have fHR := fun i => HR.out.frozen i))
    exact bodyPost_ret (res_ct rfl _ _ #[.int .i64 bl, .int .i64 bh] 2 rfl (((HR.out.set_ 0 _).set_ 1 _).alloc _) Tryz.rowSpan rfl) rfl ⟨rfl, bal (bset (bset HB.out (g := w.heap.size + 1 + 1) (by omega) (i := 0) _) (g := w.heap.size + 1 + 1) (by omega) (i := 1) _) _⟩
end Go.Proofs.YtfcjblnebaemgaaGreat

namespace Go.Proofs.YtfcjblnebaemgaaGreat
open Go Go.RowKit Go.Proofs
set_option maxRecDepth 100000
set_option maxHeartbeats 8000000
theorem rw_cutSky_c (x y : Sk) (w : World) (hx : x.ok) (hy : y.ok) :
   Calls Tryz.prog 54 #[.agg x.cells, .agg y.cells] w fun e w' => e = .returned (.tuple #[.agg (Sk.mk (x.cut y).a0 (x.cut y).a1 (x.cut y).a2 (x.cut y).a3 (x.cut y).a4 (x.cut y).a5 (x.i && y.i) (x.s && y.s)).cells, .bool (x.odd y)]) ∧ Below w.heap.size w w' := by
  obtain ⟨a0, a1, a2, a3, a4, a5, ai, as1⟩ := x
  obtain ⟨b0, b1, b2, b3, b4, b5, bi, bs⟩ := y
  obtain ⟨p1, p2, p3⟩ := hx
  obtain ⟨q1, q2, q3⟩ := hy
  have h1 := fun w1 => rw_cut_c a0 a1 b0 b1 w1 p1 q1
  have h2 := fun w1 => rw_cut_c a2 a3 b2 b3 w1 p2 q2
  have h3 := fun w1 => rw_cut_c a4 a5 b4 b5 w1 p3 q3
  clear p1 p2 p3 q1 q2 q3
  unfold Sk.cut Sk.odd skF Sk.cells
  dsimp only
  generalize cuL a0 a1 b0 b1 = l1 at *
  generalize cuH a0 a1 b0 b1 = g1 at *
  generalize cuF a0 a1 b0 b1 = F1 at *
  generalize cuL a2 a3 b2 b3 = l2 at *
  generalize cuH a2 a3 b2 b3 = g2 at *
  generalize cuF a2 a3 b2 b3 = F2 at *
  generalize cuL a4 a5 b4 b5 = l3 at *
  generalize cuH a4 a5 b4 b5 = g3 at *
  generalize cuF a4 a5 b4 b5 = F3 at *
  have H1 := Lib.hid h1
  have H2 := Lib.hid h2
  have H3 := Lib.hid h3
  clear h1 h2 h3
  go_enter Tryz.func54, Tryz.ntmps54
  go_wp2_with (fail)
  have bHX : Blk (((w.alloc (.cells #[.int .i64 a0, .int .i64 a1, .int .i64 a2, .int .i64 a3, .int .i64 a4, .int .i64 a5, .bool ai, .bool as1] 25)).alloc (.cells #[.int .i64 b0, .int .i64 b1, .int .i64 b2, .int .i64 b3, .int .i64 b4, .int .i64 b5, .bool bi, .bool bs] 25)).alloc (.cells #[.int .i64 0, .int .i64 0, .int .i64 0, .int .i64 0, .int .i64 0, .int .i64 0, .bool false, .bool false] 25)) (w.heap.size) 25 #[.int .i64 a0, .int .i64 a1, .int .i64 a2, .int .i64 a3, .int .i64 a4, .int .i64 a5, .bool ai, .bool as1] := (by repeat (first | (refine Blk.newAt _ _ _ ?_; first | rfl | (simp; done)) | refine Blk.alloc ?_ _))
  have bHY : Blk (((w.alloc (.cells #[.int .i64 a0, .int .i64 a1, .int .i64 a2, .int .i64 a3, .int .i64 a4, .int .i64 a5, .bool ai, .bool as1] 25)).alloc (.cells #[.int .i64 b0, .int .i64 b1, .int .i64 b2, .int .i64 b3, .int .i64 b4, .int .i64 b5, .bool bi, .bool bs] 25)).alloc (.cells #[.int .i64 0, .int .i64 0, .int .i64 0, .int .i64 0, .int .i64 0, .int .i64 0, .bool false, .bool false] 25)) (w.heap.size + 1) 25 #[.int .i64 b0, .int .i64 b1, .int .i64 b2, .int .i64 b3, .int .i64 b4, .int .i64 b5, .bool bi, .bool bs] := (by repeat (first | (refine Blk.newAt _ _ _ ?_; first | rfl | (simp; done)) | refine Blk.alloc ?_ _))
  have bHR : Blk (((w.alloc (.cells #[.int .i64 a0, .int .i64 a1, .int .i64 a2, .int .i64 a3, .int .i64 a4, .int .i64 a5, .bool ai, .bool as1] 25)).alloc (.cells #[.int .i64 b0, .int .i64 b1, .int .i64 b2, .int .i64 b3, .int .i64 b4, .int .i64 b5, .bool bi, .bool bs] 25)).alloc (.cells #[.int .i64 0, .int .i64 0, .int .i64 0, .int .i64 0, .int .i64 0, .int .i64 0, .bool false, .bool false] 25)) (w.heap.size + 1 + 1) 25 #[.int .i64 0, .int .i64 0, .int .i64 0, .int .i64 0, .int .i64 0, .int .i64 0, .bool false, .bool false] := (by repeat (first | (refine Blk.newAt _ _ _ ?_; first | rfl | (simp; done)) | refine Blk.alloc ?_ _))
  have bHB : Below w.heap.size w (((w.alloc (.cells #[.int .i64 a0, .int .i64 a1, .int .i64 a2, .int .i64 a3, .int .i64 a4, .int .i64 a5, .bool ai, .bool as1] 25)).alloc (.cells #[.int .i64 b0, .int .i64 b1, .int .i64 b2, .int .i64 b3, .int .i64 b4, .int .i64 b5, .bool bi, .bool bs] 25)).alloc (.cells #[.int .i64 0, .int .i64 0, .int .i64 0, .int .i64 0, .int .i64 0, .int .i64 0, .bool false, .bool false] 25)) := (by repeat' (first | exact Below.refl _ _ | assumption | refine Below.drew ?_ | refine bdn ?_ _ | refine bal ?_ _ | refine Below.setCell ?_ (by first | (simp; done) | omega | (simp; omega)) _))
  generalize (((w.alloc (.cells #[.int .i64 a0, .int .i64 a1, .int .i64 a2, .int .i64 a3, .int .i64 a4, .int .i64 a5, .bool ai, .bool as1] 25)).alloc (.cells #[.int .i64 b0, .int .i64 b1, .int .i64 b2, .int .i64 b3, .int .i64 b4, .int .i64 b5, .bool bi, .bool bs] 25)).alloc (.cells #[.int .i64 0, .int .i64 0, .int .i64 0, .int .i64 0, .int .i64 0, .int .i64 0, .bool false, .bool false] 25)) = W at *
  have zW := bHR.lt
  have HX := Lib.hid bHX
  have HY := Lib.hid bHY
  have HR := Lib.hid bHR
  have HB := Lib.hid bHB
  clear bHX bHY bHR bHB
  have zHX := HX.out.lt
  have cHX0 := HX.out.cell 0
  have cHX1 := HX.out.cell 1
  have zHY := HY.out.lt
  have cHY0 := HY.out.cell 0
  have cHY1 := HY.out.cell 1
  go_wp2_with (fail)
  refine (H1.out _).mono ?_
  rintro e w1 ⟨rfl, hb1⟩
  have nHX := Lib.hid (HX.out.below hb1)
  have nHY := Lib.hid (HY.out.below hb1)
  have nHR := Lib.hid (HR.out.below hb1)
  have nHB := Lib.hid (bthen HB.out hb1)
  clear HX HY HR HB hb1
  have HX := nHX
  have HY := nHY
  have HR := nHR
  have HB := nHB
  clear nHX nHY nHR nHB
  have zHX := HX.out.lt
  have cHX2 := HX.out.cell 2
  have cHX3 := HX.out.cell 3
  have zHY := HY.out.lt
  have cHY2 := HY.out.cell 2
  have cHY3 := HY.out.cell 3
  go_wp2_with (fail)
  have bHP := Blk.new w1 23 #[.int .i64 l1, .int .i64 g1]
  have nHX := Lib.hid (HX.out.alloc (.cells #[.int .i64 l1, .int .i64 g1] 23))
  have nHY := Lib.hid (HY.out.alloc (.cells #[.int .i64 l1, .int .i64 g1] 23))
  have nHR := Lib.hid (HR.out.alloc (.cells #[.int .i64 l1, .int .i64 g1] 23))
  have nHB := Lib.hid (bal HB.out (.cells #[.int .i64 l1, .int .i64 g1] 23))
  clear HX HY HR HB
  have HX := nHX
  have HY := nHY
  have HR := nHR
  have HB := nHB
  clear nHX nHY nHR nHB
  generalize w1.alloc (.cells #[.int .i64 l1, .int .i64 g1] 23) = W2 at *
  generalize w1.heap.size = gHP at *
  have HP := Lib.hid bHP
  clear bHP
  refine (H2.out _).mono ?_
  rintro e w1 ⟨rfl, hb1⟩
  have nHX := Lib.hid (HX.out.below hb1)
  have nHY := Lib.hid (HY.out.below hb1)
  have nHR := Lib.hid (HR.out.below hb1)
  have nHP := Lib.hid (HP.out.below hb1)
  have nHB := Lib.hid (bthen HB.out hb1)
  clear HX HY HR HP HB hb1
  have HX := nHX
  have HY := nHY
  have HR := nHR
  have HP := nHP
  have HB := nHB
  clear nHX nHY nHR nHP nHB
  have zHX := HX.out.lt
  have cHX4 := HX.out.cell 4
  have cHX5 := HX.out.cell 5
  have zHY := HY.out.lt
  have cHY4 := HY.out.cell 4
  have cHY5 := HY.out.cell 5
  go_wp2_with (fail)
  have bHQ := Blk.new w1 23 #[.int .i64 l2, .int .i64 g2]
  have nHX := Lib.hid (HX.out.alloc (.cells #[.int .i64 l2, .int .i64 g2] 23))
  have nHY := Lib.hid (HY.out.alloc (.cells #[.int .i64 l2, .int .i64 g2] 23))
  have nHR := Lib.hid (HR.out.alloc (.cells #[.int .i64 l2, .int .i64 g2] 23))
  have nHP := Lib.hid (HP.out.alloc (.cells #[.int .i64 l2, .int .i64 g2] 23))
  have nHB := Lib.hid (bal HB.out (.cells #[.int .i64 l2, .int .i64 g2] 23))
  clear HX HY HR HP HB
  have HX := nHX
  have HY := nHY
  have HR := nHR
  have HP := nHP
  have HB := nHB
  clear nHX nHY nHR nHP nHB
  generalize w1.alloc (.cells #[.int .i64 l2, .int .i64 g2] 23) = W2 at *
  generalize w1.heap.size = gHQ at *
  have HQ := Lib.hid bHQ
  clear bHQ
  refine (H3.out _).mono ?_
  rintro e w1 ⟨rfl, hb1⟩
  have nHX := Lib.hid (HX.out.below hb1)
  have nHY := Lib.hid (HY.out.below hb1)
  have nHR := Lib.hid (HR.out.below hb1)
  have nHP := Lib.hid (HP.out.below hb1)
  have nHQ := Lib.hid (HQ.out.below hb1)
  have nHB := Lib.hid (bthen HB.out hb1)
  clear HX HY HR HP HQ HB hb1
  have HX := nHX
  have HY := nHY
  have HR := nHR
  have HP := nHP
  have HQ := nHQ
  have HB := nHB
  clear nHX nHY nHR nHP nHQ nHB
  have zR := HR.out.lt
  have zP := HP.out.lt
  have zQ := HQ.out.lt
  have zX := HX.out.lt
  have zY := HY.out.lt
  have x6 := HX.out.cell 6
  have x7 := HX.out.cell 7
  have y6 := HY.out.cell 6
  have y7 := HY.out.cell 7
  have p0 := HP.out.cell 0
  have p1 := HP.out.cell 1
  have q0 := HQ.out.cell 0
  have q1 := HQ.out.cell 1
  simp only [List.getElem?_toArray, List.getElem?_cons_succ, List.getElem?_cons_zero] at x6 x7 y6 y7 p0 p1 q0 q1
  cases ai <;> cases as1 <;> cases F1 <;> cases F2
  all_goals
    go_wp2_with (first | (refine wpList_store_row rfl 25 (.tmp 4) (.tmp 51) rfl (w.heap.size + 1 + 1) _ rfl rfl 25 #[.int .i64 0, .int .i64 0, .int .i64 0, .int .i64 0, .int .i64 0, .int .i64 0, .bool false, .bool false] (HR.out.alloc _) Tryz.sizeSky rfl (oneS _ _ _ _ _ _ _ _) ?_; simp only [Act.put]))
    exact bodyPost_ret (res_ct rfl _ _ _ 8 rfl (setRow_heap _ _ _ _ _ _ (HR.out.alloc _)) Tryz.rowSky rfl) rfl ⟨rfl, rowBelow (bal HB.out _) (by omega) _⟩
end Go.Proofs.YtfcjblnebaemgaaGreat

namespace Go.Proofs.YtfcjblnebaemgaaGreat
open Go Go.RowKit Go.Proofs

theorem key2_anti {key : Nat → Int} {a b : Nat} (h1 : (!keyLt key (fun i => (i : Int)) b a) = true) (h2 : (!keyLt key (fun i => (i : Int)) a b) = true) : a = b := by
  unfold keyLt at *
  simp only [Bool.not_eq_true', Bool.or_eq_false_iff, Bool.and_eq_false_iff, decide_eq_false_iff_not] at *
  omega
theorem stab2_perm (key : Nat → Int) (l : List Nat) : (stab key l).Perm l := by unfold stab; exact List.mergeSort_perm _ _
/-- The one order. -/
theorem stab2_unique {key : Nat → Int} {l l' : List Nat} (hp : l'.Perm l) (hs : l'.Pairwise fun a b => (!keyLt key (fun i => (i : Int)) b a) = true) : stab key l = l' :=
  List.Perm.eq_of_pairwise (le := fun a b => (!keyLt key (fun i => (i : Int)) b a) = true) (fun a b _ _ h1 h2 => key2_anti h1 h2) (stab_pair key l) hs ((stab2_perm key l).trans hp.symm)
theorem keyLe_iff {key : Nat → Int} {a b : Nat} : (!keyLt key (fun i => (i : Int)) b a) = true ↔ key a < key b ∨ (key a = key b ∧ a ≤ b) := by
  unfold keyLt
  simp only [Bool.not_eq_true', Bool.or_eq_false_iff, Bool.and_eq_false_iff, decide_eq_false_iff_not]
  omega
theorem ins_done {key : Nat → Int} {l a b : List Nat} {i : Nat} (hs : stab key l = a ++ b) (hl : ∀ j ∈ l, j < i) (hb : ∀ y ∈ b, key i < key y) (ha : a = [] ∨ ∃ a' y, a = a' ++ [y] ∧ key y ≤ key i) : stab key (l ++ [i]) = a ++ i :: b := by
  have hp := stab_pair key l
  rw [hs] at hp
  have hmem : ∀ j ∈ a ++ b, j < i := fun j hj => hl j (by rw [← hs] at hj; exact stab_mem.1 hj)
  obtain ⟨p1, p2, p3⟩ := List.pairwise_append.1 hp
  have hle : ∀ y ∈ a, key y ≤ key i := by
    intro y hy
    rcases ha with rfl | ⟨a', z, rfl, hz⟩
    · cases hy
    · rcases List.mem_append.1 hy with h | h
      · have := keyLe_iff.1 ((List.pairwise_append.1 p1).2.2 y h z (List.mem_singleton.2 rfl))
        omega
      · rw [List.mem_singleton.1 h]; exact hz
  refine stab2_unique ?_ ?_
  · refine List.perm_middle.trans ?_
    have h1 : (a ++ b).Perm l := by rw [← hs]; exact stab2_perm key l
    exact (h1.cons i).trans (List.perm_append_singleton i l).symm
  · rw [List.pairwise_append]
    refine ⟨p1, List.pairwise_cons.2 ⟨fun y hy => keyLe_iff.2 (Or.inl (hb y hy)), p2⟩, fun y hy z hz => ?_⟩
    rcases List.mem_cons.1 hz with rfl | h
    · have h1 := hle y hy
      have h2 := hmem y (List.mem_append_left _ hy)
      exact keyLe_iff.2 (by omega)
    · exact p3 y hy z h
/-- What the swaps keep: the list is a, then i, then b. -/
structure Ins (key : Nat → Int) (s : List Nat) (i : Nat) (a b : List Nat) : Prop where
  s : s = a ++ b
  b : ∀ y ∈ b, key i < key y
theorem Ins.start (key : Nat → Int) (s : List Nat) (i : Nat) : Ins key s i s [] := ⟨by simp, fun y hy => by cases hy⟩
theorem Ins.step {key : Nat → Int} {s a b : List Nat} {i y : Nat} (h : Ins key s i (a ++ [y]) b) (hy : key i < key y) : Ins key s i a (y :: b) :=
  ⟨by rw [h.s]; simp, fun z hz => by rcases List.mem_cons.1 hz with rfl | h2; exact hy; exact h.b z h2⟩
end Go.Proofs.YtfcjblnebaemgaaGreat

namespace Go.Proofs.YtfcjblnebaemgaaGreat
open Go Go.RowKit Go.Proofs
set_option maxRecDepth 100000
set_option maxHeartbeats 8000000
def MetD.keyF (M : MetD) (i : Nat) : Int := M.D i 3
/-- What the outer loop keeps: the forecasts so far, in order. -/
structure CvK (M : MetD) (vF vS : Value) (p t : Int) (w : World) (k : Nat) (v : Value) (wr : World) : Prop where
  b : RowKit.Below w.heap.size w wr
  m : Blk wr w.heap.size 29 #[.int .i64 M.places, .int .i64 M.any.a0, .int .i64 M.any.a1, .int .i64 M.any.a2, .int .i64 M.any.a3, .int .i64 M.any.a4, .int .i64 M.any.a5, .bool M.any.i, .bool M.any.s, .int .i64 M.mw, .int .i64 M.ms, .int .i64 M.mc, vF, vS]
  o : wr.ownsRow (w.heap.size + 1) 3 1 v (stab M.keyF (M.cov p t k)).length ((stab M.keyF (M.cov p t k)).map encN)
  n : v = .slice none 0 0 ↔ M.cov p t k = []
  z : w.heap.size + 1 ≤ wr.heap.size
theorem CvK.grow {M : MetD} {vF vS : Value} {p t : Int} {w : World} {k : Nat} {v : Value} {wr w2 : World} (h : CvK M vF vS p t w k v wr) (hb : RowKit.Below wr.heap.size wr w2) : CvK M vF vS p t w k v w2 :=
  ⟨bthen h.b hb, h.m.below hb, ownsRow_below h.o hb, h.n, Nat.le_trans h.z hb.size⟩
theorem CvK.skip {M : MetD} {vF vS : Value} {p t : Int} {w : World} {k : Nat} {v : Value} {wr : World} (h : CvK M vF vS p t w k v wr) (hc : M.covP p t k = false) : CvK M vF vS p t w (k + 1) v wr := by
  have e : M.cov p t (k + 1) = M.cov p t k := by rw [M.cov_succ, hc]; simp
  exact ⟨h.b, h.m, by rw [e]; exact h.o, by rw [e]; exact h.n, h.z⟩
theorem CvK.put {M : MetD} {vF vS : Value} {p t : Int} {w : World} {k n1 : Nat} {v : Value} {wr : World} {a b : List Nat} (hc : M.covP p t k = true) (hI : Ins M.keyF (stab M.keyF (M.cov p t k)) k a b) (ha : a = [] ∨ ∃ a' y, a = a' ++ [y] ∧ M.keyF y ≤ M.keyF k)
    (hb : RowKit.Below w.heap.size w wr) (hm : Blk wr w.heap.size 29 #[.int .i64 M.places, .int .i64 M.any.a0, .int .i64 M.any.a1, .int .i64 M.any.a2, .int .i64 M.any.a3, .int .i64 M.any.a4, .int .i64 M.any.a5, .bool M.any.i, .bool M.any.s, .int .i64 M.mw, .int .i64 M.ms, .int .i64 M.mc, vF, vS]) (ho : wr.ownsRow (w.heap.size + 1) 3 1 v n1 ((a ++ k :: b).map encN)) (hv : v ≠ .slice none 0 0) : CvK M vF vS p t w (k + 1) v wr := by
  have ec : M.cov p t (k + 1) = M.cov p t k ++ [k] := by rw [M.cov_succ, hc]; rfl
  have e : stab M.keyF (M.cov p t (k + 1)) = a ++ k :: b := by
    rw [ec]; exact ins_done hI.s (fun j hj => M.cov_lt hj) hI.b ha
  have hn : n1 = (a ++ k :: b).length := by have := ho.1; simpa using this.symm
  exact ⟨hb, hm, by rw [e, ← hn]; exact ho, by rw [ec]; simp [hv], hm.lt⟩
theorem yields_move {P : Program} {ops : Array Oper} {o : Oper} {a : Act} (hg : o.guard = none) (x : Operand) (ho : o.op = .move x) (v : Value) (hx : a.eval x = v) : Yields P ops o v a := by
  refine .inl ⟨by simp [Region.wanted, hg], fun w => ?_⟩
  simp only [execOp, ho, hx]
  simp [Sem.run_pure]
theorem yields_sub {P : Program} {ops : Array Oper} {o : Oper} {a : Act} (hg : o.guard = none) (t u : TypeId) (x y : Operand) (ho : o.op = .binOp .sub t x y u) (n : Nat) (hx : a.eval x = .int .i64 ((n : Int) + 1)) (hy : a.eval y = .int .i64 1) (hn : n ≤ 1000) : Yields P ops o (.int .i64 n) a := by
  refine .inl ⟨by simp [Region.wanted, hg], fun w => ?_⟩
  simp only [execOp, ho, hx, hy]
  simp [go_sem]
  rw [IntKind.wrap_i64]
  omega
theorem swap_list (a b : List Nat) (y k : Nat) : ((a ++ [y] ++ k :: b).set (a.length + 1) y).set a.length k = a ++ k :: y :: b := by
  simp [List.set_append_right]
/-- What the inner loop keeps. -/
def CvJ (M : MetD) (vF vS : Value) (w wr : World) (g c n : Nat) (l : List Nat) : Prop :=
  RowKit.Below w.heap.size w wr ∧ Blk wr w.heap.size 29 #[.int .i64 M.places, .int .i64 M.any.a0, .int .i64 M.any.a1, .int .i64 M.any.a2, .int .i64 M.any.a3, .int .i64 M.any.a4, .int .i64 M.any.a5, .bool M.any.i, .bool M.any.s, .int .i64 M.mw, .int .i64 M.ms, .int .i64 M.mc, vF, vS] ∧ wr.ownsRow (w.heap.size + 1) 3 1 (.slice (some ⟨g, 0, none⟩) n c) n (l.map encN)
theorem CvJ.grow {M : MetD} {vF vS : Value} {w wr w2 : World} {g c n : Nat} {l : List Nat} (h : CvJ M vF vS w wr g c n l) (hb : RowKit.Below wr.heap.size wr w2) : CvJ M vF vS w w2 g c n l :=
  ⟨bthen h.1 hb, h.2.1.below hb, ownsRow_below h.2.2 hb⟩
theorem CvJ.set {M : MetD} {vF vS : Value} {w wr : World} {g c n i : Nat} {l : List Nat} (h : CvJ M vF vS w wr g c n l) (hi : i < n) (y : Nat) : CvJ M vF vS w (wr.setCell ⟨g, i, none⟩ (encN y)) g c n (l.set i y) := by
  have hg : w.heap.size + 1 ≤ g := owns_base h.2.2 rfl
  refine ⟨bset h.1 (by omega) _, h.2.1.far' (by omega) _, ?_⟩
  have := owns_set h.2.2 (i := i) (by omega) (encN y)
  rw [← List.map_set] at this
  exact this
def swR (w0 : Nat) (S : Value) (g n y x : Nat) : Nat → Value → World → Prop
  | 0, v, _ => v = S
  | 1, v, _ => v = .int .i64 ((n : Int) + 1)
  | 2, v, _ => v = S
  | 3, v, _ => v = .int .i64 ((n : Int) + 1)
  | 4, v, _ => v = .int .i64 (n : Int)
  | 5, v, _ => v = S
  | 6, v, _ => v = .int .i64 ((n : Int) + 1)
  | 7, v, _ => v = .int .i64 (n : Int)
  | 8, v, _ => v = .pointer (some ⟨g, n, none⟩)
  | 9, v, _ => v = .int .i64 (y : Int)
  | 10, v, _ => v = S
  | 11, v, _ => v = .int .i64 ((n : Int) + 1)
  | 12, v, _ => v = .pointer (some ⟨g, n + 1, none⟩)
  | 13, v, _ => v = .int .i64 (x : Int)
  | _, _, _ => True
theorem swR_below {w0 : Nat} {S : Value} {g n y x : Nat} (k : Nat) (v : Value) (w w' : World) (hb : Below w.heap.size w w') (h : swR w0 S g n y x k v w) : swR w0 S g n y x k v w' := by
  unfold swR at *
  split at h <;> first | exact h
-- done
theorem rw_covers_c (M : MetD) (vF vS : Value) (p t : Int) (w : World) (hM : M.Ok) (hA : MetAt w vF vS M) :
   Calls Tryz.prog 53 #[.agg #[.int .i64 M.places, .int .i64 M.any.a0, .int .i64 M.any.a1, .int .i64 M.any.a2, .int .i64 M.any.a3, .int .i64 M.any.a4, .int .i64 M.any.a5, .bool M.any.i, .bool M.any.s, .int .i64 M.mw, .int .i64 M.ms, .int .i64 M.mc, vF, vS], .int .i64 p, .int .i64 t] w fun e w' => ∃ v, e = .returned v ∧ RowKit.Below w.heap.size w w' ∧ w'.ownsRow (w.heap.size + 1) 3 1 v (M.ordF p t).length ((M.ordF p t).map encN) ∧ (v = .slice none 0 0 ↔ M.ordF p t = []) := by
  have HM := Lib.hid hM
  have HA := Lib.hid hA
  obtain ⟨⟨A, cF, rfl, hF1, hF2, -⟩, ⟨A2, cS, rfl, hS1, hS2, -⟩⟩ := hA
  clear hM
  go_enter Tryz.func53, Tryz.ntmps53
  go_wp2_with (fail)
  have bHX : Blk (w.alloc (.cells #[.int .i64 M.places, .int .i64 M.any.a0, .int .i64 M.any.a1, .int .i64 M.any.a2, .int .i64 M.any.a3, .int .i64 M.any.a4, .int .i64 M.any.a5, .bool M.any.i, .bool M.any.s, .int .i64 M.mw, .int .i64 M.ms, .int .i64 M.mc, .slice A M.n cF, .slice A2 M.m cS] 29)) (w.heap.size) 29 #[.int .i64 M.places, .int .i64 M.any.a0, .int .i64 M.any.a1, .int .i64 M.any.a2, .int .i64 M.any.a3, .int .i64 M.any.a4, .int .i64 M.any.a5, .bool M.any.i, .bool M.any.s, .int .i64 M.mw, .int .i64 M.ms, .int .i64 M.mc, .slice A M.n cF, .slice A2 M.m cS] := (by repeat (first | (refine Blk.newAt _ _ _ ?_; first | rfl | (simp; done)) | refine Blk.alloc ?_ _))
  have bHB : Below w.heap.size w (w.alloc (.cells #[.int .i64 M.places, .int .i64 M.any.a0, .int .i64 M.any.a1, .int .i64 M.any.a2, .int .i64 M.any.a3, .int .i64 M.any.a4, .int .i64 M.any.a5, .bool M.any.i, .bool M.any.s, .int .i64 M.mw, .int .i64 M.ms, .int .i64 M.mc, .slice A M.n cF, .slice A2 M.m cS] 29)) := (by repeat' (first | exact Below.refl _ _ | assumption | refine Below.drew ?_ | refine bdn ?_ _ | refine bal ?_ _ | refine Below.setCell ?_ (by first | (simp; done) | omega | (simp; omega)) _))
  generalize (w.alloc (.cells #[.int .i64 M.places, .int .i64 M.any.a0, .int .i64 M.any.a1, .int .i64 M.any.a2, .int .i64 M.any.a3, .int .i64 M.any.a4, .int .i64 M.any.a5, .bool M.any.i, .bool M.any.s, .int .i64 M.mw, .int .i64 M.ms, .int .i64 M.mc, .slice A M.n cF, .slice A2 M.m cS] 29)) = W at *
  have zW := bHX.lt
  have HX := Lib.hid bHX
  have HB := Lib.hid bHB
  clear bHX bHB
  have L0 := Lib.hid (show CvK M (.slice A M.n cF) (.slice A2 M.m cS) p t w 0 (.slice none 0 0) W from ⟨HB.out, HX.out, by rw [show stab M.keyF (M.cov p t 0) = [] from by simp [MetD.cov, stab_nil]]; exact World.ownsRow_nil _ _ _ _, by simp [MetD.cov], HX.out.lt⟩)
  clear HX HB
  go_wp2_with (fail)
  go_loopg [7, 8] M.n (fun gx v i wr => ∃ k : Nat, i = .int .i64 k ∧ k ≤ M.n ∧ M.n - k ≤ gx ∧ Hid (CvK M (.slice A M.n cF) (.slice A2 M.m cS) p t w k v wr))
  case atStart => exact ⟨0, rfl, Nat.zero_le _, Nat.le_refl _, L0⟩
  case round =>
    clear L0
    obtain ⟨k, rfl, hk, hgx, L0⟩ := hrel
    have m12 := L0.out.m.cell 12
    simp only [List.getElem?_toArray, List.getElem?_cons_succ, List.getElem?_cons_zero] at m12
    by_cases hlt : k < M.n
    · have hltz : (k : Int) < (M.n : Int) := by omega
      obtain ⟨A', c', hA', -, -, hrec⟩ := HA.out.f
      simp only [Value.slice.injEq] at hA'
      obtain ⟨rfl, -, rfl⟩ := hA'
      obtain ⟨bf, off, rfl, hbf, hcell⟩ := hrec (by omega)
      have HR0 := Lib.hid hcell
      have hcr : ∀ j, j < 12 → wr.cell? ⟨bf, off + k * 12 + j, none⟩ = some (fcV M.D M.B k j) := fun j hj => (L0.out.b.cell (p := ⟨bf, off + k * 12 + j, none⟩) hbf).trans (hcell k hlt j hj)
      have c0 : wr.cell? ⟨bf, off + k * 12, none⟩ = some (.int .i64 (M.D k 0)) := hcr 0 (by omega)
      have c1 : wr.cell? ⟨bf, off + k * 12 + 1, none⟩ = some (.int .i64 (M.D k 1)) := hcr 1 (by omega)
      have c2 : wr.cell? ⟨bf, off + k * 12 + 2, none⟩ = some (.int .i64 (M.D k 2)) := hcr 2 (by omega)
      have c3 : wr.cell? ⟨bf, off + k * 12 + 3, none⟩ = some (.int .i64 (M.D k 3)) := hcr 3 (by omega)
      have c4 : wr.cell? ⟨bf, off + k * 12 + 4, none⟩ = some (.int .i64 (M.D k 4)) := hcr 4 (by omega)
      have c5 : wr.cell? ⟨bf, off + k * 12 + 5, none⟩ = some (.int .i64 (M.D k 5)) := hcr 5 (by omega)
      have c6 : wr.cell? ⟨bf, off + k * 12 + 6, none⟩ = some (.int .i64 (M.D k 6)) := hcr 6 (by omega)
      have c7 : wr.cell? ⟨bf, off + k * 12 + 7, none⟩ = some (.int .i64 (M.D k 7)) := hcr 7 (by omega)
      have c8 : wr.cell? ⟨bf, off + k * 12 + 8, none⟩ = some (.int .i64 (M.D k 8)) := hcr 8 (by omega)
      have c9 : wr.cell? ⟨bf, off + k * 12 + 9, none⟩ = some (.int .i64 (M.D k 9)) := hcr 9 (by omega)
      have c10 : wr.cell? ⟨bf, off + k * 12 + 10, none⟩ = some (.bool (M.B k 10)) := hcr 10 (by omega)
      have c11 : wr.cell? ⟨bf, off + k * 12 + 11, none⟩ = some (.bool (M.B k 11)) := hcr 11 (by omega)
      have ft := HM.out.ft k hlt
      have hkk : k ≤ 40 := by have := HM.out.n; omega
      clear hcr hcell hrec
      have hz := L0.out.z
      cases hcp : M.covP p t k with
      | false =>
        have L2 := Lib.hid ((L0.out.grow (bal (RowKit.Below.refl _ _) (.cells #[.int .i64 (M.D k 0), .int .i64 (M.D k 1), .int .i64 (M.D k 2), .int .i64 (M.D k 3), .int .i64 (M.D k 4), .int .i64 (M.D k 5), .int .i64 (M.D k 6), .int .i64 (M.D k 7), .int .i64 (M.D k 8), .int .i64 (M.D k 9), .bool (M.B k 10), .bool (M.B k 11)] 78))).skip hcp)
        unfold MetD.covP at hcp
        by_cases hp : M.D k 0 = p
        · have e0 : (M.D k 0 != p) = false := by simp [hp]
          rw [show decide (M.D k 0 = p) = true by simp [hp], Bool.true_and] at hcp
          have hin : ¬ (M.D k 1 ≤ t ∧ t ≤ M.D k 2 - 1) := fun h => by rw [inB_iff.2 h] at hcp; cases hcp
          by_cases h1 : t < M.D k 1
          · clear hcp hin L0 hp
            go_wp2_with (fail)
            go_roundg (M.n - (k + 1))
            case measure => omega
            case rel => exact ⟨k + 1, by first | rfl | go_num | (congr 1; omega), by omega, Nat.le_refl _, L2⟩
          · have h2 : M.D k 2 ≤ t := by omega
            clear hcp hin L0 hp
            go_wp2_with (fail)
            go_roundg (M.n - (k + 1))
            case measure => omega
            case rel => exact ⟨k + 1, by first | rfl | go_num | (congr 1; omega), by omega, Nat.le_refl _, L2⟩
        · have e0 : (M.D k 0 != p) = true := by simp [hp]
          clear hcp L0 hp
          go_wp2_with (fail)
          go_roundg (M.n - (k + 1))
          case measure => omega
          case rel => exact ⟨k + 1, by first | rfl | go_num | (congr 1; omega), by omega, Nat.le_refl _, L2⟩
      | true =>
        have hcp2 := hcp
        unfold MetD.covP at hcp2
        simp only [Bool.and_eq_true, decide_eq_true_eq, inB_iff] at hcp2
        have e0 : (M.D k 0 != p) = false := by simp [hcp2.1]
        have h1 : ¬ t < M.D k 1 := by omega
        have h2 : ¬ M.D k 2 ≤ t := by omega
        have HC := Lib.hid hcp
        clear hcp hcp2
        have HL := Lib.hid (show (stab M.keyF (M.cov p t k)).length ≤ 40 from by have := M.cov_len p t k; unfold stab; rw [List.length_mergeSort]; omega)
        go_wp2_with (first | (at_builtin; go_loud (refine wpl_appN rfl _ _ rfl (w.heap.size + 1) _ (stab M.keyF (M.cov p t k)) rfl ((ownsRow_below L0.out.o (bal (RowKit.Below.refl _ _) _)) |> fun h => ownsRow_below h (bal (RowKit.Below.refl _ _) _)) _ k rfl ?c1 (by have := HL.out; omega) ?c2 ?_)))
        case c1 => simp [encN]
        case c2 => first | omega | (simp; omega)
        · intro v2 w2 O2 B2 N2
          rcases O2.2 with ⟨rfl, -⟩ | ⟨g, cc, cur, rfl, hg0, -, hc0, hc1, -⟩
          · exact absurd rfl N2
          have hO := Lib.hid (show w2.ownsRow (w.heap.size + 1) 3 1 (.slice (some ⟨g, 0, none⟩) ((stab M.keyF (M.cov p t k)).length + 1) cc) ((stab M.keyF (M.cov p t k)).length + 1) ((stab M.keyF (M.cov p t k) ++ [k]).map encN) from by simpa using O2)
          clear O2 N2
          have hb2 := below_grown B2 (show w.heap.size + 1 ≤ _ from by first | omega | (simp; omega)) (fun b hb => owns_base L0.out.o hb)
          have KB : RowKit.Below w.heap.size w w2 := (bthen L0.out.b (bal (bal (RowKit.Below.refl _ _) _) _)).trans (hb2.mono (by omega))
          have KM : Blk w2 w.heap.size 29 #[.int .i64 M.places, .int .i64 M.any.a0, .int .i64 M.any.a1, .int .i64 M.any.a2, .int .i64 M.any.a3, .int .i64 M.any.a4, .int .i64 M.any.a5, .bool M.any.i, .bool M.any.s, .int .i64 M.mw, .int .i64 M.ms, .int .i64 M.mc, .slice (some ⟨bf, off, none⟩) M.n cF, .slice A2 M.m cS] := ((L0.out.m.alloc _).alloc _).under hb2 (by omega)
          have hrc : ∀ q, q < M.n → ∀ w3, RowKit.Below w.heap.size w w3 → w3.cell? ⟨bf, off + q * 12 + 3, none⟩ = some (.int .i64 (M.D q 3)) := fun q hq w3 hb3 => (hb3.cell (p := ⟨bf, off + q * 12 + 3, none⟩) hbf).trans (HR0.out q hq 3 (by omega))
          have HRC := Lib.hid hrc
          have HLT := Lib.hid (show ∀ y ∈ stab M.keyF (M.cov p t k), y < k from fun y hy => M.cov_lt (stab_mem.1 hy))
          generalize hs : stab M.keyF (M.cov p t k) = s at *
          have HS := Lib.hid hs
          have K0 := Lib.hid (show RowKit.Below w.heap.size w w2 ∧ Blk w2 w.heap.size 29 #[.int .i64 M.places, .int .i64 M.any.a0, .int .i64 M.any.a1, .int .i64 M.any.a2, .int .i64 M.any.a3, .int .i64 M.any.a4, .int .i64 M.any.a5, .bool M.any.i, .bool M.any.s, .int .i64 M.mw, .int .i64 M.ms, .int .i64 M.mc, .slice (some ⟨bf, off, none⟩) M.n cF, .slice A2 M.m cS] ∧ w2.ownsRow (w.heap.size + 1) 3 1 (.slice (some ⟨g, 0, none⟩) (s.length + 1) cc) (s.length + 1) ((s ++ k :: []).map encN) from ⟨KB, KM, hO.out⟩)
          have hs40 : s.length ≤ 40 := HL.out
          clear hrc hs hO KB KM hb2 B2 L0 hc0 hc1 c0 c1 c2 c3 c4 c5 c6 c7 c8 c9 c10 c11 m12
          go_wp2_with (fail)
          go_loopg [10] s.length (fun gy vj wr2 => ∃ (a b : List Nat), vj = .int .i64 (a.length : Nat) ∧ a.length ≤ gy ∧ Hid (Ins M.keyF s k a b) ∧ Hid (RowKit.Below w.heap.size w wr2 ∧ Blk wr2 w.heap.size 29 #[.int .i64 M.places, .int .i64 M.any.a0, .int .i64 M.any.a1, .int .i64 M.any.a2, .int .i64 M.any.a3, .int .i64 M.any.a4, .int .i64 M.any.a5, .bool M.any.i, .bool M.any.s, .int .i64 M.mw, .int .i64 M.ms, .int .i64 M.mc, .slice (some ⟨bf, off, none⟩) M.n cF, .slice A2 M.m cS] ∧ wr2.ownsRow (w.heap.size + 1) 3 1 (.slice (some ⟨g, 0, none⟩) (s.length + 1) cc) (s.length + 1) ((a ++ k :: b).map encN)))
          case atStart => exact ⟨s, [], by first | rfl | go_num | (congr 1; omega), Nat.le_refl _, Ins.start _ _ _, K0⟩
          case round =>
            clear K0
            obtain ⟨a, b, rfl, hay, HI, K0⟩ := hrel
            have m12 := K0.out.2.1.cell 12
            simp only [List.getElem?_toArray, List.getElem?_cons_succ, List.getElem?_cons_zero] at m12
            rcases (show a = [] ∨ ∃ a' y, a = a' ++ [y] from by rcases List.eq_nil_or_concat a with h | ⟨a', y, h⟩; exact Or.inl h; exact Or.inr ⟨a', y, by simpa using h⟩) with rfl | ⟨a', y, rfl⟩
            · simp only [List.length_nil]
              go_wp2_with (fail)
              go_quiet (fail)
              have hbd : RowKit.Below wr.heap.size wr (wr.drewN nq) := bdn (RowKit.Below.refl _ _) nq
              have L2 := Lib.hid (CvK.put (vF := .slice (some ⟨bf, off, none⟩) M.n cF) (vS := .slice A2 M.m cS) HC.out (by rw [HS.out]; exact HI.out) (Or.inl rfl) (bthen K0.out.1 hbd) (K0.out.2.1.below hbd) (ownsRow_below K0.out.2.2 hbd) (by simp))
              go_wp2_with (fail)
              go_roundg (M.n - (k + 1))
              case measure => omega
              case rel => exact ⟨k + 1, by first | rfl | go_num | (congr 1; omega), by omega, Nat.le_refl _, L2⟩
            · have hsl := congrArg List.length HI.out.s
              simp only [List.length_append, List.length_cons, List.length_nil] at hsl hay
              have hyk : y < k := HLT.out y (by rw [HI.out.s]; simp)
              have o1 : wr.cell? ⟨g, a'.length + 1, none⟩ = some (.int .i64 (k : Int)) := by
                have := K0.out.2.2.cellAt (g := g) (a'.length + 1) (by omega)
                rw [this]; simp [encN]
              have o0 : wr.cell? ⟨g, a'.length, none⟩ = some (.int .i64 (y : Int)) := by
                have := K0.out.2.2.cellAt (g := g) a'.length (by omega)
                rw [this]; simp [encN]
              have rk := HRC.out k hlt wr K0.out.1
              have ry := HRC.out y (by omega) wr K0.out.1
              have hpos : (0 : Int) < ((a'.length + 1 : Nat) : Int) := by omega
              have hlz : ((a'.length + 1 : Nat) : Int) < ((s.length + 1 : Nat) : Int) := by omega
              have hl1 : a'.length + 1 < (s.length + 1) * 1 := by omega
              have hl0 : a'.length < (s.length + 1) * 1 := by omega
              have ha40 : a'.length ≤ 40 := by omega
              clear hsl
              have hkn : (k : Int) < (M.n : Int) := by omega
              have hyn : (y : Int) < (M.n : Int) := by omega
              simp only [List.length_append, List.length_cons, List.length_nil]
              by_cases hky : M.D k 3 < M.D y 3
              · go_wp2_with (fail)
                go_quiet (fail)
                go_wp2_with (fail)
                have fz : ∀ i, wr.frozen? ⟨g, i, none⟩ = false := fun i => by
                  rcases K0.out.2.2.2 with ⟨e, -⟩ | ⟨g', cap', cur', e, -, hh, -⟩
                  · cases e
                  · simp only [Value.slice.injEq, Option.some.injEq, Addr.mk.injEq, and_true] at e
                    obtain ⟨rfl, -, -⟩ := e
                    exact (show Blk wr g 3 cur' from hh).frozen _
                have f1 := fz (a'.length + 1)
                have f0 := fz a'.length
                have hgl := owns_lt K0.out.2.2 (b := g) rfl
                clear fz
                have hbd : RowKit.Below wr.heap.size wr (wr.drewN nq) := bdn (RowKit.Below.refl _ _) nq
                have K1 := Lib.hid (show RowKit.Below w.heap.size w (wr.drewN nq) ∧ Blk (wr.drewN nq) w.heap.size 29 #[.int .i64 M.places, .int .i64 M.any.a0, .int .i64 M.any.a1, .int .i64 M.any.a2, .int .i64 M.any.a3, .int .i64 M.any.a4, .int .i64 M.any.a5, .bool M.any.i, .bool M.any.s, .int .i64 M.mw, .int .i64 M.ms, .int .i64 M.mc, .slice (some ⟨bf, off, none⟩) M.n cF, .slice A2 M.m cS] ∧ (wr.drewN nq).ownsRow (w.heap.size + 1) 3 1 (.slice (some ⟨g, 0, none⟩) (s.length + 1) cc) (s.length + 1) ((a' ++ [y] ++ k :: b).map encN) from ⟨bthen K0.out.1 hbd, K0.out.2.1.below hbd, ownsRow_below K0.out.2.2 hbd⟩)
                have O1 := Lib.hid ((hbd.cell (p := ⟨g, a'.length + 1, none⟩) hgl).trans o1)
                have O0 := Lib.hid ((hbd.cell (p := ⟨g, a'.length, none⟩) hgl).trans o0)
                have Z1 := Lib.hid ((hbd.frozen (p := ⟨g, a'.length + 1, none⟩) hgl).trans f1)
                have Z0 := Lib.hid ((hbd.frozen (p := ⟨g, a'.length, none⟩) hgl).trans f0)
                have hgl2 : g < (wr.drewN nq).heap.size := hgl
                clear K0 o1 o0 f1 f0 rk ry m12 hbd hgl
                generalize wr.drewN nq = W at *
                refine wp_region_specL 14 [2, 3, 4] (swR W.heap.size (.slice (some ⟨g, 0, none⟩) (s.length + 1) cc) g a'.length y k) (fun i => false) (by kernel_rfl) (by kernel_rfl) (by decide) swR_below ?hop1 ?htail1
                case hop1 =>
                  simp only [List.take_succ_cons, List.take_zero, allOps]
                  refine ⟨?_, ?_, ?_, ?_, ?_, ?_, ?_, ?_, ?_, ?_, ?_, ?_, ?_, ?_, trivial⟩
                  all_goals intro u A w1 hA hb hd
                  all_goals simp only [putAll, dstOf, List.getElem?_toArray, List.getElem?_cons_succ, List.getElem?_cons_zero, Option.bind_some, Option.bind, Act.put, List.setIfInBounds_toArray, List.set_cons_succ, List.set_cons_zero] at hA; subst hA
                  all_goals have HB1 := Lib.hid hb
                  · refine OpOk.now rfl ?_
                    clear hb hd
                    go_wp2
                    exact ⟨_, rfl, Below.refl _ _, rfl, fun h => absurd h (by decide)⟩
                  · refine OpOk.now rfl ?_
                    clear hb hd
                    go_wp2
                    exact ⟨_, rfl, Below.refl _ _, rfl, fun h => absurd h (by decide)⟩
                  · clear hb hd
                    refine OpOk.late rfl ?_
                    first | (refine ⟨_, yields_move rfl _ rfl _ rfl, ?_⟩; rfl) | (refine ⟨_, yields_sub rfl _ _ _ _ rfl _ rfl rfl (by omega), ?_⟩; rfl)
                  · clear hb hd
                    refine OpOk.late rfl ?_
                    first | (refine ⟨_, yields_move rfl _ rfl _ rfl, ?_⟩; rfl) | (refine ⟨_, yields_sub rfl _ _ _ _ rfl _ rfl rfl (by omega), ?_⟩; rfl)
                  · have d3 : u 3 = _ := hd 3 (by omega) (by kernel_rfl)
                    clear hb hd
                    rw [d3]
                    clear d3
                    refine OpOk.late rfl ?_
                    first | (refine ⟨_, yields_move rfl _ rfl _ rfl, ?_⟩; rfl) | (refine ⟨_, yields_sub rfl _ _ _ _ rfl _ rfl rfl (by omega), ?_⟩; rfl)
                  · refine OpOk.now rfl ?_
                    clear hb hd
                    go_wp2
                    exact ⟨_, rfl, Below.refl _ _, rfl, fun h => absurd h (by decide)⟩
                  · refine OpOk.now rfl ?_
                    clear hb hd
                    go_wp2
                    exact ⟨_, rfl, Below.refl _ _, rfl, fun h => absurd h (by decide)⟩
                  · refine OpOk.now rfl ?_
                    have d6 : u 6 = _ := hd 6 (by omega) (by kernel_rfl)
                    clear hb hd
                    rw [d6]
                    clear d6
                    go_wp2
                    exact ⟨_, rfl, Below.refl _ _, rfl, fun h => absurd h (by decide)⟩
                  · refine OpOk.now rfl ?_
                    have d5 : u 5 = _ := hd 5 (by omega) (by kernel_rfl)
                    have d7 : u 7 = _ := hd 7 (by omega) (by kernel_rfl)
                    clear hb hd
                    rw [d5, d7]
                    clear d5 d7
                    go_wp2
                    exact ⟨_, rfl, Below.refl _ _, rfl, fun h => absurd h (by decide)⟩
                  · refine OpOk.now rfl ?_
                    have d8 : u 8 = _ := hd 8 (by omega) (by kernel_rfl)
                    clear hb hd
                    rw [d8]
                    clear d8
                    have c0 := (HB1.out.cell (p := ⟨g, a'.length, none⟩) hgl2).trans O0.out
                    go_wp2
                    exact ⟨_, rfl, Below.refl _ _, rfl, fun h => absurd h (by decide)⟩
                  · refine OpOk.now rfl ?_
                    clear hb hd
                    go_wp2
                    exact ⟨_, rfl, Below.refl _ _, rfl, fun h => absurd h (by decide)⟩
                  · refine OpOk.now rfl ?_
                    clear hb hd
                    go_wp2
                    exact ⟨_, rfl, Below.refl _ _, rfl, fun h => absurd h (by decide)⟩
                  · refine OpOk.now rfl ?_
                    have d10 : u 10 = _ := hd 10 (by omega) (by kernel_rfl)
                    have d11 : u 11 = _ := hd 11 (by omega) (by kernel_rfl)
                    clear hb hd
                    rw [d10, d11]
                    clear d10 d11
                    go_wp2
                    exact ⟨_, rfl, Below.refl _ _, rfl, fun h => absurd h (by decide)⟩
                  · refine OpOk.now rfl ?_
                    have d12 : u 12 = _ := hd 12 (by omega) (by kernel_rfl)
                    clear hb hd
                    rw [d12]
                    clear d12
                    have c1 := (HB1.out.cell (p := ⟨g, a'.length + 1, none⟩) hgl2).trans O1.out
                    go_wp2
                    exact ⟨_, rfl, Below.refl _ _, rfl, fun h => absurd h (by decide)⟩
                case htail1 =>
                  intro u A w1 hA hb hd hf
                  simp only [putAll, dstOf, List.getElem?_toArray, List.getElem?_cons_succ, List.getElem?_cons_zero, Option.bind_some, Option.bind, Act.put, List.setIfInBounds_toArray, List.set_cons_succ, List.set_cons_zero] at hA; subst hA
                  have e0 : u 0 = _ := hd 0 (by omega)
                  have e1 : u 1 = _ := hd 1 (by omega)
                  have e2 : u 2 = _ := hd 2 (by omega)
                  have e3 : u 3 = _ := hd 3 (by omega)
                  have e4 : u 4 = _ := hd 4 (by omega)
                  have e5 : u 5 = _ := hd 5 (by omega)
                  have e6 : u 6 = _ := hd 6 (by omega)
                  have e7 : u 7 = _ := hd 7 (by omega)
                  have e8 : u 8 = _ := hd 8 (by omega)
                  have e9 : u 9 = _ := hd 9 (by omega)
                  have e10 : u 10 = _ := hd 10 (by omega)
                  have e11 : u 11 = _ := hd 11 (by omega)
                  have e12 : u 12 = _ := hd 12 (by omega)
                  have e13 : u 13 = _ := hd 13 (by omega)
                  first | rw [e0, e1, e2, e3, e4, e5, e6, e7, e8, e9, e10, e11, e12, e13] | simp only [e0, e1, e2, e3, e4, e5, e6, e7, e8, e9, e10, e11, e12, e13]
                  clear e0 e1 e2 e3 e4 e5 e6 e7 e8 e9 e10 e11 e12 e13
                  clear hd hf
                  have z1 := (hb.frozen (p := ⟨g, a'.length + 1, none⟩) hgl2).trans Z1.out
                  have z0 := (hb.frozen (p := ⟨g, a'.length, none⟩) hgl2).trans Z0.out
                  have c1 := (hb.cell (p := ⟨g, a'.length + 1, none⟩) hgl2).trans O1.out
                  have c0 := (hb.cell (p := ⟨g, a'.length, none⟩) hgl2).trans O0.out
                  have K2 := Lib.hid (CvJ.grow (show CvJ M (.slice (some ⟨bf, off, none⟩) M.n cF) (.slice A2 M.m cS) w W g cc (s.length + 1) (a' ++ [y] ++ k :: b) from K1.out) hb)
                  have K3 := Lib.hid ((K2.out.set (i := a'.length + 1) (by omega) y).set (i := a'.length) (by omega) k)
                  clear K1 K2 O1 O0 Z1 Z0 hb
                  go_wp2_with (fail)
                  dsimp only [NoPanic]
                  go_wp2_with (fail)
                  go_roundg a'.length
                  case measure => omega
                  case rel => exact ⟨a', y :: b, by first | rfl | go_num | (congr 1; omega), Nat.le_refl _, HI.out.step hky, by have h := K3.out; rw [swap_list] at h; exact Lib.hid h⟩
              · go_wp2_with (fail)
                go_quiet (fail)
                have hbd : RowKit.Below wr.heap.size wr (wr.drewN nq) := bdn (RowKit.Below.refl _ _) nq
                have L2 := Lib.hid (CvK.put (vF := .slice (some ⟨bf, off, none⟩) M.n cF) (vS := .slice A2 M.m cS) HC.out (by rw [HS.out]; exact HI.out) (Or.inr ⟨a', y, rfl, by show M.D y 3 ≤ M.D k 3; omega⟩) (bthen K0.out.1 hbd) (K0.out.2.1.below hbd) (ownsRow_below K0.out.2.2 hbd) (by simp))
                go_wp2_with (fail)
                go_roundg (M.n - (k + 1))
                case measure => omega
                case rel => exact ⟨k + 1, by first | rfl | go_num | (congr 1; omega), by omega, Nat.le_refl _, L2⟩
    · obtain rfl : k = M.n := by omega
      go_wp2_with (fail)
      go_ret
      refine ⟨_, rfl, L0.out.b, L0.out.o, ?_⟩
      refine L0.out.n.trans ⟨fun h => ?_, fun h => ?_⟩
      · unfold MetD.ordF; rw [h]; exact stab_nil _
      · have := stab2_perm (fun i => M.D i 3) (M.cov p t M.n)
        unfold MetD.ordF at h
        rw [h] at this
        exact this.symm.eq_nil
-- end
end Go.Proofs.YtfcjblnebaemgaaGreat

namespace Go.Proofs.YtfcjblnebaemgaaGreat
open Go Go.RowKit Go.Proofs
set_option maxRecDepth 100000
set_option maxHeartbeats 8000000
def MetD.keyS (M : MetD) (i : Nat) : Int := M.E i 1
/-- What the outer loop keeps: the forecasts so far, in order. -/
structure SnK (M : MetD) (vF vS : Value) (p t : Int) (w : World) (k : Nat) (v : Value) (wr : World) : Prop where
  b : RowKit.Below w.heap.size w wr
  m : Blk wr w.heap.size 29 #[.int .i64 M.places, .int .i64 M.any.a0, .int .i64 M.any.a1, .int .i64 M.any.a2, .int .i64 M.any.a3, .int .i64 M.any.a4, .int .i64 M.any.a5, .bool M.any.i, .bool M.any.s, .int .i64 M.mw, .int .i64 M.ms, .int .i64 M.mc, vF, vS]
  o : wr.ownsRow (w.heap.size + 1) 3 1 v (stab M.keyS (M.sen p t k)).length ((stab M.keyS (M.sen p t k)).map encN)
  n : v = .slice none 0 0 ↔ M.sen p t k = []
  z : w.heap.size + 1 ≤ wr.heap.size
theorem SnK.grow {M : MetD} {vF vS : Value} {p t : Int} {w : World} {k : Nat} {v : Value} {wr w2 : World} (h : SnK M vF vS p t w k v wr) (hb : RowKit.Below wr.heap.size wr w2) : SnK M vF vS p t w k v w2 :=
  ⟨bthen h.b hb, h.m.below hb, ownsRow_below h.o hb, h.n, Nat.le_trans h.z hb.size⟩
theorem SnK.skip {M : MetD} {vF vS : Value} {p t : Int} {w : World} {k : Nat} {v : Value} {wr : World} (h : SnK M vF vS p t w k v wr) (hc : M.senP p t k = false) : SnK M vF vS p t w (k + 1) v wr := by
  have e : M.sen p t (k + 1) = M.sen p t k := by rw [M.sen_succ, hc]; simp
  exact ⟨h.b, h.m, by rw [e]; exact h.o, by rw [e]; exact h.n, h.z⟩
theorem SnK.put {M : MetD} {vF vS : Value} {p t : Int} {w : World} {k n1 : Nat} {v : Value} {wr : World} {a b : List Nat} (hc : M.senP p t k = true) (hI : Ins M.keyS (stab M.keyS (M.sen p t k)) k a b) (ha : a = [] ∨ ∃ a' y, a = a' ++ [y] ∧ M.keyS y ≤ M.keyS k)
    (hb : RowKit.Below w.heap.size w wr) (hm : Blk wr w.heap.size 29 #[.int .i64 M.places, .int .i64 M.any.a0, .int .i64 M.any.a1, .int .i64 M.any.a2, .int .i64 M.any.a3, .int .i64 M.any.a4, .int .i64 M.any.a5, .bool M.any.i, .bool M.any.s, .int .i64 M.mw, .int .i64 M.ms, .int .i64 M.mc, vF, vS]) (ho : wr.ownsRow (w.heap.size + 1) 3 1 v n1 ((a ++ k :: b).map encN)) (hv : v ≠ .slice none 0 0) : SnK M vF vS p t w (k + 1) v wr := by
  have ec : M.sen p t (k + 1) = M.sen p t k ++ [k] := by rw [M.sen_succ, hc]; rfl
  have e : stab M.keyS (M.sen p t (k + 1)) = a ++ k :: b := by
    rw [ec]; exact ins_done hI.s (fun j hj => (M.sen_lt hj).1) hI.b ha
  have hn : n1 = (a ++ k :: b).length := by have := ho.1; simpa using this.symm
  exact ⟨hb, hm, by rw [e, ← hn]; exact ho, by rw [ec]; simp [hv], hm.lt⟩
/-- What the inner loop keeps. -/
def SnJ (M : MetD) (vF vS : Value) (w wr : World) (g c n : Nat) (l : List Nat) : Prop :=
  RowKit.Below w.heap.size w wr ∧ Blk wr w.heap.size 29 #[.int .i64 M.places, .int .i64 M.any.a0, .int .i64 M.any.a1, .int .i64 M.any.a2, .int .i64 M.any.a3, .int .i64 M.any.a4, .int .i64 M.any.a5, .bool M.any.i, .bool M.any.s, .int .i64 M.mw, .int .i64 M.ms, .int .i64 M.mc, vF, vS] ∧ wr.ownsRow (w.heap.size + 1) 3 1 (.slice (some ⟨g, 0, none⟩) n c) n (l.map encN)
theorem SnJ.grow {M : MetD} {vF vS : Value} {w wr w2 : World} {g c n : Nat} {l : List Nat} (h : SnJ M vF vS w wr g c n l) (hb : RowKit.Below wr.heap.size wr w2) : SnJ M vF vS w w2 g c n l :=
  ⟨bthen h.1 hb, h.2.1.below hb, ownsRow_below h.2.2 hb⟩
theorem SnJ.set {M : MetD} {vF vS : Value} {w wr : World} {g c n i : Nat} {l : List Nat} (h : SnJ M vF vS w wr g c n l) (hi : i < n) (y : Nat) : SnJ M vF vS w (wr.setCell ⟨g, i, none⟩ (encN y)) g c n (l.set i y) := by
  have hg : w.heap.size + 1 ≤ g := owns_base h.2.2 rfl
  refine ⟨bset h.1 (by omega) _, h.2.1.far' (by omega) _, ?_⟩
  have := owns_set h.2.2 (i := i) (by omega) (encN y)
  rw [← List.map_set] at this
  exact this
def swS (w0 : Nat) (S : Value) (g n y x : Nat) : Nat → Value → World → Prop
  | 0, v, _ => v = S
  | 1, v, _ => v = .int .i64 ((n : Int) + 1)
  | 2, v, _ => v = S
  | 3, v, _ => v = .int .i64 ((n : Int) + 1)
  | 4, v, _ => v = .int .i64 (n : Int)
  | 5, v, _ => v = S
  | 6, v, _ => v = .int .i64 ((n : Int) + 1)
  | 7, v, _ => v = .int .i64 (n : Int)
  | 8, v, _ => v = .pointer (some ⟨g, n, none⟩)
  | 9, v, _ => v = .int .i64 (y : Int)
  | 10, v, _ => v = S
  | 11, v, _ => v = .int .i64 ((n : Int) + 1)
  | 12, v, _ => v = .pointer (some ⟨g, n + 1, none⟩)
  | 13, v, _ => v = .int .i64 (x : Int)
  | _, _, _ => True
theorem swS_below {w0 : Nat} {S : Value} {g n y x : Nat} (k : Nat) (v : Value) (w w' : World) (hb : Below w.heap.size w w') (h : swS w0 S g n y x k v w) : swS w0 S g n y x k v w' := by
  unfold swS at *
  split at h <;> first | exact h
-- done
theorem rw_seen_c (M : MetD) (vF vS : Value) (p t : Int) (w : World) (hM : M.Ok) (hA : MetAt w vF vS M) :
   Calls Tryz.prog 55 #[.agg #[.int .i64 M.places, .int .i64 M.any.a0, .int .i64 M.any.a1, .int .i64 M.any.a2, .int .i64 M.any.a3, .int .i64 M.any.a4, .int .i64 M.any.a5, .bool M.any.i, .bool M.any.s, .int .i64 M.mw, .int .i64 M.ms, .int .i64 M.mc, vF, vS], .int .i64 p, .int .i64 t] w fun e w' => ∃ v, e = .returned v ∧ RowKit.Below w.heap.size w w' ∧ w'.ownsRow (w.heap.size + 1) 3 1 v (M.ordS p t).length ((M.ordS p t).map encN) ∧ (v = .slice none 0 0 ↔ M.ordS p t = []) := by
  have HM := Lib.hid hM
  have HA := Lib.hid hA
  obtain ⟨⟨A, cF, rfl, hF1, hF2, -⟩, ⟨A2, cS, rfl, hS1, hS2, -⟩⟩ := hA
  clear hM
  go_enter Tryz.func55, Tryz.ntmps55
  go_wp2_with (fail)
  have bHX : Blk (w.alloc (.cells #[.int .i64 M.places, .int .i64 M.any.a0, .int .i64 M.any.a1, .int .i64 M.any.a2, .int .i64 M.any.a3, .int .i64 M.any.a4, .int .i64 M.any.a5, .bool M.any.i, .bool M.any.s, .int .i64 M.mw, .int .i64 M.ms, .int .i64 M.mc, .slice A M.n cF, .slice A2 M.m cS] 29)) (w.heap.size) 29 #[.int .i64 M.places, .int .i64 M.any.a0, .int .i64 M.any.a1, .int .i64 M.any.a2, .int .i64 M.any.a3, .int .i64 M.any.a4, .int .i64 M.any.a5, .bool M.any.i, .bool M.any.s, .int .i64 M.mw, .int .i64 M.ms, .int .i64 M.mc, .slice A M.n cF, .slice A2 M.m cS] := (by repeat (first | (refine Blk.newAt _ _ _ ?_; first | rfl | (simp; done)) | refine Blk.alloc ?_ _))
  have bHB : Below w.heap.size w (w.alloc (.cells #[.int .i64 M.places, .int .i64 M.any.a0, .int .i64 M.any.a1, .int .i64 M.any.a2, .int .i64 M.any.a3, .int .i64 M.any.a4, .int .i64 M.any.a5, .bool M.any.i, .bool M.any.s, .int .i64 M.mw, .int .i64 M.ms, .int .i64 M.mc, .slice A M.n cF, .slice A2 M.m cS] 29)) := (by repeat' (first | exact Below.refl _ _ | assumption | refine Below.drew ?_ | refine bdn ?_ _ | refine bal ?_ _ | refine Below.setCell ?_ (by first | (simp; done) | omega | (simp; omega)) _))
  generalize (w.alloc (.cells #[.int .i64 M.places, .int .i64 M.any.a0, .int .i64 M.any.a1, .int .i64 M.any.a2, .int .i64 M.any.a3, .int .i64 M.any.a4, .int .i64 M.any.a5, .bool M.any.i, .bool M.any.s, .int .i64 M.mw, .int .i64 M.ms, .int .i64 M.mc, .slice A M.n cF, .slice A2 M.m cS] 29)) = W at *
  have zW := bHX.lt
  have HX := Lib.hid bHX
  have HB := Lib.hid bHB
  clear bHX bHB
  have L0 := Lib.hid (show SnK M (.slice A M.n cF) (.slice A2 M.m cS) p t w 0 (.slice none 0 0) W from ⟨HB.out, HX.out, by rw [show stab M.keyS (M.sen p t 0) = [] from by simp [MetD.sen, stab_nil]]; exact World.ownsRow_nil _ _ _ _, by simp [MetD.sen], HX.out.lt⟩)
  clear HX HB
  go_wp2_with (fail)
  go_loopg [7, 8] M.m (fun gx v i wr => ∃ k : Nat, i = .int .i64 k ∧ k ≤ M.m ∧ M.m - k ≤ gx ∧ Hid (SnK M (.slice A M.n cF) (.slice A2 M.m cS) p t w k v wr))
  case atStart => exact ⟨0, rfl, Nat.zero_le _, Nat.le_refl _, L0⟩
  case round =>
    clear L0
    obtain ⟨k, rfl, hk, hgx, L0⟩ := hrel
    have m12 := L0.out.m.cell 13
    simp only [List.getElem?_toArray, List.getElem?_cons_succ, List.getElem?_cons_zero] at m12
    by_cases hlt : k < M.m
    · have hltz : (k : Int) < (M.m : Int) := by omega
      obtain ⟨A', c', hA', -, -, hrec⟩ := HA.out.s
      simp only [Value.slice.injEq] at hA'
      obtain ⟨rfl, -, rfl⟩ := hA'
      obtain ⟨bf, off, rfl, hbf, hcell⟩ := hrec (by omega)
      have HR0 := Lib.hid hcell
      have hcr : ∀ j, j < 7 → wr.cell? ⟨bf, off + k * 7 + j, none⟩ = some (siV M.E M.C k j) := fun j hj => (L0.out.b.cell (p := ⟨bf, off + k * 7 + j, none⟩) hbf).trans (hcell k hlt j hj)
      have c0 : wr.cell? ⟨bf, off + k * 7, none⟩ = some (.int .i64 (M.E k 0)) := hcr 0 (by omega)
      have c1 : wr.cell? ⟨bf, off + k * 7 + 1, none⟩ = some (.int .i64 (M.E k 1)) := hcr 1 (by omega)
      have c2 : wr.cell? ⟨bf, off + k * 7 + 2, none⟩ = some (.int .i64 (M.E k 2)) := hcr 2 (by omega)
      have c3 : wr.cell? ⟨bf, off + k * 7 + 3, none⟩ = some (.int .i64 (M.E k 3)) := hcr 3 (by omega)
      have c4 : wr.cell? ⟨bf, off + k * 7 + 4, none⟩ = some (.int .i64 (M.E k 4)) := hcr 4 (by omega)
      have c5 : wr.cell? ⟨bf, off + k * 7 + 5, none⟩ = some (.bool (M.C k 5)) := hcr 5 (by omega)
      have c6 : wr.cell? ⟨bf, off + k * 7 + 6, none⟩ = some (.bool (M.C k 6)) := hcr 6 (by omega)
      have hkk : k ≤ 40 := by have := HM.out.m; omega
      clear hcr hcell hrec
      have hz := L0.out.z
      cases hcp : M.senP p t k with
      | false =>
        have L2 := Lib.hid (L0.out.skip hcp)
        unfold MetD.senP at hcp
        by_cases hp : M.E k 0 = p
        · have e0 : (M.E k 0 != p) = false := by simp [hp]
          rw [show decide (M.E k 0 = p) = true by simp [hp], Bool.true_and] at hcp
          have h1 : t < M.E k 1 := by have h := of_decide_eq_false hcp; omega
          clear hcp L0 hp
          go_wp2_with (fail)
          go_roundg (M.m - (k + 1))
          case measure => omega
          case rel => exact ⟨k + 1, by first | rfl | go_num | (congr 1; omega), by omega, Nat.le_refl _, L2⟩
        · have e0 : (M.E k 0 != p) = true := by simp [hp]
          clear hcp L0 hp
          go_wp2_with (fail)
          go_roundg (M.m - (k + 1))
          case measure => omega
          case rel => exact ⟨k + 1, by first | rfl | go_num | (congr 1; omega), by omega, Nat.le_refl _, L2⟩
      | true =>
        have hcp2 := hcp
        unfold MetD.senP at hcp2
        simp only [Bool.and_eq_true, decide_eq_true_eq] at hcp2
        have e0 : (M.E k 0 != p) = false := by simp [hcp2.1]
        have h1 : ¬ t < M.E k 1 := by omega
        have HC := Lib.hid hcp
        clear hcp hcp2
        have HL := Lib.hid (show (stab M.keyS (M.sen p t k)).length ≤ 40 from by have := M.sen_len p t k; unfold stab; rw [List.length_mergeSort]; omega)
        go_wp2_with (first | (at_builtin; go_loud (refine wpl_appN rfl _ _ rfl (w.heap.size + 1) _ (stab M.keyS (M.sen p t k)) rfl (ownsRow_below L0.out.o (bal (RowKit.Below.refl _ _) _)) _ k rfl ?c1 (by have := HL.out; omega) ?c2 ?_)))
        case c1 => simp [encN]
        case c2 => first | omega | (simp; omega)
        · intro v2 w2 O2 B2 N2
          rcases O2.2 with ⟨rfl, -⟩ | ⟨g, cc, cur, rfl, hg0, -, hc0, hc1, -⟩
          · exact absurd rfl N2
          have hO := Lib.hid (show w2.ownsRow (w.heap.size + 1) 3 1 (.slice (some ⟨g, 0, none⟩) ((stab M.keyS (M.sen p t k)).length + 1) cc) ((stab M.keyS (M.sen p t k)).length + 1) ((stab M.keyS (M.sen p t k) ++ [k]).map encN) from by simpa using O2)
          clear O2 N2
          have hb2 := below_grown B2 (show w.heap.size + 1 ≤ _ from by first | omega | (simp; omega)) (fun b hb => owns_base L0.out.o hb)
          have KB : RowKit.Below w.heap.size w w2 := (bthen L0.out.b (bal (RowKit.Below.refl _ _) _)).trans (hb2.mono (by omega))
          have KM : Blk w2 w.heap.size 29 #[.int .i64 M.places, .int .i64 M.any.a0, .int .i64 M.any.a1, .int .i64 M.any.a2, .int .i64 M.any.a3, .int .i64 M.any.a4, .int .i64 M.any.a5, .bool M.any.i, .bool M.any.s, .int .i64 M.mw, .int .i64 M.ms, .int .i64 M.mc, .slice A M.n cF, .slice (some ⟨bf, off, none⟩) M.m cS] := (L0.out.m.alloc _).under hb2 (by omega)
          have hrc : ∀ q, q < M.m → ∀ w3, RowKit.Below w.heap.size w w3 → w3.cell? ⟨bf, off + q * 7 + 1, none⟩ = some (.int .i64 (M.E q 1)) := fun q hq w3 hb3 => (hb3.cell (p := ⟨bf, off + q * 7 + 1, none⟩) hbf).trans (HR0.out q hq 1 (by omega))
          have HRC := Lib.hid hrc
          have HLT := Lib.hid (show ∀ y ∈ stab M.keyS (M.sen p t k), y < k from fun y hy => (M.sen_lt (stab_mem.1 hy)).1)
          generalize hs : stab M.keyS (M.sen p t k) = s at *
          have HS := Lib.hid hs
          have K0 := Lib.hid (show RowKit.Below w.heap.size w w2 ∧ Blk w2 w.heap.size 29 #[.int .i64 M.places, .int .i64 M.any.a0, .int .i64 M.any.a1, .int .i64 M.any.a2, .int .i64 M.any.a3, .int .i64 M.any.a4, .int .i64 M.any.a5, .bool M.any.i, .bool M.any.s, .int .i64 M.mw, .int .i64 M.ms, .int .i64 M.mc, .slice A M.n cF, .slice (some ⟨bf, off, none⟩) M.m cS] ∧ w2.ownsRow (w.heap.size + 1) 3 1 (.slice (some ⟨g, 0, none⟩) (s.length + 1) cc) (s.length + 1) ((s ++ k :: []).map encN) from ⟨KB, KM, hO.out⟩)
          have hs40 : s.length ≤ 40 := HL.out
          clear hrc hs hO KB KM hb2 B2 L0 hc0 hc1 c0 c1 c2 c3 c4 c5 c6 m12
          go_wp2_with (fail)
          go_loopg [9] s.length (fun gy vj wr2 => ∃ (a b : List Nat), vj = .int .i64 (a.length : Nat) ∧ a.length ≤ gy ∧ Hid (Ins M.keyS s k a b) ∧ Hid (RowKit.Below w.heap.size w wr2 ∧ Blk wr2 w.heap.size 29 #[.int .i64 M.places, .int .i64 M.any.a0, .int .i64 M.any.a1, .int .i64 M.any.a2, .int .i64 M.any.a3, .int .i64 M.any.a4, .int .i64 M.any.a5, .bool M.any.i, .bool M.any.s, .int .i64 M.mw, .int .i64 M.ms, .int .i64 M.mc, .slice A M.n cF, .slice (some ⟨bf, off, none⟩) M.m cS] ∧ wr2.ownsRow (w.heap.size + 1) 3 1 (.slice (some ⟨g, 0, none⟩) (s.length + 1) cc) (s.length + 1) ((a ++ k :: b).map encN)))
          case atStart => exact ⟨s, [], by first | rfl | go_num | (congr 1; omega), Nat.le_refl _, Ins.start _ _ _, K0⟩
          case round =>
            clear K0
            obtain ⟨a, b, rfl, hay, HI, K0⟩ := hrel
            have m12 := K0.out.2.1.cell 13
            simp only [List.getElem?_toArray, List.getElem?_cons_succ, List.getElem?_cons_zero] at m12
            rcases (show a = [] ∨ ∃ a' y, a = a' ++ [y] from by rcases List.eq_nil_or_concat a with h | ⟨a', y, h⟩; exact Or.inl h; exact Or.inr ⟨a', y, by simpa using h⟩) with rfl | ⟨a', y, rfl⟩
            · simp only [List.length_nil]
              go_wp2_with (fail)
              go_quiet (fail)
              have hbd : RowKit.Below wr.heap.size wr (wr.drewN nq) := bdn (RowKit.Below.refl _ _) nq
              have L2 := Lib.hid (SnK.put (vF := .slice A M.n cF) (vS := .slice (some ⟨bf, off, none⟩) M.m cS) HC.out (by rw [HS.out]; exact HI.out) (Or.inl rfl) (bthen K0.out.1 hbd) (K0.out.2.1.below hbd) (ownsRow_below K0.out.2.2 hbd) (by simp))
              go_wp2_with (fail)
              go_roundg (M.m - (k + 1))
              case measure => omega
              case rel => exact ⟨k + 1, by first | rfl | go_num | (congr 1; omega), by omega, Nat.le_refl _, L2⟩
            · have hsl := congrArg List.length HI.out.s
              simp only [List.length_append, List.length_cons, List.length_nil] at hsl hay
              have hyk : y < k := HLT.out y (by rw [HI.out.s]; simp)
              have o1 : wr.cell? ⟨g, a'.length + 1, none⟩ = some (.int .i64 (k : Int)) := by
                have := K0.out.2.2.cellAt (g := g) (a'.length + 1) (by omega)
                rw [this]; simp [encN]
              have o0 : wr.cell? ⟨g, a'.length, none⟩ = some (.int .i64 (y : Int)) := by
                have := K0.out.2.2.cellAt (g := g) a'.length (by omega)
                rw [this]; simp [encN]
              have rk := HRC.out k hlt wr K0.out.1
              have ry := HRC.out y (by omega) wr K0.out.1
              have hpos : (0 : Int) < ((a'.length + 1 : Nat) : Int) := by omega
              have hlz : ((a'.length + 1 : Nat) : Int) < ((s.length + 1 : Nat) : Int) := by omega
              have hl1 : a'.length + 1 < (s.length + 1) * 1 := by omega
              have hl0 : a'.length < (s.length + 1) * 1 := by omega
              have ha40 : a'.length ≤ 40 := by omega
              clear hsl
              have hkn : (k : Int) < (M.m : Int) := by omega
              have hyn : (y : Int) < (M.m : Int) := by omega
              simp only [List.length_append, List.length_cons, List.length_nil]
              by_cases hky : M.E k 1 < M.E y 1
              · go_wp2_with (fail)
                go_quiet (fail)
                go_wp2_with (fail)
                have fz : ∀ i, wr.frozen? ⟨g, i, none⟩ = false := fun i => by
                  rcases K0.out.2.2.2 with ⟨e, -⟩ | ⟨g', cap', cur', e, -, hh, -⟩
                  · cases e
                  · simp only [Value.slice.injEq, Option.some.injEq, Addr.mk.injEq, and_true] at e
                    obtain ⟨rfl, -, -⟩ := e
                    exact (show Blk wr g 3 cur' from hh).frozen _
                have f1 := fz (a'.length + 1)
                have f0 := fz a'.length
                have hgl := owns_lt K0.out.2.2 (b := g) rfl
                clear fz
                have hbd : RowKit.Below wr.heap.size wr (wr.drewN nq) := bdn (RowKit.Below.refl _ _) nq
                have K1 := Lib.hid (show RowKit.Below w.heap.size w (wr.drewN nq) ∧ Blk (wr.drewN nq) w.heap.size 29 #[.int .i64 M.places, .int .i64 M.any.a0, .int .i64 M.any.a1, .int .i64 M.any.a2, .int .i64 M.any.a3, .int .i64 M.any.a4, .int .i64 M.any.a5, .bool M.any.i, .bool M.any.s, .int .i64 M.mw, .int .i64 M.ms, .int .i64 M.mc, .slice A M.n cF, .slice (some ⟨bf, off, none⟩) M.m cS] ∧ (wr.drewN nq).ownsRow (w.heap.size + 1) 3 1 (.slice (some ⟨g, 0, none⟩) (s.length + 1) cc) (s.length + 1) ((a' ++ [y] ++ k :: b).map encN) from ⟨bthen K0.out.1 hbd, K0.out.2.1.below hbd, ownsRow_below K0.out.2.2 hbd⟩)
                have O1 := Lib.hid ((hbd.cell (p := ⟨g, a'.length + 1, none⟩) hgl).trans o1)
                have O0 := Lib.hid ((hbd.cell (p := ⟨g, a'.length, none⟩) hgl).trans o0)
                have Z1 := Lib.hid ((hbd.frozen (p := ⟨g, a'.length + 1, none⟩) hgl).trans f1)
                have Z0 := Lib.hid ((hbd.frozen (p := ⟨g, a'.length, none⟩) hgl).trans f0)
                have hgl2 : g < (wr.drewN nq).heap.size := hgl
                clear K0 o1 o0 f1 f0 rk ry m12 hbd hgl
                generalize wr.drewN nq = W at *
                refine wp_region_specL 14 [2, 3, 4] (swS W.heap.size (.slice (some ⟨g, 0, none⟩) (s.length + 1) cc) g a'.length y k) (fun i => false) (by kernel_rfl) (by kernel_rfl) (by decide) swS_below ?hop1 ?htail1
                case hop1 =>
                  simp only [List.take_succ_cons, List.take_zero, allOps]
                  refine ⟨?_, ?_, ?_, ?_, ?_, ?_, ?_, ?_, ?_, ?_, ?_, ?_, ?_, ?_, trivial⟩
                  all_goals intro u A w1 hA hb hd
                  all_goals simp only [putAll, dstOf, List.getElem?_toArray, List.getElem?_cons_succ, List.getElem?_cons_zero, Option.bind_some, Option.bind, Act.put, List.setIfInBounds_toArray, List.set_cons_succ, List.set_cons_zero] at hA; subst hA
                  all_goals have HB1 := Lib.hid hb
                  · refine OpOk.now rfl ?_
                    clear hb hd
                    go_wp2
                    exact ⟨_, rfl, Below.refl _ _, rfl, fun h => absurd h (by decide)⟩
                  · refine OpOk.now rfl ?_
                    clear hb hd
                    go_wp2
                    exact ⟨_, rfl, Below.refl _ _, rfl, fun h => absurd h (by decide)⟩
                  · clear hb hd
                    refine OpOk.late rfl ?_
                    first | (refine ⟨_, yields_move rfl _ rfl _ rfl, ?_⟩; rfl) | (refine ⟨_, yields_sub rfl _ _ _ _ rfl _ rfl rfl (by omega), ?_⟩; rfl)
                  · clear hb hd
                    refine OpOk.late rfl ?_
                    first | (refine ⟨_, yields_move rfl _ rfl _ rfl, ?_⟩; rfl) | (refine ⟨_, yields_sub rfl _ _ _ _ rfl _ rfl rfl (by omega), ?_⟩; rfl)
                  · have d3 : u 3 = _ := hd 3 (by omega) (by kernel_rfl)
                    clear hb hd
                    rw [d3]
                    clear d3
                    refine OpOk.late rfl ?_
                    first | (refine ⟨_, yields_move rfl _ rfl _ rfl, ?_⟩; rfl) | (refine ⟨_, yields_sub rfl _ _ _ _ rfl _ rfl rfl (by omega), ?_⟩; rfl)
                  · refine OpOk.now rfl ?_
                    clear hb hd
                    go_wp2
                    exact ⟨_, rfl, Below.refl _ _, rfl, fun h => absurd h (by decide)⟩
                  · refine OpOk.now rfl ?_
                    clear hb hd
                    go_wp2
                    exact ⟨_, rfl, Below.refl _ _, rfl, fun h => absurd h (by decide)⟩
                  · refine OpOk.now rfl ?_
                    have d6 : u 6 = _ := hd 6 (by omega) (by kernel_rfl)
                    clear hb hd
                    rw [d6]
                    clear d6
                    go_wp2
                    exact ⟨_, rfl, Below.refl _ _, rfl, fun h => absurd h (by decide)⟩
                  · refine OpOk.now rfl ?_
                    have d5 : u 5 = _ := hd 5 (by omega) (by kernel_rfl)
                    have d7 : u 7 = _ := hd 7 (by omega) (by kernel_rfl)
                    clear hb hd
                    rw [d5, d7]
                    clear d5 d7
                    go_wp2
                    exact ⟨_, rfl, Below.refl _ _, rfl, fun h => absurd h (by decide)⟩
                  · refine OpOk.now rfl ?_
                    have d8 : u 8 = _ := hd 8 (by omega) (by kernel_rfl)
                    clear hb hd
                    rw [d8]
                    clear d8
                    have c0 := (HB1.out.cell (p := ⟨g, a'.length, none⟩) hgl2).trans O0.out
                    go_wp2
                    exact ⟨_, rfl, Below.refl _ _, rfl, fun h => absurd h (by decide)⟩
                  · refine OpOk.now rfl ?_
                    clear hb hd
                    go_wp2
                    exact ⟨_, rfl, Below.refl _ _, rfl, fun h => absurd h (by decide)⟩
                  · refine OpOk.now rfl ?_
                    clear hb hd
                    go_wp2
                    exact ⟨_, rfl, Below.refl _ _, rfl, fun h => absurd h (by decide)⟩
                  · refine OpOk.now rfl ?_
                    have d10 : u 10 = _ := hd 10 (by omega) (by kernel_rfl)
                    have d11 : u 11 = _ := hd 11 (by omega) (by kernel_rfl)
                    clear hb hd
                    rw [d10, d11]
                    clear d10 d11
                    go_wp2
                    exact ⟨_, rfl, Below.refl _ _, rfl, fun h => absurd h (by decide)⟩
                  · refine OpOk.now rfl ?_
                    have d12 : u 12 = _ := hd 12 (by omega) (by kernel_rfl)
                    clear hb hd
                    rw [d12]
                    clear d12
                    have c1 := (HB1.out.cell (p := ⟨g, a'.length + 1, none⟩) hgl2).trans O1.out
                    go_wp2
                    exact ⟨_, rfl, Below.refl _ _, rfl, fun h => absurd h (by decide)⟩
                case htail1 =>
                  intro u A w1 hA hb hd hf
                  simp only [putAll, dstOf, List.getElem?_toArray, List.getElem?_cons_succ, List.getElem?_cons_zero, Option.bind_some, Option.bind, Act.put, List.setIfInBounds_toArray, List.set_cons_succ, List.set_cons_zero] at hA; subst hA
                  have e0 : u 0 = _ := hd 0 (by omega)
                  have e1 : u 1 = _ := hd 1 (by omega)
                  have e2 : u 2 = _ := hd 2 (by omega)
                  have e3 : u 3 = _ := hd 3 (by omega)
                  have e4 : u 4 = _ := hd 4 (by omega)
                  have e5 : u 5 = _ := hd 5 (by omega)
                  have e6 : u 6 = _ := hd 6 (by omega)
                  have e7 : u 7 = _ := hd 7 (by omega)
                  have e8 : u 8 = _ := hd 8 (by omega)
                  have e9 : u 9 = _ := hd 9 (by omega)
                  have e10 : u 10 = _ := hd 10 (by omega)
                  have e11 : u 11 = _ := hd 11 (by omega)
                  have e12 : u 12 = _ := hd 12 (by omega)
                  have e13 : u 13 = _ := hd 13 (by omega)
                  first | rw [e0, e1, e2, e3, e4, e5, e6, e7, e8, e9, e10, e11, e12, e13] | simp only [e0, e1, e2, e3, e4, e5, e6, e7, e8, e9, e10, e11, e12, e13]
                  clear e0 e1 e2 e3 e4 e5 e6 e7 e8 e9 e10 e11 e12 e13
                  clear hd hf
                  have z1 := (hb.frozen (p := ⟨g, a'.length + 1, none⟩) hgl2).trans Z1.out
                  have z0 := (hb.frozen (p := ⟨g, a'.length, none⟩) hgl2).trans Z0.out
                  have c1 := (hb.cell (p := ⟨g, a'.length + 1, none⟩) hgl2).trans O1.out
                  have c0 := (hb.cell (p := ⟨g, a'.length, none⟩) hgl2).trans O0.out
                  have K2 := Lib.hid (SnJ.grow (show SnJ M (.slice A M.n cF) (.slice (some ⟨bf, off, none⟩) M.m cS) w W g cc (s.length + 1) (a' ++ [y] ++ k :: b) from K1.out) hb)
                  have K3 := Lib.hid ((K2.out.set (i := a'.length + 1) (by omega) y).set (i := a'.length) (by omega) k)
                  clear K1 K2 O1 O0 Z1 Z0 hb
                  go_wp2_with (fail)
                  dsimp only [NoPanic]
                  go_wp2_with (fail)
                  go_roundg a'.length
                  case measure => omega
                  case rel => exact ⟨a', y :: b, by first | rfl | go_num | (congr 1; omega), Nat.le_refl _, HI.out.step hky, by have h := K3.out; rw [swap_list] at h; exact Lib.hid h⟩
              · go_wp2_with (fail)
                go_quiet (fail)
                have hbd : RowKit.Below wr.heap.size wr (wr.drewN nq) := bdn (RowKit.Below.refl _ _) nq
                have L2 := Lib.hid (SnK.put (vF := .slice A M.n cF) (vS := .slice (some ⟨bf, off, none⟩) M.m cS) HC.out (by rw [HS.out]; exact HI.out) (Or.inr ⟨a', y, rfl, by show M.E y 1 ≤ M.E k 1; omega⟩) (bthen K0.out.1 hbd) (K0.out.2.1.below hbd) (ownsRow_below K0.out.2.2 hbd) (by simp))
                go_wp2_with (fail)
                go_roundg (M.m - (k + 1))
                case measure => omega
                case rel => exact ⟨k + 1, by first | rfl | go_num | (congr 1; omega), by omega, Nat.le_refl _, L2⟩
    · obtain rfl : k = M.m := by omega
      go_wp2_with (fail)
      go_ret
      refine ⟨_, rfl, L0.out.b, L0.out.o, ?_⟩
      refine L0.out.n.trans ⟨fun h => ?_, fun h => ?_⟩
      · unfold MetD.ordS; rw [h]; exact stab_nil _
      · have := stab2_perm (fun i => M.E i 1) (M.sen p t M.m)
        unfold MetD.ordS at h
        rw [h] at this
        exact this.symm.eq_nil
-- end
end Go.Proofs.YtfcjblnebaemgaaGreat
