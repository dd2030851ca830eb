/- Texts joined: JAQ. -/
import Derived.Test.YtbgkbdhdkpjcdaaGreatRwC
import Derived.Test.YtbgkbdhdkpjcdaaGreatJAK
import Derived.Great.CaseRows
import Derived.Deep.WholeRow
set_option linter.all false
namespace Go.Proofs.YtbgkbdhdkpjcdaaGreat
open Go Go.RowKit Go.Proofs
set_option maxRecDepth 100000
set_option maxHeartbeats 8000000
theorem rw_Meet_c (al ah bl bh : Int) (w : World) (ha : vspan al ah = true) (hb : vspan bl bh = true) :
   Calls Tryz.prog 226 #[.agg #[.int .i64 al, .int .i64 ah], .agg #[.int .i64 bl, .int .i64 bh]] w fun e w' => e = .returned (.tuple #[.agg #[.int .i64 (meL al ah bl bh), .int .i64 (meH al ah bl bh)], .int .i64 (meE al ah bl bh)]) ∧ Below w.heap.size w w' := by
  obtain ⟨v0, v1, v2⟩ := vspan_iff'.1 ha
  obtain ⟨v3, v4, v5⟩ := vspan_iff'.1 hb
  have ht := fun w1 => rf_two_c al ah bl bh w1
  rw [ha, hb] at ht
  have HT := Lib.hid (show ∀ w1, Calls Tryz.prog 228 #[.agg #[.int .i64 al, .int .i64 ah], .agg #[.int .i64 bl, .int .i64 bh]] w1 fun e w' => e = .returned (.int .i64 0) ∧ Below w1.heap.size w1 w' from fun w1 => by
    have := ht w1
    rw [show (!true || !true) = false from rfl, spanE_f] at this
    exact this)
  clear ha hb ht
  unfold meE meL meH
  by_cases h : max al bl ≤ min ah bh
  · rw [if_pos h, if_pos h, if_pos h]
    have h2 : ¬ min ah bh < max al bl := by omega
    go_enter Tryz.func226, Tryz.ntmps226
    go_wp2_with (fail)
    have bHX : Blk (((w.alloc (.cells #[.int .i64 al, .int .i64 ah] 23)).alloc (.cells #[.int .i64 bl, .int .i64 bh] 23)).alloc (.cells #[.int .i64 0, .int .i64 0] 23)) (w.heap.size) 23 #[.int .i64 al, .int .i64 ah] := (by repeat (first | (refine Blk.newAt _ _ _ ?_; first | rfl | (simp; done)) | refine Blk.alloc ?_ _))
    have bHY : Blk (((w.alloc (.cells #[.int .i64 al, .int .i64 ah] 23)).alloc (.cells #[.int .i64 bl, .int .i64 bh] 23)).alloc (.cells #[.int .i64 0, .int .i64 0] 23)) (w.heap.size + 1) 23 #[.int .i64 bl, .int .i64 bh] := (by repeat (first | (refine Blk.newAt _ _ _ ?_; first | rfl | (simp; done)) | refine Blk.alloc ?_ _))
    have bHR : Blk (((w.alloc (.cells #[.int .i64 al, .int .i64 ah] 23)).alloc (.cells #[.int .i64 bl, .int .i64 bh] 23)).alloc (.cells #[.int .i64 0, .int .i64 0] 23)) (w.heap.size + 1 + 1) 23 #[.int .i64 0, .int .i64 0] := (by repeat (first | (refine Blk.newAt _ _ _ ?_; first | rfl | (simp; done)) | refine Blk.alloc ?_ _))
    have bHB : Below w.heap.size w (((w.alloc (.cells #[.int .i64 al, .int .i64 ah] 23)).alloc (.cells #[.int .i64 bl, .int .i64 bh] 23)).alloc (.cells #[.int .i64 0, .int .i64 0] 23)) := (by repeat' (first | exact Below.refl _ _ | assumption | refine Below.drew ?_ | refine bdn ?_ _ | refine bal ?_ _ | refine Below.setCell ?_ (by first | (simp; done) | omega | (simp; omega)) _))
    generalize (((w.alloc (.cells #[.int .i64 al, .int .i64 ah] 23)).alloc (.cells #[.int .i64 bl, .int .i64 bh] 23)).alloc (.cells #[.int .i64 0, .int .i64 0] 23)) = W at *
    have zW := bHR.lt
    have HX := Lib.hid bHX
    have HY := Lib.hid bHY
    have HR := Lib.hid bHR
    have HB := Lib.hid bHB
    clear bHX bHY bHR bHB
    have zHX := HX.out.lt
    have cHX0 := HX.out.cell 0
    have cHX1 := HX.out.cell 1
    have zHY := HY.out.lt
    have cHY0 := HY.out.cell 0
    have cHY1 := HY.out.cell 1
    go_wp2_with (first | (go_at_call 228; (with_reducible refine (HT.out _).mono ?_); rintro e w1 ⟨rfl, hb1⟩; have nHX := Lib.hid (HX.out.below hb1); have nHY := Lib.hid (HY.out.below hb1); have nHR := Lib.hid (HR.out.below hb1); have nHB := Lib.hid (bthen HB.out hb1); have zz1 := hb1.size; clear HX HY HR HB hb1; have HX := nHX; have HY := nHY; have HR := nHR; have HB := nHB; clear nHX nHY nHR nHB; (try clear zHX); have zHX := HX.out.lt; (try clear cHX0); have cHX0 := HX.out.cell 0; (try clear cHX1); have cHX1 := HX.out.cell 1; (try clear zHY); have zHY := HY.out.lt; (try clear cHY0); have cHY0 := HY.out.cell 0; (try clear cHY1); have cHY1 := HY.out.cell 1; (try clear zHR); have zHR := HR.out.lt; (try clear cHR0); have cHR0 := HR.out.cell 0; (try clear cHR1); have cHR1 := HR.out.cell 1; (try clear fHR); have fHR := fun i => HR.out.frozen i))
    exact bodyPost_ret (res_ct rfl _ _ #[.int .i64 (max al bl), .int .i64 (min ah bh)] 2 rfl (((HR.out.set_ 0 _).set_ 1 _).alloc _) Tryz.rowSpan rfl) rfl ⟨rfl, bal (bset (bset HB.out (g := w.heap.size + 1 + 1) (by omega) (i := 0) _) (g := w.heap.size + 1 + 1) (by omega) (i := 1) _) _⟩
  · rw [if_neg h, if_neg h, if_neg h]
    have h2 : min ah bh < max al bl := by omega
    go_enter Tryz.func226, Tryz.ntmps226
    go_wp2_with (fail)
    have bHX : Blk (((w.alloc (.cells #[.int .i64 al, .int .i64 ah] 23)).alloc (.cells #[.int .i64 bl, .int .i64 bh] 23)).alloc (.cells #[.int .i64 0, .int .i64 0] 23)) (w.heap.size) 23 #[.int .i64 al, .int .i64 ah] := (by repeat (first | (refine Blk.newAt _ _ _ ?_; first | rfl | (simp; done)) | refine Blk.alloc ?_ _))
    have bHY : Blk (((w.alloc (.cells #[.int .i64 al, .int .i64 ah] 23)).alloc (.cells #[.int .i64 bl, .int .i64 bh] 23)).alloc (.cells #[.int .i64 0, .int .i64 0] 23)) (w.heap.size + 1) 23 #[.int .i64 bl, .int .i64 bh] := (by repeat (first | (refine Blk.newAt _ _ _ ?_; first | rfl | (simp; done)) | refine Blk.alloc ?_ _))
    have bHR : Blk (((w.alloc (.cells #[.int .i64 al, .int .i64 ah] 23)).alloc (.cells #[.int .i64 bl, .int .i64 bh] 23)).alloc (.cells #[.int .i64 0, .int .i64 0] 23)) (w.heap.size + 1 + 1) 23 #[.int .i64 0, .int .i64 0] := (by repeat (first | (refine Blk.newAt _ _ _ ?_; first | rfl | (simp; done)) | refine Blk.alloc ?_ _))
    have bHB : Below w.heap.size w (((w.alloc (.cells #[.int .i64 al, .int .i64 ah] 23)).alloc (.cells #[.int .i64 bl, .int .i64 bh] 23)).alloc (.cells #[.int .i64 0, .int .i64 0] 23)) := (by repeat' (first | exact Below.refl _ _ | assumption | refine Below.drew ?_ | refine bdn ?_ _ | refine bal ?_ _ | refine Below.setCell ?_ (by first | (simp; done) | omega | (simp; omega)) _))
    generalize (((w.alloc (.cells #[.int .i64 al, .int .i64 ah] 23)).alloc (.cells #[.int .i64 bl, .int .i64 bh] 23)).alloc (.cells #[.int .i64 0, .int .i64 0] 23)) = W at *
    have zW := bHR.lt
    have HX := Lib.hid bHX
    have HY := Lib.hid bHY
    have HR := Lib.hid bHR
    have HB := Lib.hid bHB
    clear bHX bHY bHR bHB
    have zHX := HX.out.lt
    have cHX0 := HX.out.cell 0
    have cHX1 := HX.out.cell 1
    have zHY := HY.out.lt
    have cHY0 := HY.out.cell 0
    have cHY1 := HY.out.cell 1
    go_wp2_with (first | (go_at_call 228; (with_reducible refine (HT.out _).mono ?_); rintro e w1 ⟨rfl, hb1⟩; have nHX := Lib.hid (HX.out.below hb1); have nHY := Lib.hid (HY.out.below hb1); have nHR := Lib.hid (HR.out.below hb1); have nHB := Lib.hid (bthen HB.out hb1); have zz1 := hb1.size; clear HX HY HR HB hb1; have HX := nHX; have HY := nHY; have HR := nHR; have HB := nHB; clear nHX nHY nHR nHB; (try clear zHX); have zHX := HX.out.lt; (try clear cHX0); have cHX0 := HX.out.cell 0; (try clear cHX1); have cHX1 := HX.out.cell 1; (try clear zHY); have zHY := HY.out.lt; (try clear cHY0); have cHY0 := HY.out.cell 0; (try clear cHY1); have cHY1 := HY.out.cell 1; (try clear zHR); have zHR := HR.out.lt; (try clear cHR0); have cHR0 := HR.out.cell 0; (try clear cHR1); have cHR1 := HR.out.cell 1; (try clear fHR); have fHR := fun i => HR.out.frozen i))
    exact bodyPost_ret (res_ct rfl _ _ #[.int .i64 0, .int .i64 0] 2 rfl (((HR.out.set_ 0 _).set_ 1 _).alloc _) Tryz.rowSpan rfl) rfl ⟨rfl, bal (bset (bset HB.out (g := w.heap.size + 1 + 1) (by omega) (i := 0) _) (g := w.heap.size + 1 + 1) (by omega) (i := 1) _) _⟩
theorem rw_around_c (n d m : Int) (w : World) (h0 : -1000000000 ≤ n) (h1 : n ≤ 1000000000) (h2 : -1000000000 ≤ d) (h3 : d ≤ 1000000000) (hn0 : 0 ≤ n) (hn1 : n ≤ m) (hd : 0 ≤ d) (hm : m ≤ 1000000) :
   Calls Tryz.prog 220 #[.int .i64 n, .int .i64 d, .int .i64 m] w fun e w' => e = .returned (.agg #[.int .i64 (neL n d m), .int .i64 (neH n d m)]) ∧ Below w.heap.size w w' := by
  go_enter Tryz.func220, Tryz.ntmps220
  go_wp2
  all_goals exact bodyPost_ret (res_c rfl _ _ _ 2 rfl (Blk.new _ _ _) Tryz.rowSpan rfl) rfl ⟨ret2 (by unfold neL; omega) (by unfold neH; omega), bal (Below.refl _ _) _⟩
theorem rw_cut_c (al ah bl bh : Int) (w : World) (ha : vspan al ah = true) (hb : vspan bl bh = true) :
   Calls Tryz.prog 219 #[.agg #[.int .i64 al, .int .i64 ah], .agg #[.int .i64 bl, .int .i64 bh]] w fun e w' => e = .returned (.tuple #[.agg #[.int .i64 (cuL al ah bl bh), .int .i64 (cuH al ah bl bh)], .bool (cuF al ah bl bh)]) ∧ Below w.heap.size w w' := by
  have hm := fun w1 => rw_Meet_c al ah bl bh w1 ha hb
  unfold cuL cuH cuF
  clear ha hb
  unfold meL meH meE at hm
  by_cases h : max al bl ≤ min ah bh
  · rw [if_pos h, if_pos h, if_pos h] at hm
    rw [if_pos h, if_pos h, show (!decide (max al bl ≤ min ah bh)) = false by simp [h]]
    have HM := Lib.hid hm
    clear hm
    go_enter Tryz.func219, Tryz.ntmps219
    go_wp2_with (fail)
    have bHX : Blk (((w.alloc (.cells #[.int .i64 al, .int .i64 ah] 23)).alloc (.cells #[.int .i64 bl, .int .i64 bh] 23)).alloc (.cells #[.int .i64 0, .int .i64 0] 23)) (w.heap.size) 23 #[.int .i64 al, .int .i64 ah] := (by repeat (first | (refine Blk.newAt _ _ _ ?_; first | rfl | (simp; done)) | refine Blk.alloc ?_ _))
    have bHY : Blk (((w.alloc (.cells #[.int .i64 al, .int .i64 ah] 23)).alloc (.cells #[.int .i64 bl, .int .i64 bh] 23)).alloc (.cells #[.int .i64 0, .int .i64 0] 23)) (w.heap.size + 1) 23 #[.int .i64 bl, .int .i64 bh] := (by repeat (first | (refine Blk.newAt _ _ _ ?_; first | rfl | (simp; done)) | refine Blk.alloc ?_ _))
    have bHR : Blk (((w.alloc (.cells #[.int .i64 al, .int .i64 ah] 23)).alloc (.cells #[.int .i64 bl, .int .i64 bh] 23)).alloc (.cells #[.int .i64 0, .int .i64 0] 23)) (w.heap.size + 1 + 1) 23 #[.int .i64 0, .int .i64 0] := (by repeat (first | (refine Blk.newAt _ _ _ ?_; first | rfl | (simp; done)) | refine Blk.alloc ?_ _))
    have bHB : Below w.heap.size w (((w.alloc (.cells #[.int .i64 al, .int .i64 ah] 23)).alloc (.cells #[.int .i64 bl, .int .i64 bh] 23)).alloc (.cells #[.int .i64 0, .int .i64 0] 23)) := (by repeat' (first | exact Below.refl _ _ | assumption | refine Below.drew ?_ | refine bdn ?_ _ | refine bal ?_ _ | refine Below.setCell ?_ (by first | (simp; done) | omega | (simp; omega)) _))
    generalize (((w.alloc (.cells #[.int .i64 al, .int .i64 ah] 23)).alloc (.cells #[.int .i64 bl, .int .i64 bh] 23)).alloc (.cells #[.int .i64 0, .int .i64 0] 23)) = W at *
    have zW := bHR.lt
    have HX := Lib.hid bHX
    have HY := Lib.hid bHY
    have HR := Lib.hid bHR
    have HB := Lib.hid bHB
    clear bHX bHY bHR bHB
    have zHX := HX.out.lt
    have cHX0 := HX.out.cell 0
    have cHX1 := HX.out.cell 1
    have zHY := HY.out.lt
    have cHY0 := HY.out.cell 0
    have cHY1 := HY.out.cell 1
    go_wp2_with (first | (go_at_call 226; (with_reducible refine (HM.out _).mono ?_); rintro e w1 ⟨rfl, hb1⟩; have nHX := Lib.hid (HX.out.below hb1); have nHY := Lib.hid (HY.out.below hb1); have nHR := Lib.hid (HR.out.below hb1); have nHB := Lib.hid (bthen HB.out hb1); have zz1 := hb1.size; clear HX HY HR HB hb1; have HX := nHX; have HY := nHY; have HR := nHR; have HB := nHB; clear nHX nHY nHR nHB; (try clear zHY); have zHY := HY.out.lt; (try clear cHY0); have cHY0 := HY.out.cell 0; (try clear cHY1); have cHY1 := HY.out.cell 1; (try clear zHR); have zHR := HR.out.lt; (try clear cHR0); have cHR0 := HR.out.cell 0; (try clear cHR1); have cHR1 := HR.out.cell 1; (try clear fHR); have fHR := fun i => HR.out.frozen i))
    exact bodyPost_ret (res_ct rfl _ _ #[.int .i64 (max al bl), .int .i64 (min ah bh)] 2 rfl (((HR.out.set_ 0 _).set_ 1 _).alloc _) Tryz.rowSpan rfl) rfl ⟨rfl, bal (bset (bset HB.out (g := w.heap.size + 1 + 1) (by omega) (i := 0) _) (g := w.heap.size + 1 + 1) (by omega) (i := 1) _) _⟩
  · rw [if_neg h, if_neg h, if_neg h] at hm
    rw [if_neg h, if_neg h, show (!decide (max al bl ≤ min ah bh)) = true by simp [h]]
    have HM := Lib.hid hm
    clear hm
    go_enter Tryz.func219, Tryz.ntmps219
    go_wp2_with (fail)
    have bHX : Blk (((w.alloc (.cells #[.int .i64 al, .int .i64 ah] 23)).alloc (.cells #[.int .i64 bl, .int .i64 bh] 23)).alloc (.cells #[.int .i64 0, .int .i64 0] 23)) (w.heap.size) 23 #[.int .i64 al, .int .i64 ah] := (by repeat (first | (refine Blk.newAt _ _ _ ?_; first | rfl | (simp; done)) | refine Blk.alloc ?_ _))
    have bHY : Blk (((w.alloc (.cells #[.int .i64 al, .int .i64 ah] 23)).alloc (.cells #[.int .i64 bl, .int .i64 bh] 23)).alloc (.cells #[.int .i64 0, .int .i64 0] 23)) (w.heap.size + 1) 23 #[.int .i64 bl, .int .i64 bh] := (by repeat (first | (refine Blk.newAt _ _ _ ?_; first | rfl | (simp; done)) | refine Blk.alloc ?_ _))
    have bHR : Blk (((w.alloc (.cells #[.int .i64 al, .int .i64 ah] 23)).alloc (.cells #[.int .i64 bl, .int .i64 bh] 23)).alloc (.cells #[.int .i64 0, .int .i64 0] 23)) (w.heap.size + 1 + 1) 23 #[.int .i64 0, .int .i64 0] := (by repeat (first | (refine Blk.newAt _ _ _ ?_; first | rfl | (simp; done)) | refine Blk.alloc ?_ _))
    have bHB : Below w.heap.size w (((w.alloc (.cells #[.int .i64 al, .int .i64 ah] 23)).alloc (.cells #[.int .i64 bl, .int .i64 bh] 23)).alloc (.cells #[.int .i64 0, .int .i64 0] 23)) := (by repeat' (first | exact Below.refl _ _ | assumption | refine Below.drew ?_ | refine bdn ?_ _ | refine bal ?_ _ | refine Below.setCell ?_ (by first | (simp; done) | omega | (simp; omega)) _))
    generalize (((w.alloc (.cells #[.int .i64 al, .int .i64 ah] 23)).alloc (.cells #[.int .i64 bl, .int .i64 bh] 23)).alloc (.cells #[.int .i64 0, .int .i64 0] 23)) = W at *
    have zW := bHR.lt
    have HX := Lib.hid bHX
    have HY := Lib.hid bHY
    have HR := Lib.hid bHR
    have HB := Lib.hid bHB
    clear bHX bHY bHR bHB
    have zHX := HX.out.lt
    have cHX0 := HX.out.cell 0
    have cHX1 := HX.out.cell 1
    have zHY := HY.out.lt
    have cHY0 := HY.out.cell 0
    have cHY1 := HY.out.cell 1
    go_wp2_with (first | (go_at_call 226; (with_reducible refine (HM.out _).mono ?_); rintro e w1 ⟨rfl, hb1⟩; have nHX := Lib.hid (HX.out.below hb1); have nHY := Lib.hid (HY.out.below hb1); have nHR := Lib.hid (HR.out.below hb1); have nHB := Lib.hid (bthen HB.out hb1); have zz1 := hb1.size; clear HX HY HR HB hb1; have HX := nHX; have HY := nHY; have HR := nHR; have HB := nHB; clear nHX nHY nHR nHB; (try clear zHY); have zHY := HY.out.lt; (try clear cHY0); have cHY0 := HY.out.cell 0; (try clear cHY1); have cHY1 := HY.out.cell 1; (try clear zHR); have zHR := HR.out.lt; (try clear cHR0); have cHR0 := HR.out.cell 0; (try clear cHR1); have cHR1 := HR.out.cell 1; (try clear fHR); have fHR := fun i => HR.out.frozen i))
    exact bodyPost_ret (res_ct rfl _ _ #[.int .i64 bl, .int .i64 bh] 2 rfl (((HR.out.set_ 0 _).set_ 1 _).alloc _) Tryz.rowSpan rfl) rfl ⟨rfl, bal (bset (bset HB.out (g := w.heap.size + 1 + 1) (by omega) (i := 0) _) (g := w.heap.size + 1 + 1) (by omega) (i := 1) _) _⟩
end Go.Proofs.YtbgkbdhdkpjcdaaGreat

namespace Go.Proofs.YtbgkbdhdkpjcdaaGreat
open Go Go.RowKit Go.Proofs
set_option maxRecDepth 100000
set_option maxHeartbeats 8000000
theorem rw_cutSky_c (x y : Sk) (w : World) (hx : x.ok) (hy : y.ok) :
   Calls Tryz.prog 217 #[.agg x.cells, .agg y.cells] w fun e w' => e = .returned (.tuple #[.agg (Sk.mk (x.cut y).a0 (x.cut y).a1 (x.cut y).a2 (x.cut y).a3 (x.cut y).a4 (x.cut y).a5 (x.i && y.i) (x.s && y.s)).cells, .bool (x.odd y)]) ∧ Below w.heap.size w w' := by
  obtain ⟨a0, a1, a2, a3, a4, a5, ai, as1⟩ := x
  obtain ⟨b0, b1, b2, b3, b4, b5, bi, bs⟩ := y
  obtain ⟨p1, p2, p3⟩ := hx
  obtain ⟨q1, q2, q3⟩ := hy
  have h1 := fun w1 => rw_cut_c a0 a1 b0 b1 w1 p1 q1
  have h2 := fun w1 => rw_cut_c a2 a3 b2 b3 w1 p2 q2
  have h3 := fun w1 => rw_cut_c a4 a5 b4 b5 w1 p3 q3
  clear p1 p2 p3 q1 q2 q3
  unfold Sk.cut Sk.odd skF Sk.cells
  dsimp only
  generalize cuL a0 a1 b0 b1 = l1 at *
  generalize cuH a0 a1 b0 b1 = g1 at *
  generalize cuF a0 a1 b0 b1 = F1 at *
  generalize cuL a2 a3 b2 b3 = l2 at *
  generalize cuH a2 a3 b2 b3 = g2 at *
  generalize cuF a2 a3 b2 b3 = F2 at *
  generalize cuL a4 a5 b4 b5 = l3 at *
  generalize cuH a4 a5 b4 b5 = g3 at *
  generalize cuF a4 a5 b4 b5 = F3 at *
  have H1 := Lib.hid h1
  have H2 := Lib.hid h2
  have H3 := Lib.hid h3
  clear h1 h2 h3
  go_enter Tryz.func217, Tryz.ntmps217
  go_wp2_with (fail)
  have bHX : Blk (((w.alloc (.cells #[.int .i64 a0, .int .i64 a1, .int .i64 a2, .int .i64 a3, .int .i64 a4, .int .i64 a5, .bool ai, .bool as1] 25)).alloc (.cells #[.int .i64 b0, .int .i64 b1, .int .i64 b2, .int .i64 b3, .int .i64 b4, .int .i64 b5, .bool bi, .bool bs] 25)).alloc (.cells #[.int .i64 0, .int .i64 0, .int .i64 0, .int .i64 0, .int .i64 0, .int .i64 0, .bool false, .bool false] 25)) (w.heap.size) 25 #[.int .i64 a0, .int .i64 a1, .int .i64 a2, .int .i64 a3, .int .i64 a4, .int .i64 a5, .bool ai, .bool as1] := (by repeat (first | (refine Blk.newAt _ _ _ ?_; first | rfl | (simp; done)) | refine Blk.alloc ?_ _))
  have bHY : Blk (((w.alloc (.cells #[.int .i64 a0, .int .i64 a1, .int .i64 a2, .int .i64 a3, .int .i64 a4, .int .i64 a5, .bool ai, .bool as1] 25)).alloc (.cells #[.int .i64 b0, .int .i64 b1, .int .i64 b2, .int .i64 b3, .int .i64 b4, .int .i64 b5, .bool bi, .bool bs] 25)).alloc (.cells #[.int .i64 0, .int .i64 0, .int .i64 0, .int .i64 0, .int .i64 0, .int .i64 0, .bool false, .bool false] 25)) (w.heap.size + 1) 25 #[.int .i64 b0, .int .i64 b1, .int .i64 b2, .int .i64 b3, .int .i64 b4, .int .i64 b5, .bool bi, .bool bs] := (by repeat (first | (refine Blk.newAt _ _ _ ?_; first | rfl | (simp; done)) | refine Blk.alloc ?_ _))
  have bHR : Blk (((w.alloc (.cells #[.int .i64 a0, .int .i64 a1, .int .i64 a2, .int .i64 a3, .int .i64 a4, .int .i64 a5, .bool ai, .bool as1] 25)).alloc (.cells #[.int .i64 b0, .int .i64 b1, .int .i64 b2, .int .i64 b3, .int .i64 b4, .int .i64 b5, .bool bi, .bool bs] 25)).alloc (.cells #[.int .i64 0, .int .i64 0, .int .i64 0, .int .i64 0, .int .i64 0, .int .i64 0, .bool false, .bool false] 25)) (w.heap.size + 1 + 1) 25 #[.int .i64 0, .int .i64 0, .int .i64 0, .int .i64 0, .int .i64 0, .int .i64 0, .bool false, .bool false] := (by repeat (first | (refine Blk.newAt _ _ _ ?_; first | rfl | (simp; done)) | refine Blk.alloc ?_ _))
  have bHB : Below w.heap.size w (((w.alloc (.cells #[.int .i64 a0, .int .i64 a1, .int .i64 a2, .int .i64 a3, .int .i64 a4, .int .i64 a5, .bool ai, .bool as1] 25)).alloc (.cells #[.int .i64 b0, .int .i64 b1, .int .i64 b2, .int .i64 b3, .int .i64 b4, .int .i64 b5, .bool bi, .bool bs] 25)).alloc (.cells #[.int .i64 0, .int .i64 0, .int .i64 0, .int .i64 0, .int .i64 0, .int .i64 0, .bool false, .bool false] 25)) := (by repeat' (first | exact Below.refl _ _ | assumption | refine Below.drew ?_ | refine bdn ?_ _ | refine bal ?_ _ | refine Below.setCell ?_ (by first | (simp; done) | omega | (simp; omega)) _))
  generalize (((w.alloc (.cells #[.int .i64 a0, .int .i64 a1, .int .i64 a2, .int .i64 a3, .int .i64 a4, .int .i64 a5, .bool ai, .bool as1] 25)).alloc (.cells #[.int .i64 b0, .int .i64 b1, .int .i64 b2, .int .i64 b3, .int .i64 b4, .int .i64 b5, .bool bi, .bool bs] 25)).alloc (.cells #[.int .i64 0, .int .i64 0, .int .i64 0, .int .i64 0, .int .i64 0, .int .i64 0, .bool false, .bool false] 25)) = W at *
  have zW := bHR.lt
  have HX := Lib.hid bHX
  have HY := Lib.hid bHY
  have HR := Lib.hid bHR
  have HB := Lib.hid bHB
  clear bHX bHY bHR bHB
  have zHX := HX.out.lt
  have cHX0 := HX.out.cell 0
  have cHX1 := HX.out.cell 1
  have zHY := HY.out.lt
  have cHY0 := HY.out.cell 0
  have cHY1 := HY.out.cell 1
  go_wp2_with (fail)
  refine (H1.out _).mono ?_
  rintro e w1 ⟨rfl, hb1⟩
  have nHX := Lib.hid (HX.out.below hb1)
  have nHY := Lib.hid (HY.out.below hb1)
  have nHR := Lib.hid (HR.out.below hb1)
  have nHB := Lib.hid (bthen HB.out hb1)
  clear HX HY HR HB hb1
  have HX := nHX
  have HY := nHY
  have HR := nHR
  have HB := nHB
  clear nHX nHY nHR nHB
  have zHX := HX.out.lt
  have cHX2 := HX.out.cell 2
  have cHX3 := HX.out.cell 3
  have zHY := HY.out.lt
  have cHY2 := HY.out.cell 2
  have cHY3 := HY.out.cell 3
  go_wp2_with (fail)
  have bHP := Blk.new w1 23 #[.int .i64 l1, .int .i64 g1]
  have nHX := Lib.hid (HX.out.alloc (.cells #[.int .i64 l1, .int .i64 g1] 23))
  have nHY := Lib.hid (HY.out.alloc (.cells #[.int .i64 l1, .int .i64 g1] 23))
  have nHR := Lib.hid (HR.out.alloc (.cells #[.int .i64 l1, .int .i64 g1] 23))
  have nHB := Lib.hid (bal HB.out (.cells #[.int .i64 l1, .int .i64 g1] 23))
  clear HX HY HR HB
  have HX := nHX
  have HY := nHY
  have HR := nHR
  have HB := nHB
  clear nHX nHY nHR nHB
  generalize w1.alloc (.cells #[.int .i64 l1, .int .i64 g1] 23) = W2 at *
  generalize w1.heap.size = gHP at *
  have HP := Lib.hid bHP
  clear bHP
  refine (H2.out _).mono ?_
  rintro e w1 ⟨rfl, hb1⟩
  have nHX := Lib.hid (HX.out.below hb1)
  have nHY := Lib.hid (HY.out.below hb1)
  have nHR := Lib.hid (HR.out.below hb1)
  have nHP := Lib.hid (HP.out.below hb1)
  have nHB := Lib.hid (bthen HB.out hb1)
  clear HX HY HR HP HB hb1
  have HX := nHX
  have HY := nHY
  have HR := nHR
  have HP := nHP
  have HB := nHB
  clear nHX nHY nHR nHP nHB
  have zHX := HX.out.lt
  have cHX4 := HX.out.cell 4
  have cHX5 := HX.out.cell 5
  have zHY := HY.out.lt
  have cHY4 := HY.out.cell 4
  have cHY5 := HY.out.cell 5
  go_wp2_with (fail)
  have bHQ := Blk.new w1 23 #[.int .i64 l2, .int .i64 g2]
  have nHX := Lib.hid (HX.out.alloc (.cells #[.int .i64 l2, .int .i64 g2] 23))
  have nHY := Lib.hid (HY.out.alloc (.cells #[.int .i64 l2, .int .i64 g2] 23))
  have nHR := Lib.hid (HR.out.alloc (.cells #[.int .i64 l2, .int .i64 g2] 23))
  have nHP := Lib.hid (HP.out.alloc (.cells #[.int .i64 l2, .int .i64 g2] 23))
  have nHB := Lib.hid (bal HB.out (.cells #[.int .i64 l2, .int .i64 g2] 23))
  clear HX HY HR HP HB
  have HX := nHX
  have HY := nHY
  have HR := nHR
  have HP := nHP
  have HB := nHB
  clear nHX nHY nHR nHP nHB
  generalize w1.alloc (.cells #[.int .i64 l2, .int .i64 g2] 23) = W2 at *
  generalize w1.heap.size = gHQ at *
  have HQ := Lib.hid bHQ
  clear bHQ
  refine (H3.out _).mono ?_
  rintro e w1 ⟨rfl, hb1⟩
  have nHX := Lib.hid (HX.out.below hb1)
  have nHY := Lib.hid (HY.out.below hb1)
  have nHR := Lib.hid (HR.out.below hb1)
  have nHP := Lib.hid (HP.out.below hb1)
  have nHQ := Lib.hid (HQ.out.below hb1)
  have nHB := Lib.hid (bthen HB.out hb1)
  clear HX HY HR HP HQ HB hb1
  have HX := nHX
  have HY := nHY
  have HR := nHR
  have HP := nHP
  have HQ := nHQ
  have HB := nHB
  clear nHX nHY nHR nHP nHQ nHB
  have zR := HR.out.lt
  have zP := HP.out.lt
  have zQ := HQ.out.lt
  have zX := HX.out.lt
  have zY := HY.out.lt
  have x6 := HX.out.cell 6
  have x7 := HX.out.cell 7
  have y6 := HY.out.cell 6
  have y7 := HY.out.cell 7
  have p0 := HP.out.cell 0
  have p1 := HP.out.cell 1
  have q0 := HQ.out.cell 0
  have q1 := HQ.out.cell 1
  simp only [List.getElem?_toArray, List.getElem?_cons_succ, List.getElem?_cons_zero] at x6 x7 y6 y7 p0 p1 q0 q1
  cases ai <;> cases as1 <;> cases F1 <;> cases F2
  all_goals
    go_wp2_with (first | (refine wpList_store_row rfl 25 (.tmp 4) (.tmp 51) rfl (w.heap.size + 1 + 1) _ rfl rfl 25 #[.int .i64 0, .int .i64 0, .int .i64 0, .int .i64 0, .int .i64 0, .int .i64 0, .bool false, .bool false] (HR.out.alloc _) Tryz.sizeSky rfl (oneS _ _ _ _ _ _ _ _) ?_; simp only [Act.put]))
    exact bodyPost_ret (res_ct rfl _ _ _ 8 rfl (setRow_heap _ _ _ _ _ _ (HR.out.alloc _)) Tryz.rowSky rfl) rfl ⟨rfl, rowBelow (bal HB.out _) (by omega) _⟩
end Go.Proofs.YtbgkbdhdkpjcdaaGreat

namespace Go.Proofs.YtbgkbdhdkpjcdaaGreat
open Go Go.RowKit Go.Proofs
set_option maxRecDepth 100000

def spC (l : List (Int × Int)) : List Value := l.flatMap fun p => [.int .i64 p.1, .int .i64 p.2]
/-- A store into the cells that a row owns. -/
theorem owns_set {w : World} {base g c i : Nat} {e : TypeId} {size : Nat} {n : Nat} {xs : List Value} (h : w.ownsRow base e size (.slice (some ⟨g, 0, none⟩) n c) n xs) (hi : i < n * size) (u : Value) :
    (w.setCell ⟨g, i, none⟩ u).ownsRow base e size (.slice (some ⟨g, 0, none⟩) n c) n (xs.set i u) := by
  obtain ⟨h1, h2⟩ := h
  refine ⟨by rw [List.length_set]; exact h1, ?_⟩
  rcases h2 with ⟨h2, -⟩ | ⟨g', cap, cur, hv, hb, hh, r1, r2, r3, r4⟩
  · cases h2
  · simp only [Value.slice.injEq, Option.some.injEq, Addr.mk.injEq, and_true] at hv
    obtain ⟨rfl, -, rfl⟩ := hv
    refine .inr ⟨g, c, cur.setIfInBounds i u, rfl, hb, (show Blk _ g e _ from (show Blk w g e cur from hh).set_ i u), r1, r2, by simpa using r3, ?_⟩
    rw [Array.toList_setIfInBounds, List.take_set, r4]
end Go.Proofs.YtbgkbdhdkpjcdaaGreat

namespace Go.Proofs.YtbgkbdhdkpjcdaaGreat
open Go Go.RowKit Go.Proofs
set_option maxRecDepth 100000
set_option maxHeartbeats 4000000

end Go.Proofs.YtbgkbdhdkpjcdaaGreat

namespace Go.Proofs.YtbgkbdhdkpjcdaaGreat
open Go Go.RowKit Go.Proofs
set_option maxRecDepth 100000
set_option maxHeartbeats 8000000

/-- What the loop of Windows keeps. -/
structure WiK (M : MetD) (vF vS : Value) (lw ls lc : Int) (li lt : Bool) (w : World) (l : List (Int × Int)) (v : Value) (wr : World) : Prop where
  k : FiK M vF vS lw ls lc li lt w wr
  o : wr.ownsRow (w.heap.size + 2) 23 2 v l.length (spC l)
  n : v = .slice none 0 0 ↔ l = []
  z : w.heap.size + 2 ≤ wr.heap.size
theorem WiK.grow {M : MetD} {vF vS : Value} {lw ls lc : Int} {li lt : Bool} {w wr w2 : World} {l : List (Int × Int)} {v : Value} (h : WiK M vF vS lw ls lc li lt w l v wr) (hb : Below wr.heap.size wr w2) : WiK M vF vS lw ls lc li lt w l v w2 :=
  ⟨h.k.grow hb, ownsRow_below h.o hb, h.n, Nat.le_trans h.z hb.size⟩
theorem FiK.under {M : MetD} {vF vS : Value} {lw ls lc : Int} {li lt : Bool} {w wr w2 : World} (h : FiK M vF vS lw ls lc li lt w wr) (hb : Below (w.heap.size + 2) wr w2) : FiK M vF vS lw ls lc li lt w w2 :=
  ⟨h.b.trans (hb.mono (by omega)), h.m.under hb (by omega), h.l.under hb (by omega)⟩
theorem WiK.take {M : MetD} {vF vS : Value} {lw ls lc : Int} {li lt : Bool} {w wr w2 : World} {l : List (Int × Int)} {v v' : Value} {p : Int × Int} (h : WiK M vF vS lw ls lc li lt w l v wr) (h1 : w2.ownsRow (w.heap.size + 2) 23 2 v' (l ++ [p]).length (spC (l ++ [p])))
    (h2 : wr.grownBy w2 v.ownBlock) (h3 : v' ≠ .slice none 0 0) : WiK M vF vS lw ls lc li lt w (l ++ [p]) v' w2 :=
  ⟨h.k.under (below_grown h2 h.z (fun b hb => owns_base h.o hb)), h1, by simp [h3], Nat.le_trans h.z h2.size⟩
end Go.Proofs.YtbgkbdhdkpjcdaaGreat

namespace Go.Proofs.YtbgkbdhdkpjcdaaGreat
open Go Go.RowKit Go.Proofs
set_option maxRecDepth 100000
set_option maxHeartbeats 8000000

end Go.Proofs.YtbgkbdhdkpjcdaaGreat

namespace Go.Proofs.YtbgkbdhdkpjcdaaGreat
open Go Go.RowKit Go.Proofs

theorem stab_nil (key : Nat → Int) : stab key [] = [] := by simp [stab]
end Go.Proofs.YtbgkbdhdkpjcdaaGreat

namespace Go.Proofs.YtbgkbdhdkpjcdaaGreat
open Go Go.RowKit Go.Proofs
set_option maxRecDepth 100000
set_option maxHeartbeats 8000000

end Go.Proofs.YtbgkbdhdkpjcdaaGreat

namespace Go.Proofs.YtbgkbdhdkpjcdaaGreat
open Go Go.RowKit Go.Proofs
set_option maxRecDepth 100000
set_option maxHeartbeats 8000000
end Go.Proofs.YtbgkbdhdkpjcdaaGreat

namespace Go.Proofs.YtbgkbdhdkpjcdaaGreat
open Go Go.RowKit Go.Proofs

theorem keyLe_trans (key : Nat → Int) (a b c : Nat) (h1 : (!keyLt key (fun i => (i : Int)) b a) = true) (h2 : (!keyLt key (fun i => (i : Int)) c b) = true) : (!keyLt key (fun i => (i : Int)) c a) = true := by
  unfold keyLt at *
  simp only [Bool.not_eq_true', Bool.or_eq_false_iff, Bool.and_eq_false_iff, decide_eq_false_iff_not] at *
  omega
theorem keyLe_total (key : Nat → Int) (a b : Nat) : ((!keyLt key (fun i => (i : Int)) b a) || (!keyLt key (fun i => (i : Int)) a b)) = true := by
  unfold keyLt
  simp only [Bool.or_eq_true, Bool.not_eq_true', Bool.or_eq_false_iff, Bool.and_eq_false_iff, decide_eq_false_iff_not]
  omega
theorem stab_pair (key : Nat → Int) (l : List Nat) : (stab key l).Pairwise fun a b => (!keyLt key (fun i => (i : Int)) b a) = true := by
  unfold stab
  exact List.pairwise_mergeSort (keyLe_trans key) (keyLe_total key) l
section
variable {M : MetD} {n : Nat} (hb : M.bad = false) (hn : n < M.m) (hmax : ∀ i, i < M.m → M.E i 0 = M.E n 0 → M.E i 1 < M.E n 1 ∨ (M.E i 1 = M.E n 1 ∧ i ≤ n))
include hb hn
include hmax
end
end Go.Proofs.YtbgkbdhdkpjcdaaGreat
