/- Contract: Check of package deck. -/
import Derived.Test.YtafkifjebimdaaaGreatJAJ
set_option linter.all false
namespace Go.Proofs.YtafkifjebimdaaaGreat
open Go Go.RowKit Go.Proofs
set_option maxRecDepth 100000
set_option maxHeartbeats 8000000
theorem Tryz.entD1 : ∀ args w, (callFunc 66 args).run Tryz.prog w = .ok (.enter 66 args) w := enters_of Tryz.func66 (by kernel_rfl) rfl
theorem Tryz.entD2 : ∀ args w, (callFunc 67 args).run Tryz.prog w = .ok (.enter 67 args) w := enters_of Tryz.func67 (by kernel_rfl) rfl
theorem Tryz.entD3 : ∀ args w, (callFunc 68 args).run Tryz.prog w = .ok (.enter 68 args) w := enters_of Tryz.func68 (by kernel_rfl) rfl
theorem Tryz.entD4 : ∀ args w, (callFunc 72 args).run Tryz.prog w = .ok (.enter 72 args) w := enters_of Tryz.func72 (by kernel_rfl) rfl
theorem deSec_c (f t x : Int) (w : World) : Calls Tryz.prog 66 #[.agg #[.int .i64 f, .int .i64 t, .int .i64 x]] w fun e w' => e = .returned (.bool (seBad f t x)) ∧ Below w.heap.size w w' := by
  unfold seBad
  cases h1 : inB f 0 359 <;> cases h2 : inB t 0 359
  all_goals
    go_enter Tryz.func66, Tryz.ntmps66
    go_wp2_with (first | (go_at_call 33; (with_reducible refine (dwithin_c _ _ _ _).mono ?_); rintro e w1 ⟨rfl, rfl⟩))
    go_ret
    exact ⟨rfl, (by repeat' (first | exact Below.refl _ _ | assumption | refine Below.drew ?_ | refine bdn ?_ _ | refine bal ?_ _ | refine Below.setCell ?_ (by first | (simp; done) | omega | (simp; omega)) _))⟩
theorem deShi_c (f t x : Int) (w : World) : Calls Tryz.prog 67 #[.agg #[.int .i64 f, .int .i64 t, .int .i64 x]] w fun e w' => e = .returned (.bool (shBad f t x)) ∧ Below w.heap.size w w' := by
  unfold shBad
  have h1 := fun w1 => dstretch_c f t w1
  generalize stB f t = B at *
  have H1 := Lib.hid h1
  clear h1
  cases B
  all_goals
    go_enter Tryz.func67, Tryz.ntmps67
    go_wp2_with (first | (go_at_call 40; (with_reducible refine (H1.out _).mono ?_); rintro e w1 ⟨rfl, rfl⟩) | (go_at_call 33; (with_reducible refine (dwithin_c _ _ _ _).mono ?_); rintro e w1 ⟨rfl, rfl⟩))
    go_ret
    exact ⟨rfl, (by repeat' (first | exact Below.refl _ _ | assumption | refine Below.drew ?_ | refine bdn ?_ _ | refine bal ?_ _ | refine Below.setCell ?_ (by first | (simp; done) | omega | (simp; omega)) _))⟩
theorem deSw_c (n : Int) (w : World) : Calls Tryz.prog 68 #[.int .i64 n] w fun e w' => e = .returned (.bool (!inB n 0 300)) ∧ w = w' := by
  go_enter Tryz.func68, Tryz.ntmps68
  go_wp2_with (first | (go_at_call 33; (with_reducible refine (dwithin_c _ _ _ _).mono ?_); rintro e w1 ⟨rfl, rfl⟩))
  go_ret
  exact ⟨rfl, rfl⟩
theorem deShu_c (lo hi : Int) (w : World) : Calls Tryz.prog 72 #[.agg #[.int .i64 lo, .int .i64 hi]] w fun e w' => e = .returned (.bool (!insB lo hi 2000)) ∧ Below w.heap.size w w' := by
  have h1 := fun w1 => dinside_c lo hi 2000 w1
  generalize insB lo hi 2000 = B at *
  have H1 := Lib.hid h1
  clear h1
  go_enter Tryz.func72, Tryz.ntmps72
  go_wp2_with (first | (go_at_call 73; (with_reducible refine (H1.out _).mono ?_); rintro e w1 ⟨rfl, hb1⟩; have hB1 := bthen (show Below w.heap.size w _ from (by repeat' (first | exact Below.refl _ _ | assumption | refine Below.drew ?_ | refine bdn ?_ _ | refine bal ?_ _ | refine Below.setCell ?_ (by first | (simp; done) | omega | (simp; omega)) _))) hb1; have hz1 := hb1.size; (try simp at hz1); obtain ⟨hc1, hf1⟩ := bcell hb1; first | (have hE1 := bthen2 hE (by repeat' (first | exact Below.refl _ _ | refine Below.drew ?_ | refine bdn ?_ _ | refine bal ?_ _ | refine Below.setCell ?_ (by first | (simp; done) | omega | (simp; omega)) _)) hb1; clear hE; have hE := hE1; clear hE1; obtain ⟨hd1, hg1⟩ := bcell hE) | (have hE := hb1)))
  go_ret
  exact ⟨rfl, (by repeat' (first | exact Below.refl _ _ | assumption | refine Below.drew ?_ | refine bdn ?_ _ | refine bal ?_ _ | refine Below.setCell ?_ (by first | (simp; done) | omega | (simp; omega)) _))⟩
def swB (a b c : Int) : Bool := !inB a 0 300 || (!inB b 0 300 || !inB c 0 300)
theorem cfSw_c (b c : Nat) (m1 m2 m3 : Int) (w : World) (h0 : w.cell? ⟨b, 0, none⟩ = some (.int .i64 m1)) (h1 : w.cell? ⟨b, 1, none⟩ = some (.int .i64 m2)) (h2 : w.cell? ⟨b, 2, none⟩ = some (.int .i64 m3)) :
    Calls Tryz.prog 70 #[.slice (some ⟨b, 0, none⟩) 3 c, .func (.func 68) #[] #[]] w fun e w' => e = .returned (.bool (swB m1 m2 m3)) ∧ Below w.heap.size w w' := by
  have h := cfInt_c (some ⟨b, 0, none⟩) 3 c (fun k => if k = 0 then m1 else if k = 1 then m2 else m3) 68 #[] (fun k => !inB (if k = 0 then m1 else if k = 1 then m2 else m3) 0 300) w (by omega) Tryz.entD3
    (fun _ => ⟨b, 0, rfl, blk_lt h0, fun k hk => by
      rcases (show k = 0 ∨ k = 1 ∨ k = 2 by omega) with rfl | rfl | rfl
      · simpa using h0
      · simpa using h1
      · simpa using h2⟩)
    (fun w1 k hk hb => by
      refine (deSw_c _ w1).mono ?_
      rintro _ _ ⟨rfl, rfl⟩
      exact ⟨rfl, Below.refl _ _⟩)
  have e : (List.range 3).any (fun k => !inB (if k = 0 then m1 else if k = 1 then m2 else m3) 0 300) = swB m1 m2 m3 := by simp [List.range_succ, swB]
  rw [e] at h
  exact h
theorem der1 {a b : Bool} (h : a = true) : (a || b) = true := by rw [h]; rfl
theorem der2 {a b : Bool} (h : b = true) : (a || b) = true := by rw [h]; cases a <;> rfl
theorem de_err {D : DekD} (h : D.bad = true) : D.err = 60 := by unfold DekD.err; rw [h]; rfl
theorem dCheck_c (D : DekD) (vA vB vC : Value) (w : World) (hD : DekAt w vA vB vC D) :
   Calls Tryz.prog 36 #[.agg #[.int .i64 D.size, .int .i64 D.load, .int .i64 D.wind, vA, .int .i64 D.pitch, .int .i64 D.roll, .int .i64 D.heave, .int .i64 D.fire, vB, vC]] w fun e w' => e = .returned (.int .i64 D.err) ∧ Below w.heap.size w w' := by
  have HD := Lib.hid hD
  obtain ⟨A, cA, rfl, hA1, hA2, -⟩ := hD.s.e
  obtain ⟨A2, cB, rfl, hB1, hB2, -⟩ := hD.h.e
  obtain ⟨A3, cC, rfl, hC1, hC2, -⟩ := hD.u.e
  clear hD
  have hcs := fun w1 (h : DekAt w1 (.slice A D.ns cA) (.slice A2 D.nh cB) (.slice A3 D.nu cC) D) => cfSec_c A D.ns cA D.S 66 #[] (fun k => seBad (D.S k 0) (D.S k 1) (D.S k 2)) w1 (by omega) Tryz.entD1 (SecsAt.of (by obtain ⟨A', c', e, -, -, h⟩ := h.s.e; simp only [Value.slice.injEq] at e; obtain ⟨rfl, -, rfl⟩ := e; exact h)) (fun w2 k hk hb => deSec_c _ _ _ w2)
  have hch := fun w1 (h : DekAt w1 (.slice A D.ns cA) (.slice A2 D.nh cB) (.slice A3 D.nu cC) D) => cfShi_c A2 D.nh cB D.H 67 #[] (fun k => shBad (D.H k 0) (D.H k 1) (D.H k 2)) w1 (by omega) Tryz.entD2 (ShisAt.of (by obtain ⟨A', c', e, -, -, h⟩ := h.h.e; simp only [Value.slice.injEq] at e; obtain ⟨rfl, -, rfl⟩ := e; exact h)) (fun w2 k hk hb => deShi_c _ _ _ w2)
  have hcu := fun w1 (h : DekAt w1 (.slice A D.ns cA) (.slice A2 D.nh cB) (.slice A3 D.nu cC) D) => cfSpan_c A3 D.nu cC (fun k => D.U k 0) (fun k => D.U k 1) 72 #[] (fun k => !insB (D.U k 0) (D.U k 1) 2000) w1 (by omega) Tryz.entD4 (SpansAt.of (by obtain ⟨A', c', e, -, -, h⟩ := h.u.e; simp only [Value.slice.injEq] at e; obtain ⟨rfl, -, rfl⟩ := e; exact h)) (fun w2 k hk hb => deShu_c _ _ w2)
  have hci := fun b c w1 h0 h1 h2 => cfSw_c b c D.pitch D.roll D.heave w1 h0 h1 h2
  have hsw : swB D.pitch D.roll D.heave = (!inB D.pitch 0 300 || (!inB D.roll 0 300 || !inB D.heave 0 300)) := rfl
  obtain ⟨E, hE⟩ : ∃ q, q = D.err := ⟨_, rfl⟩
  have HEE := Lib.hid hE
  rw [← hE]
  clear hE
  cases b0 : inB D.size 1 1000000
  · have HER := Lib.hid (HEE.out.trans (de_err (der1 (der1 (by rw [b0]; rfl)))))
    go_enter Tryz.func36, Tryz.ntmps36
    go_wp2_with (fail)
    have bHX : Blk (w.alloc (.cells #[.int .i64 D.size, .int .i64 D.load, .int .i64 D.wind, .slice A D.ns cA, .int .i64 D.pitch, .int .i64 D.roll, .int .i64 D.heave, .int .i64 D.fire, .slice A2 D.nh cB, .slice A3 D.nu cC] 26)) (w.heap.size) 26 #[.int .i64 D.size, .int .i64 D.load, .int .i64 D.wind, .slice A D.ns cA, .int .i64 D.pitch, .int .i64 D.roll, .int .i64 D.heave, .int .i64 D.fire, .slice A2 D.nh cB, .slice A3 D.nu cC] := (by repeat (first | (refine Blk.newAt _ _ _ ?_; first | rfl | (simp; done)) | refine Blk.alloc ?_ _))
    have bHB : Below w.heap.size w (w.alloc (.cells #[.int .i64 D.size, .int .i64 D.load, .int .i64 D.wind, .slice A D.ns cA, .int .i64 D.pitch, .int .i64 D.roll, .int .i64 D.heave, .int .i64 D.fire, .slice A2 D.nh cB, .slice A3 D.nu cC] 26)) := (by repeat' (first | exact Below.refl _ _ | assumption | refine Below.drew ?_ | refine bdn ?_ _ | refine bal ?_ _ | refine Below.setCell ?_ (by first | (simp; done) | omega | (simp; omega)) _))
    generalize (w.alloc (.cells #[.int .i64 D.size, .int .i64 D.load, .int .i64 D.wind, .slice A D.ns cA, .int .i64 D.pitch, .int .i64 D.roll, .int .i64 D.heave, .int .i64 D.fire, .slice A2 D.nh cB, .slice A3 D.nu cC] 26)) = W at *
    have zW := bHX.lt
    have HX := Lib.hid bHX
    have HB := Lib.hid bHB
    clear bHX bHB
    have zHX := HX.out.lt
    have cHX0 := HX.out.cell 0
    have cHX1 := HX.out.cell 1
    have cHX2 := HX.out.cell 2
    have cHX3 := HX.out.cell 3
    have cHX7 := HX.out.cell 7
    go_wp2_with (first | (go_at_call 33; (with_reducible refine (dwithin_c _ _ _ _).mono ?_); rintro e w1 ⟨rfl, rfl⟩))
    go_ret
    exact ⟨ret_int HER.out.symm, HB.out⟩
  cases b1 : inB D.load 1 1000000
  · have HER := Lib.hid (HEE.out.trans (de_err (der1 (der2 (der1 (by rw [b1]; rfl))))))
    go_enter Tryz.func36, Tryz.ntmps36
    go_wp2_with (fail)
    have bHX : Blk (w.alloc (.cells #[.int .i64 D.size, .int .i64 D.load, .int .i64 D.wind, .slice A D.ns cA, .int .i64 D.pitch, .int .i64 D.roll, .int .i64 D.heave, .int .i64 D.fire, .slice A2 D.nh cB, .slice A3 D.nu cC] 26)) (w.heap.size) 26 #[.int .i64 D.size, .int .i64 D.load, .int .i64 D.wind, .slice A D.ns cA, .int .i64 D.pitch, .int .i64 D.roll, .int .i64 D.heave, .int .i64 D.fire, .slice A2 D.nh cB, .slice A3 D.nu cC] := (by repeat (first | (refine Blk.newAt _ _ _ ?_; first | rfl | (simp; done)) | refine Blk.alloc ?_ _))
    have bHB : Below w.heap.size w (w.alloc (.cells #[.int .i64 D.size, .int .i64 D.load, .int .i64 D.wind, .slice A D.ns cA, .int .i64 D.pitch, .int .i64 D.roll, .int .i64 D.heave, .int .i64 D.fire, .slice A2 D.nh cB, .slice A3 D.nu cC] 26)) := (by repeat' (first | exact Below.refl _ _ | assumption | refine Below.drew ?_ | refine bdn ?_ _ | refine bal ?_ _ | refine Below.setCell ?_ (by first | (simp; done) | omega | (simp; omega)) _))
    generalize (w.alloc (.cells #[.int .i64 D.size, .int .i64 D.load, .int .i64 D.wind, .slice A D.ns cA, .int .i64 D.pitch, .int .i64 D.roll, .int .i64 D.heave, .int .i64 D.fire, .slice A2 D.nh cB, .slice A3 D.nu cC] 26)) = W at *
    have zW := bHX.lt
    have HX := Lib.hid bHX
    have HB := Lib.hid bHB
    clear bHX bHB
    have zHX := HX.out.lt
    have cHX0 := HX.out.cell 0
    have cHX1 := HX.out.cell 1
    have cHX2 := HX.out.cell 2
    have cHX3 := HX.out.cell 3
    have cHX7 := HX.out.cell 7
    go_wp2_with (first | (go_at_call 33; (with_reducible refine (dwithin_c _ _ _ _).mono ?_); rintro e w1 ⟨rfl, rfl⟩))
    go_ret
    exact ⟨ret_int HER.out.symm, HB.out⟩
  cases b2 : inB D.wind 0 300
  · have HER := Lib.hid (HEE.out.trans (de_err (der1 (der2 (der2 (der1 (by rw [b2]; rfl)))))))
    go_enter Tryz.func36, Tryz.ntmps36
    go_wp2_with (fail)
    have bHX : Blk (w.alloc (.cells #[.int .i64 D.size, .int .i64 D.load, .int .i64 D.wind, .slice A D.ns cA, .int .i64 D.pitch, .int .i64 D.roll, .int .i64 D.heave, .int .i64 D.fire, .slice A2 D.nh cB, .slice A3 D.nu cC] 26)) (w.heap.size) 26 #[.int .i64 D.size, .int .i64 D.load, .int .i64 D.wind, .slice A D.ns cA, .int .i64 D.pitch, .int .i64 D.roll, .int .i64 D.heave, .int .i64 D.fire, .slice A2 D.nh cB, .slice A3 D.nu cC] := (by repeat (first | (refine Blk.newAt _ _ _ ?_; first | rfl | (simp; done)) | refine Blk.alloc ?_ _))
    have bHB : Below w.heap.size w (w.alloc (.cells #[.int .i64 D.size, .int .i64 D.load, .int .i64 D.wind, .slice A D.ns cA, .int .i64 D.pitch, .int .i64 D.roll, .int .i64 D.heave, .int .i64 D.fire, .slice A2 D.nh cB, .slice A3 D.nu cC] 26)) := (by repeat' (first | exact Below.refl _ _ | assumption | refine Below.drew ?_ | refine bdn ?_ _ | refine bal ?_ _ | refine Below.setCell ?_ (by first | (simp; done) | omega | (simp; omega)) _))
    generalize (w.alloc (.cells #[.int .i64 D.size, .int .i64 D.load, .int .i64 D.wind, .slice A D.ns cA, .int .i64 D.pitch, .int .i64 D.roll, .int .i64 D.heave, .int .i64 D.fire, .slice A2 D.nh cB, .slice A3 D.nu cC] 26)) = W at *
    have zW := bHX.lt
    have HX := Lib.hid bHX
    have HB := Lib.hid bHB
    clear bHX bHB
    have zHX := HX.out.lt
    have cHX0 := HX.out.cell 0
    have cHX1 := HX.out.cell 1
    have cHX2 := HX.out.cell 2
    have cHX3 := HX.out.cell 3
    have cHX7 := HX.out.cell 7
    go_wp2_with (first | (go_at_call 33; (with_reducible refine (dwithin_c _ _ _ _).mono ?_); rintro e w1 ⟨rfl, rfl⟩))
    go_ret
    exact ⟨ret_int HER.out.symm, HB.out⟩
  cases b3 : inB D.fire 0 100
  · have HER := Lib.hid (HEE.out.trans (de_err (der1 (der2 (der2 (der2 (by rw [b3]; rfl)))))))
    go_enter Tryz.func36, Tryz.ntmps36
    go_wp2_with (fail)
    have bHX : Blk (w.alloc (.cells #[.int .i64 D.size, .int .i64 D.load, .int .i64 D.wind, .slice A D.ns cA, .int .i64 D.pitch, .int .i64 D.roll, .int .i64 D.heave, .int .i64 D.fire, .slice A2 D.nh cB, .slice A3 D.nu cC] 26)) (w.heap.size) 26 #[.int .i64 D.size, .int .i64 D.load, .int .i64 D.wind, .slice A D.ns cA, .int .i64 D.pitch, .int .i64 D.roll, .int .i64 D.heave, .int .i64 D.fire, .slice A2 D.nh cB, .slice A3 D.nu cC] := (by repeat (first | (refine Blk.newAt _ _ _ ?_; first | rfl | (simp; done)) | refine Blk.alloc ?_ _))
    have bHB : Below w.heap.size w (w.alloc (.cells #[.int .i64 D.size, .int .i64 D.load, .int .i64 D.wind, .slice A D.ns cA, .int .i64 D.pitch, .int .i64 D.roll, .int .i64 D.heave, .int .i64 D.fire, .slice A2 D.nh cB, .slice A3 D.nu cC] 26)) := (by repeat' (first | exact Below.refl _ _ | assumption | refine Below.drew ?_ | refine bdn ?_ _ | refine bal ?_ _ | refine Below.setCell ?_ (by first | (simp; done) | omega | (simp; omega)) _))
    generalize (w.alloc (.cells #[.int .i64 D.size, .int .i64 D.load, .int .i64 D.wind, .slice A D.ns cA, .int .i64 D.pitch, .int .i64 D.roll, .int .i64 D.heave, .int .i64 D.fire, .slice A2 D.nh cB, .slice A3 D.nu cC] 26)) = W at *
    have zW := bHX.lt
    have HX := Lib.hid bHX
    have HB := Lib.hid bHB
    clear bHX bHB
    have zHX := HX.out.lt
    have cHX0 := HX.out.cell 0
    have cHX1 := HX.out.cell 1
    have cHX2 := HX.out.cell 2
    have cHX3 := HX.out.cell 3
    have cHX7 := HX.out.cell 7
    go_wp2_with (first | (go_at_call 33; (with_reducible refine (dwithin_c _ _ _ _).mono ?_); rintro e w1 ⟨rfl, rfl⟩))
    go_ret
    exact ⟨ret_int HER.out.symm, HB.out⟩
  by_cases hn : 8 < D.ns
  · have HER := Lib.hid (HEE.out.trans (de_err (der2 (der1 (der1 (by simpa using hn))))))
    have hnz : (8 : Int) < (D.ns : Int) := by omega
    go_enter Tryz.func36, Tryz.ntmps36
    go_wp2_with (fail)
    have bHX : Blk (w.alloc (.cells #[.int .i64 D.size, .int .i64 D.load, .int .i64 D.wind, .slice A D.ns cA, .int .i64 D.pitch, .int .i64 D.roll, .int .i64 D.heave, .int .i64 D.fire, .slice A2 D.nh cB, .slice A3 D.nu cC] 26)) (w.heap.size) 26 #[.int .i64 D.size, .int .i64 D.load, .int .i64 D.wind, .slice A D.ns cA, .int .i64 D.pitch, .int .i64 D.roll, .int .i64 D.heave, .int .i64 D.fire, .slice A2 D.nh cB, .slice A3 D.nu cC] := (by repeat (first | (refine Blk.newAt _ _ _ ?_; first | rfl | (simp; done)) | refine Blk.alloc ?_ _))
    have bHB : Below w.heap.size w (w.alloc (.cells #[.int .i64 D.size, .int .i64 D.load, .int .i64 D.wind, .slice A D.ns cA, .int .i64 D.pitch, .int .i64 D.roll, .int .i64 D.heave, .int .i64 D.fire, .slice A2 D.nh cB, .slice A3 D.nu cC] 26)) := (by repeat' (first | exact Below.refl _ _ | assumption | refine Below.drew ?_ | refine bdn ?_ _ | refine bal ?_ _ | refine Below.setCell ?_ (by first | (simp; done) | omega | (simp; omega)) _))
    generalize (w.alloc (.cells #[.int .i64 D.size, .int .i64 D.load, .int .i64 D.wind, .slice A D.ns cA, .int .i64 D.pitch, .int .i64 D.roll, .int .i64 D.heave, .int .i64 D.fire, .slice A2 D.nh cB, .slice A3 D.nu cC] 26)) = W at *
    have zW := bHX.lt
    have HX := Lib.hid bHX
    have HB := Lib.hid bHB
    clear bHX bHB
    have zHX := HX.out.lt
    have cHX0 := HX.out.cell 0
    have cHX1 := HX.out.cell 1
    have cHX2 := HX.out.cell 2
    have cHX3 := HX.out.cell 3
    have cHX7 := HX.out.cell 7
    go_wp2_with (first | (go_at_call 33; (with_reducible refine (dwithin_c _ _ _ _).mono ?_); rintro e w1 ⟨rfl, rfl⟩))
    go_wp2_with (first | (go_at_call 69; (with_reducible refine (HCS.out _ (HD.out.below HB.out)).mono ?_); rintro e w1 ⟨rfl, hb1⟩; have nHX := Lib.hid (HX.out.below hb1); have nHB := Lib.hid (bthen HB.out hb1); have zz1 := hb1.size; clear HX HB hb1; have HX := nHX; have HB := nHB; clear nHX nHB; (try clear zHX); have zHX := HX.out.lt; (try clear cHX4); have cHX4 := HX.out.cell 4; (try clear cHX5); have cHX5 := HX.out.cell 5; (try clear cHX6); have cHX6 := HX.out.cell 6))
    go_ret
    exact ⟨ret_int HER.out.symm, HB.out⟩
  have hnz : ¬ (8 : Int) < (D.ns : Int) := by omega
  cases b4 : (List.range D.ns).any (fun k => seBad (D.S k 0) (D.S k 1) (D.S k 2))
  case true =>
    have HER := Lib.hid (HEE.out.trans (de_err (der2 (der1 (der2 (der1 b4))))))
    rw [b4] at hcs
    have HCS := Lib.hid hcs
    clear hcs hch hcu hci hsw b4
    go_enter Tryz.func36, Tryz.ntmps36
    go_wp2_with (fail)
    have bHX : Blk (w.alloc (.cells #[.int .i64 D.size, .int .i64 D.load, .int .i64 D.wind, .slice A D.ns cA, .int .i64 D.pitch, .int .i64 D.roll, .int .i64 D.heave, .int .i64 D.fire, .slice A2 D.nh cB, .slice A3 D.nu cC] 26)) (w.heap.size) 26 #[.int .i64 D.size, .int .i64 D.load, .int .i64 D.wind, .slice A D.ns cA, .int .i64 D.pitch, .int .i64 D.roll, .int .i64 D.heave, .int .i64 D.fire, .slice A2 D.nh cB, .slice A3 D.nu cC] := (by repeat (first | (refine Blk.newAt _ _ _ ?_; first | rfl | (simp; done)) | refine Blk.alloc ?_ _))
    have bHB : Below w.heap.size w (w.alloc (.cells #[.int .i64 D.size, .int .i64 D.load, .int .i64 D.wind, .slice A D.ns cA, .int .i64 D.pitch, .int .i64 D.roll, .int .i64 D.heave, .int .i64 D.fire, .slice A2 D.nh cB, .slice A3 D.nu cC] 26)) := (by repeat' (first | exact Below.refl _ _ | assumption | refine Below.drew ?_ | refine bdn ?_ _ | refine bal ?_ _ | refine Below.setCell ?_ (by first | (simp; done) | omega | (simp; omega)) _))
    generalize (w.alloc (.cells #[.int .i64 D.size, .int .i64 D.load, .int .i64 D.wind, .slice A D.ns cA, .int .i64 D.pitch, .int .i64 D.roll, .int .i64 D.heave, .int .i64 D.fire, .slice A2 D.nh cB, .slice A3 D.nu cC] 26)) = W at *
    have zW := bHX.lt
    have HX := Lib.hid bHX
    have HB := Lib.hid bHB
    clear bHX bHB
    have zHX := HX.out.lt
    have cHX0 := HX.out.cell 0
    have cHX1 := HX.out.cell 1
    have cHX2 := HX.out.cell 2
    have cHX3 := HX.out.cell 3
    have cHX7 := HX.out.cell 7
    go_wp2_with (first | (go_at_call 33; (with_reducible refine (dwithin_c _ _ _ _).mono ?_); rintro e w1 ⟨rfl, rfl⟩))
    go_wp2_with (first | (go_at_call 69; (with_reducible refine (HCS.out _ (HD.out.below HB.out)).mono ?_); rintro e w1 ⟨rfl, hb1⟩; have nHX := Lib.hid (HX.out.below hb1); have nHB := Lib.hid (bthen HB.out hb1); have zz1 := hb1.size; clear HX HB hb1; have HX := nHX; have HB := nHB; clear nHX nHB; (try clear zHX); have zHX := HX.out.lt; (try clear cHX4); have cHX4 := HX.out.cell 4; (try clear cHX5); have cHX5 := HX.out.cell 5; (try clear cHX6); have cHX6 := HX.out.cell 6))
    go_ret
    exact ⟨ret_int HER.out.symm, HB.out⟩
  rw [b4] at hcs
  have HCS := Lib.hid hcs
  clear hcs
  cases b5 : swB D.pitch D.roll D.heave
  case true =>
    have HER := Lib.hid (HEE.out.trans (de_err (der2 (der1 (der2 (der2 (by rw [← hsw]; exact b5)))))))
    rw [b5] at hci
    have HCI := Lib.hid hci
    clear hch hcu hci hsw b5 b4
    go_enter Tryz.func36, Tryz.ntmps36
    go_wp2_with (fail)
    have bHX : Blk (w.alloc (.cells #[.int .i64 D.size, .int .i64 D.load, .int .i64 D.wind, .slice A D.ns cA, .int .i64 D.pitch, .int .i64 D.roll, .int .i64 D.heave, .int .i64 D.fire, .slice A2 D.nh cB, .slice A3 D.nu cC] 26)) (w.heap.size) 26 #[.int .i64 D.size, .int .i64 D.load, .int .i64 D.wind, .slice A D.ns cA, .int .i64 D.pitch, .int .i64 D.roll, .int .i64 D.heave, .int .i64 D.fire, .slice A2 D.nh cB, .slice A3 D.nu cC] := (by repeat (first | (refine Blk.newAt _ _ _ ?_; first | rfl | (simp; done)) | refine Blk.alloc ?_ _))
    have bHB : Below w.heap.size w (w.alloc (.cells #[.int .i64 D.size, .int .i64 D.load, .int .i64 D.wind, .slice A D.ns cA, .int .i64 D.pitch, .int .i64 D.roll, .int .i64 D.heave, .int .i64 D.fire, .slice A2 D.nh cB, .slice A3 D.nu cC] 26)) := (by repeat' (first | exact Below.refl _ _ | assumption | refine Below.drew ?_ | refine bdn ?_ _ | refine bal ?_ _ | refine Below.setCell ?_ (by first | (simp; done) | omega | (simp; omega)) _))
    generalize (w.alloc (.cells #[.int .i64 D.size, .int .i64 D.load, .int .i64 D.wind, .slice A D.ns cA, .int .i64 D.pitch, .int .i64 D.roll, .int .i64 D.heave, .int .i64 D.fire, .slice A2 D.nh cB, .slice A3 D.nu cC] 26)) = W at *
    have zW := bHX.lt
    have HX := Lib.hid bHX
    have HB := Lib.hid bHB
    clear bHX bHB
    have zHX := HX.out.lt
    have cHX0 := HX.out.cell 0
    have cHX1 := HX.out.cell 1
    have cHX2 := HX.out.cell 2
    have cHX3 := HX.out.cell 3
    have cHX7 := HX.out.cell 7
    go_wp2_with (first | (go_at_call 33; (with_reducible refine (dwithin_c _ _ _ _).mono ?_); rintro e w1 ⟨rfl, rfl⟩))
    go_wp2_with (first | (go_at_call 69; (with_reducible refine (HCS.out _ (HD.out.below HB.out)).mono ?_); rintro e w1 ⟨rfl, hb1⟩; have nHX := Lib.hid (HX.out.below hb1); have nHB := Lib.hid (bthen HB.out hb1); have zz1 := hb1.size; clear HX HB hb1; have HX := nHX; have HB := nHB; clear nHX nHB; (try clear zHX); have zHX := HX.out.lt; (try clear cHX4); have cHX4 := HX.out.cell 4; (try clear cHX5); have cHX5 := HX.out.cell 5; (try clear cHX6); have cHX6 := HX.out.cell 6))
    refine (HCI.out _ _ _ (by first | (simp; done) | (rw [cell_new_at _ _ _ _ _ (by simp)]; first | rfl | (simp; done))) (by first | (simp; done) | (rw [cell_new_at _ _ _ _ _ (by simp)]; first | rfl | (simp; done))) (by first | (simp; done) | (rw [cell_new_at _ _ _ _ _ (by simp)]; first | rfl | (simp; done)))).mono ?_
    rintro _ w2 ⟨rfl, hb2'⟩
    have hb2 := bthen (bal (Below.refl w1.heap.size w1) _) hb2'
    clear hb2'
    have nHX := Lib.hid (HX.out.below hb2)
    have nHB := Lib.hid (bthen HB.out hb2)
    clear HX HB hb2
    have HX := nHX
    have HB := nHB
    clear nHX nHB
    have zHX := HX.out.lt
    have cHX8 := HX.out.cell 8
    go_wp2_with (first | (go_at_call 71; (with_reducible refine (HCH.out _ (HD.out.below HB.out)).mono ?_); rintro e w1 ⟨rfl, hb1⟩; have nHX := Lib.hid (HX.out.below hb1); have nHB := Lib.hid (bthen HB.out hb1); have zz1 := hb1.size; clear HX HB hb1; have HX := nHX; have HB := nHB; clear nHX nHB; (try clear zHX); have zHX := HX.out.lt; (try clear cHX9); have cHX9 := HX.out.cell 9) | (go_at_call 64; (with_reducible refine (HCU.out _ (HD.out.below HB.out)).mono ?_); rintro e w1 ⟨rfl, hb1⟩; have nHX := Lib.hid (HX.out.below hb1); have nHB := Lib.hid (bthen HB.out hb1); have zz1 := hb1.size; clear HX HB hb1; have HX := nHX; have HB := nHB; clear nHX nHB; (try clear zHX); have zHX := HX.out.lt; (try clear cHX9); have cHX9 := HX.out.cell 9))
    go_ret
    exact ⟨ret_int HER.out.symm, HB.out⟩
  rw [b5] at hci
  have HCI := Lib.hid hci
  clear hci
  by_cases hm : 12 < D.nh
  · have HER := Lib.hid (HEE.out.trans (de_err (der2 (der2 (der1 (der1 (by simpa using hm)))))))
    have hmz : (12 : Int) < (D.nh : Int) := by omega
    clear hch hcu hsw b4 b5
    go_enter Tryz.func36, Tryz.ntmps36
    go_wp2_with (fail)
    have bHX : Blk (w.alloc (.cells #[.int .i64 D.size, .int .i64 D.load, .int .i64 D.wind, .slice A D.ns cA, .int .i64 D.pitch, .int .i64 D.roll, .int .i64 D.heave, .int .i64 D.fire, .slice A2 D.nh cB, .slice A3 D.nu cC] 26)) (w.heap.size) 26 #[.int .i64 D.size, .int .i64 D.load, .int .i64 D.wind, .slice A D.ns cA, .int .i64 D.pitch, .int .i64 D.roll, .int .i64 D.heave, .int .i64 D.fire, .slice A2 D.nh cB, .slice A3 D.nu cC] := (by repeat (first | (refine Blk.newAt _ _ _ ?_; first | rfl | (simp; done)) | refine Blk.alloc ?_ _))
    have bHB : Below w.heap.size w (w.alloc (.cells #[.int .i64 D.size, .int .i64 D.load, .int .i64 D.wind, .slice A D.ns cA, .int .i64 D.pitch, .int .i64 D.roll, .int .i64 D.heave, .int .i64 D.fire, .slice A2 D.nh cB, .slice A3 D.nu cC] 26)) := (by repeat' (first | exact Below.refl _ _ | assumption | refine Below.drew ?_ | refine bdn ?_ _ | refine bal ?_ _ | refine Below.setCell ?_ (by first | (simp; done) | omega | (simp; omega)) _))
    generalize (w.alloc (.cells #[.int .i64 D.size, .int .i64 D.load, .int .i64 D.wind, .slice A D.ns cA, .int .i64 D.pitch, .int .i64 D.roll, .int .i64 D.heave, .int .i64 D.fire, .slice A2 D.nh cB, .slice A3 D.nu cC] 26)) = W at *
    have zW := bHX.lt
    have HX := Lib.hid bHX
    have HB := Lib.hid bHB
    clear bHX bHB
    have zHX := HX.out.lt
    have cHX0 := HX.out.cell 0
    have cHX1 := HX.out.cell 1
    have cHX2 := HX.out.cell 2
    have cHX3 := HX.out.cell 3
    have cHX7 := HX.out.cell 7
    go_wp2_with (first | (go_at_call 33; (with_reducible refine (dwithin_c _ _ _ _).mono ?_); rintro e w1 ⟨rfl, rfl⟩))
    go_wp2_with (first | (go_at_call 69; (with_reducible refine (HCS.out _ (HD.out.below HB.out)).mono ?_); rintro e w1 ⟨rfl, hb1⟩; have nHX := Lib.hid (HX.out.below hb1); have nHB := Lib.hid (bthen HB.out hb1); have zz1 := hb1.size; clear HX HB hb1; have HX := nHX; have HB := nHB; clear nHX nHB; (try clear zHX); have zHX := HX.out.lt; (try clear cHX4); have cHX4 := HX.out.cell 4; (try clear cHX5); have cHX5 := HX.out.cell 5; (try clear cHX6); have cHX6 := HX.out.cell 6))
    refine (HCI.out _ _ _ (by first | (simp; done) | (rw [cell_new_at _ _ _ _ _ (by simp)]; first | rfl | (simp; done))) (by first | (simp; done) | (rw [cell_new_at _ _ _ _ _ (by simp)]; first | rfl | (simp; done))) (by first | (simp; done) | (rw [cell_new_at _ _ _ _ _ (by simp)]; first | rfl | (simp; done)))).mono ?_
    rintro _ w2 ⟨rfl, hb2'⟩
    have hb2 := bthen (bal (Below.refl w1.heap.size w1) _) hb2'
    clear hb2'
    have nHX := Lib.hid (HX.out.below hb2)
    have nHB := Lib.hid (bthen HB.out hb2)
    clear HX HB hb2
    have HX := nHX
    have HB := nHB
    clear nHX nHB
    have zHX := HX.out.lt
    have cHX8 := HX.out.cell 8
    go_wp2_with (first | (go_at_call 71; (with_reducible refine (HCH.out _ (HD.out.below HB.out)).mono ?_); rintro e w1 ⟨rfl, hb1⟩; have nHX := Lib.hid (HX.out.below hb1); have nHB := Lib.hid (bthen HB.out hb1); have zz1 := hb1.size; clear HX HB hb1; have HX := nHX; have HB := nHB; clear nHX nHB; (try clear zHX); have zHX := HX.out.lt; (try clear cHX9); have cHX9 := HX.out.cell 9) | (go_at_call 64; (with_reducible refine (HCU.out _ (HD.out.below HB.out)).mono ?_); rintro e w1 ⟨rfl, hb1⟩; have nHX := Lib.hid (HX.out.below hb1); have nHB := Lib.hid (bthen HB.out hb1); have zz1 := hb1.size; clear HX HB hb1; have HX := nHX; have HB := nHB; clear nHX nHB; (try clear zHX); have zHX := HX.out.lt; (try clear cHX9); have cHX9 := HX.out.cell 9))
    go_ret
    exact ⟨ret_int HER.out.symm, HB.out⟩
  have hmz : ¬ (12 : Int) < (D.nh : Int) := by omega
  cases b6 : (List.range D.nh).any (fun k => shBad (D.H k 0) (D.H k 1) (D.H k 2))
  case true =>
    have HER := Lib.hid (HEE.out.trans (de_err (der2 (der2 (der1 (der2 b6))))))
    rw [b6] at hch
    have HCH := Lib.hid hch
    clear hch hcu hsw b4 b5 b6
    go_enter Tryz.func36, Tryz.ntmps36
    go_wp2_with (fail)
    have bHX : Blk (w.alloc (.cells #[.int .i64 D.size, .int .i64 D.load, .int .i64 D.wind, .slice A D.ns cA, .int .i64 D.pitch, .int .i64 D.roll, .int .i64 D.heave, .int .i64 D.fire, .slice A2 D.nh cB, .slice A3 D.nu cC] 26)) (w.heap.size) 26 #[.int .i64 D.size, .int .i64 D.load, .int .i64 D.wind, .slice A D.ns cA, .int .i64 D.pitch, .int .i64 D.roll, .int .i64 D.heave, .int .i64 D.fire, .slice A2 D.nh cB, .slice A3 D.nu cC] := (by repeat (first | (refine Blk.newAt _ _ _ ?_; first | rfl | (simp; done)) | refine Blk.alloc ?_ _))
    have bHB : Below w.heap.size w (w.alloc (.cells #[.int .i64 D.size, .int .i64 D.load, .int .i64 D.wind, .slice A D.ns cA, .int .i64 D.pitch, .int .i64 D.roll, .int .i64 D.heave, .int .i64 D.fire, .slice A2 D.nh cB, .slice A3 D.nu cC] 26)) := (by repeat' (first | exact Below.refl _ _ | assumption | refine Below.drew ?_ | refine bdn ?_ _ | refine bal ?_ _ | refine Below.setCell ?_ (by first | (simp; done) | omega | (simp; omega)) _))
    generalize (w.alloc (.cells #[.int .i64 D.size, .int .i64 D.load, .int .i64 D.wind, .slice A D.ns cA, .int .i64 D.pitch, .int .i64 D.roll, .int .i64 D.heave, .int .i64 D.fire, .slice A2 D.nh cB, .slice A3 D.nu cC] 26)) = W at *
    have zW := bHX.lt
    have HX := Lib.hid bHX
    have HB := Lib.hid bHB
    clear bHX bHB
    have zHX := HX.out.lt
    have cHX0 := HX.out.cell 0
    have cHX1 := HX.out.cell 1
    have cHX2 := HX.out.cell 2
    have cHX3 := HX.out.cell 3
    have cHX7 := HX.out.cell 7
    go_wp2_with (first | (go_at_call 33; (with_reducible refine (dwithin_c _ _ _ _).mono ?_); rintro e w1 ⟨rfl, rfl⟩))
    go_wp2_with (first | (go_at_call 69; (with_reducible refine (HCS.out _ (HD.out.below HB.out)).mono ?_); rintro e w1 ⟨rfl, hb1⟩; have nHX := Lib.hid (HX.out.below hb1); have nHB := Lib.hid (bthen HB.out hb1); have zz1 := hb1.size; clear HX HB hb1; have HX := nHX; have HB := nHB; clear nHX nHB; (try clear zHX); have zHX := HX.out.lt; (try clear cHX4); have cHX4 := HX.out.cell 4; (try clear cHX5); have cHX5 := HX.out.cell 5; (try clear cHX6); have cHX6 := HX.out.cell 6))
    refine (HCI.out _ _ _ (by first | (simp; done) | (rw [cell_new_at _ _ _ _ _ (by simp)]; first | rfl | (simp; done))) (by first | (simp; done) | (rw [cell_new_at _ _ _ _ _ (by simp)]; first | rfl | (simp; done))) (by first | (simp; done) | (rw [cell_new_at _ _ _ _ _ (by simp)]; first | rfl | (simp; done)))).mono ?_
    rintro _ w2 ⟨rfl, hb2'⟩
    have hb2 := bthen (bal (Below.refl w1.heap.size w1) _) hb2'
    clear hb2'
    have nHX := Lib.hid (HX.out.below hb2)
    have nHB := Lib.hid (bthen HB.out hb2)
    clear HX HB hb2
    have HX := nHX
    have HB := nHB
    clear nHX nHB
    have zHX := HX.out.lt
    have cHX8 := HX.out.cell 8
    go_wp2_with (first | (go_at_call 71; (with_reducible refine (HCH.out _ (HD.out.below HB.out)).mono ?_); rintro e w1 ⟨rfl, hb1⟩; have nHX := Lib.hid (HX.out.below hb1); have nHB := Lib.hid (bthen HB.out hb1); have zz1 := hb1.size; clear HX HB hb1; have HX := nHX; have HB := nHB; clear nHX nHB; (try clear zHX); have zHX := HX.out.lt; (try clear cHX9); have cHX9 := HX.out.cell 9) | (go_at_call 64; (with_reducible refine (HCU.out _ (HD.out.below HB.out)).mono ?_); rintro e w1 ⟨rfl, hb1⟩; have nHX := Lib.hid (HX.out.below hb1); have nHB := Lib.hid (bthen HB.out hb1); have zz1 := hb1.size; clear HX HB hb1; have HX := nHX; have HB := nHB; clear nHX nHB; (try clear zHX); have zHX := HX.out.lt; (try clear cHX9); have cHX9 := HX.out.cell 9))
    go_ret
    exact ⟨ret_int HER.out.symm, HB.out⟩
  rw [b6] at hch
  have HCH := Lib.hid hch
  clear hch
  by_cases hu : 12 < D.nu
  · have HER := Lib.hid (HEE.out.trans (de_err (der2 (der2 (der2 (der1 (by simpa using hu)))))))
    have huz : (12 : Int) < (D.nu : Int) := by omega
    clear hcu hsw b4 b5 b6
    go_enter Tryz.func36, Tryz.ntmps36
    go_wp2_with (fail)
    have bHX : Blk (w.alloc (.cells #[.int .i64 D.size, .int .i64 D.load, .int .i64 D.wind, .slice A D.ns cA, .int .i64 D.pitch, .int .i64 D.roll, .int .i64 D.heave, .int .i64 D.fire, .slice A2 D.nh cB, .slice A3 D.nu cC] 26)) (w.heap.size) 26 #[.int .i64 D.size, .int .i64 D.load, .int .i64 D.wind, .slice A D.ns cA, .int .i64 D.pitch, .int .i64 D.roll, .int .i64 D.heave, .int .i64 D.fire, .slice A2 D.nh cB, .slice A3 D.nu cC] := (by repeat (first | (refine Blk.newAt _ _ _ ?_; first | rfl | (simp; done)) | refine Blk.alloc ?_ _))
    have bHB : Below w.heap.size w (w.alloc (.cells #[.int .i64 D.size, .int .i64 D.load, .int .i64 D.wind, .slice A D.ns cA, .int .i64 D.pitch, .int .i64 D.roll, .int .i64 D.heave, .int .i64 D.fire, .slice A2 D.nh cB, .slice A3 D.nu cC] 26)) := (by repeat' (first | exact Below.refl _ _ | assumption | refine Below.drew ?_ | refine bdn ?_ _ | refine bal ?_ _ | refine Below.setCell ?_ (by first | (simp; done) | omega | (simp; omega)) _))
    generalize (w.alloc (.cells #[.int .i64 D.size, .int .i64 D.load, .int .i64 D.wind, .slice A D.ns cA, .int .i64 D.pitch, .int .i64 D.roll, .int .i64 D.heave, .int .i64 D.fire, .slice A2 D.nh cB, .slice A3 D.nu cC] 26)) = W at *
    have zW := bHX.lt
    have HX := Lib.hid bHX
    have HB := Lib.hid bHB
    clear bHX bHB
    have zHX := HX.out.lt
    have cHX0 := HX.out.cell 0
    have cHX1 := HX.out.cell 1
    have cHX2 := HX.out.cell 2
    have cHX3 := HX.out.cell 3
    have cHX7 := HX.out.cell 7
    go_wp2_with (first | (go_at_call 33; (with_reducible refine (dwithin_c _ _ _ _).mono ?_); rintro e w1 ⟨rfl, rfl⟩))
    go_wp2_with (first | (go_at_call 69; (with_reducible refine (HCS.out _ (HD.out.below HB.out)).mono ?_); rintro e w1 ⟨rfl, hb1⟩; have nHX := Lib.hid (HX.out.below hb1); have nHB := Lib.hid (bthen HB.out hb1); have zz1 := hb1.size; clear HX HB hb1; have HX := nHX; have HB := nHB; clear nHX nHB; (try clear zHX); have zHX := HX.out.lt; (try clear cHX4); have cHX4 := HX.out.cell 4; (try clear cHX5); have cHX5 := HX.out.cell 5; (try clear cHX6); have cHX6 := HX.out.cell 6))
    refine (HCI.out _ _ _ (by first | (simp; done) | (rw [cell_new_at _ _ _ _ _ (by simp)]; first | rfl | (simp; done))) (by first | (simp; done) | (rw [cell_new_at _ _ _ _ _ (by simp)]; first | rfl | (simp; done))) (by first | (simp; done) | (rw [cell_new_at _ _ _ _ _ (by simp)]; first | rfl | (simp; done)))).mono ?_
    rintro _ w2 ⟨rfl, hb2'⟩
    have hb2 := bthen (bal (Below.refl w1.heap.size w1) _) hb2'
    clear hb2'
    have nHX := Lib.hid (HX.out.below hb2)
    have nHB := Lib.hid (bthen HB.out hb2)
    clear HX HB hb2
    have HX := nHX
    have HB := nHB
    clear nHX nHB
    have zHX := HX.out.lt
    have cHX8 := HX.out.cell 8
    go_wp2_with (first | (go_at_call 71; (with_reducible refine (HCH.out _ (HD.out.below HB.out)).mono ?_); rintro e w1 ⟨rfl, hb1⟩; have nHX := Lib.hid (HX.out.below hb1); have nHB := Lib.hid (bthen HB.out hb1); have zz1 := hb1.size; clear HX HB hb1; have HX := nHX; have HB := nHB; clear nHX nHB; (try clear zHX); have zHX := HX.out.lt; (try clear cHX9); have cHX9 := HX.out.cell 9) | (go_at_call 64; (with_reducible refine (HCU.out _ (HD.out.below HB.out)).mono ?_); rintro e w1 ⟨rfl, hb1⟩; have nHX := Lib.hid (HX.out.below hb1); have nHB := Lib.hid (bthen HB.out hb1); have zz1 := hb1.size; clear HX HB hb1; have HX := nHX; have HB := nHB; clear nHX nHB; (try clear zHX); have zHX := HX.out.lt; (try clear cHX9); have cHX9 := HX.out.cell 9))
    go_ret
    exact ⟨ret_int HER.out.symm, HB.out⟩
  have huz : ¬ (12 : Int) < (D.nu : Int) := by omega
  cases b7 : (List.range D.nu).any (fun k => !insB (D.U k 0) (D.U k 1) 2000)
  case true =>
    have HER := Lib.hid (HEE.out.trans (de_err (der2 (der2 (der2 (der2 b7))))))
    rw [b7] at hcu
    have HCU := Lib.hid hcu
    clear hcu hsw b4 b5 b6 b7
    go_enter Tryz.func36, Tryz.ntmps36
    go_wp2_with (fail)
    have bHX : Blk (w.alloc (.cells #[.int .i64 D.size, .int .i64 D.load, .int .i64 D.wind, .slice A D.ns cA, .int .i64 D.pitch, .int .i64 D.roll, .int .i64 D.heave, .int .i64 D.fire, .slice A2 D.nh cB, .slice A3 D.nu cC] 26)) (w.heap.size) 26 #[.int .i64 D.size, .int .i64 D.load, .int .i64 D.wind, .slice A D.ns cA, .int .i64 D.pitch, .int .i64 D.roll, .int .i64 D.heave, .int .i64 D.fire, .slice A2 D.nh cB, .slice A3 D.nu cC] := (by repeat (first | (refine Blk.newAt _ _ _ ?_; first | rfl | (simp; done)) | refine Blk.alloc ?_ _))
    have bHB : Below w.heap.size w (w.alloc (.cells #[.int .i64 D.size, .int .i64 D.load, .int .i64 D.wind, .slice A D.ns cA, .int .i64 D.pitch, .int .i64 D.roll, .int .i64 D.heave, .int .i64 D.fire, .slice A2 D.nh cB, .slice A3 D.nu cC] 26)) := (by repeat' (first | exact Below.refl _ _ | assumption | refine Below.drew ?_ | refine bdn ?_ _ | refine bal ?_ _ | refine Below.setCell ?_ (by first | (simp; done) | omega | (simp; omega)) _))
    generalize (w.alloc (.cells #[.int .i64 D.size, .int .i64 D.load, .int .i64 D.wind, .slice A D.ns cA, .int .i64 D.pitch, .int .i64 D.roll, .int .i64 D.heave, .int .i64 D.fire, .slice A2 D.nh cB, .slice A3 D.nu cC] 26)) = W at *
    have zW := bHX.lt
    have HX := Lib.hid bHX
    have HB := Lib.hid bHB
    clear bHX bHB
    have zHX := HX.out.lt
    have cHX0 := HX.out.cell 0
    have cHX1 := HX.out.cell 1
    have cHX2 := HX.out.cell 2
    have cHX3 := HX.out.cell 3
    have cHX7 := HX.out.cell 7
    go_wp2_with (first | (go_at_call 33; (with_reducible refine (dwithin_c _ _ _ _).mono ?_); rintro e w1 ⟨rfl, rfl⟩))
    go_wp2_with (first | (go_at_call 69; (with_reducible refine (HCS.out _ (HD.out.below HB.out)).mono ?_); rintro e w1 ⟨rfl, hb1⟩; have nHX := Lib.hid (HX.out.below hb1); have nHB := Lib.hid (bthen HB.out hb1); have zz1 := hb1.size; clear HX HB hb1; have HX := nHX; have HB := nHB; clear nHX nHB; (try clear zHX); have zHX := HX.out.lt; (try clear cHX4); have cHX4 := HX.out.cell 4; (try clear cHX5); have cHX5 := HX.out.cell 5; (try clear cHX6); have cHX6 := HX.out.cell 6))
    refine (HCI.out _ _ _ (by first | (simp; done) | (rw [cell_new_at _ _ _ _ _ (by simp)]; first | rfl | (simp; done))) (by first | (simp; done) | (rw [cell_new_at _ _ _ _ _ (by simp)]; first | rfl | (simp; done))) (by first | (simp; done) | (rw [cell_new_at _ _ _ _ _ (by simp)]; first | rfl | (simp; done)))).mono ?_
    rintro _ w2 ⟨rfl, hb2'⟩
    have hb2 := bthen (bal (Below.refl w1.heap.size w1) _) hb2'
    clear hb2'
    have nHX := Lib.hid (HX.out.below hb2)
    have nHB := Lib.hid (bthen HB.out hb2)
    clear HX HB hb2
    have HX := nHX
    have HB := nHB
    clear nHX nHB
    have zHX := HX.out.lt
    have cHX8 := HX.out.cell 8
    go_wp2_with (first | (go_at_call 71; (with_reducible refine (HCH.out _ (HD.out.below HB.out)).mono ?_); rintro e w1 ⟨rfl, hb1⟩; have nHX := Lib.hid (HX.out.below hb1); have nHB := Lib.hid (bthen HB.out hb1); have zz1 := hb1.size; clear HX HB hb1; have HX := nHX; have HB := nHB; clear nHX nHB; (try clear zHX); have zHX := HX.out.lt; (try clear cHX9); have cHX9 := HX.out.cell 9) | (go_at_call 64; (with_reducible refine (HCU.out _ (HD.out.below HB.out)).mono ?_); rintro e w1 ⟨rfl, hb1⟩; have nHX := Lib.hid (HX.out.below hb1); have nHB := Lib.hid (bthen HB.out hb1); have zz1 := hb1.size; clear HX HB hb1; have HX := nHX; have HB := nHB; clear nHX nHB; (try clear zHX); have zHX := HX.out.lt; (try clear cHX9); have cHX9 := HX.out.cell 9))
    go_ret
    exact ⟨ret_int HER.out.symm, HB.out⟩
  rw [b7] at hcu
  have HCU := Lib.hid hcu
  have HER := Lib.hid (HEE.out.trans (show D.err = 0 from by
    unfold DekD.err DekD.bad
    rw [b0, b1, b2, b3, b4, b6, b7, ← hsw, b5, decide_eq_false hn, decide_eq_false hm, decide_eq_false hu]
    rfl))
  clear hcu hsw b4 b5 b6 b7
  go_enter Tryz.func36, Tryz.ntmps36
  go_wp2_with (fail)
  have bHX : Blk (w.alloc (.cells #[.int .i64 D.size, .int .i64 D.load, .int .i64 D.wind, .slice A D.ns cA, .int .i64 D.pitch, .int .i64 D.roll, .int .i64 D.heave, .int .i64 D.fire, .slice A2 D.nh cB, .slice A3 D.nu cC] 26)) (w.heap.size) 26 #[.int .i64 D.size, .int .i64 D.load, .int .i64 D.wind, .slice A D.ns cA, .int .i64 D.pitch, .int .i64 D.roll, .int .i64 D.heave, .int .i64 D.fire, .slice A2 D.nh cB, .slice A3 D.nu cC] := (by repeat (first | (refine Blk.newAt _ _ _ ?_; first | rfl | (simp; done)) | refine Blk.alloc ?_ _))
  have bHB : Below w.heap.size w (w.alloc (.cells #[.int .i64 D.size, .int .i64 D.load, .int .i64 D.wind, .slice A D.ns cA, .int .i64 D.pitch, .int .i64 D.roll, .int .i64 D.heave, .int .i64 D.fire, .slice A2 D.nh cB, .slice A3 D.nu cC] 26)) := (by repeat' (first | exact Below.refl _ _ | assumption | refine Below.drew ?_ | refine bdn ?_ _ | refine bal ?_ _ | refine Below.setCell ?_ (by first | (simp; done) | omega | (simp; omega)) _))
  generalize (w.alloc (.cells #[.int .i64 D.size, .int .i64 D.load, .int .i64 D.wind, .slice A D.ns cA, .int .i64 D.pitch, .int .i64 D.roll, .int .i64 D.heave, .int .i64 D.fire, .slice A2 D.nh cB, .slice A3 D.nu cC] 26)) = W at *
  have zW := bHX.lt
  have HX := Lib.hid bHX
  have HB := Lib.hid bHB
  clear bHX bHB
  have zHX := HX.out.lt
  have cHX0 := HX.out.cell 0
  have cHX1 := HX.out.cell 1
  have cHX2 := HX.out.cell 2
  have cHX3 := HX.out.cell 3
  have cHX7 := HX.out.cell 7
  go_wp2_with (first | (go_at_call 33; (with_reducible refine (dwithin_c _ _ _ _).mono ?_); rintro e w1 ⟨rfl, rfl⟩))
  go_wp2_with (first | (go_at_call 69; (with_reducible refine (HCS.out _ (HD.out.below HB.out)).mono ?_); rintro e w1 ⟨rfl, hb1⟩; have nHX := Lib.hid (HX.out.below hb1); have nHB := Lib.hid (bthen HB.out hb1); have zz1 := hb1.size; clear HX HB hb1; have HX := nHX; have HB := nHB; clear nHX nHB; (try clear zHX); have zHX := HX.out.lt; (try clear cHX4); have cHX4 := HX.out.cell 4; (try clear cHX5); have cHX5 := HX.out.cell 5; (try clear cHX6); have cHX6 := HX.out.cell 6))
  refine (HCI.out _ _ _ (by first | (simp; done) | (rw [cell_new_at _ _ _ _ _ (by simp)]; first | rfl | (simp; done))) (by first | (simp; done) | (rw [cell_new_at _ _ _ _ _ (by simp)]; first | rfl | (simp; done))) (by first | (simp; done) | (rw [cell_new_at _ _ _ _ _ (by simp)]; first | rfl | (simp; done)))).mono ?_
  rintro _ w2 ⟨rfl, hb2'⟩
  have hb2 := bthen (bal (Below.refl w1.heap.size w1) _) hb2'
  clear hb2'
  have nHX := Lib.hid (HX.out.below hb2)
  have nHB := Lib.hid (bthen HB.out hb2)
  clear HX HB hb2
  have HX := nHX
  have HB := nHB
  clear nHX nHB
  have zHX := HX.out.lt
  have cHX8 := HX.out.cell 8
  go_wp2_with (first | (go_at_call 71; (with_reducible refine (HCH.out _ (HD.out.below HB.out)).mono ?_); rintro e w1 ⟨rfl, hb1⟩; have nHX := Lib.hid (HX.out.below hb1); have nHB := Lib.hid (bthen HB.out hb1); have zz1 := hb1.size; clear HX HB hb1; have HX := nHX; have HB := nHB; clear nHX nHB; (try clear zHX); have zHX := HX.out.lt; (try clear cHX9); have cHX9 := HX.out.cell 9) | (go_at_call 64; (with_reducible refine (HCU.out _ (HD.out.below HB.out)).mono ?_); rintro e w1 ⟨rfl, hb1⟩; have nHX := Lib.hid (HX.out.below hb1); have nHB := Lib.hid (bthen HB.out hb1); have zz1 := hb1.size; clear HX HB hb1; have HX := nHX; have HB := nHB; clear nHX nHB; (try clear zHX); have zHX := HX.out.lt; (try clear cHX9); have cHX9 := HX.out.cell 9))
  go_ret
  exact ⟨ret_int HER.out.symm, HB.out⟩
end Go.Proofs.YtafkifjebimdaaaGreat
