/- Texts joined: JAP. -/
import Derived.Test.YtlambeiafdpkgaaGreatJAN
import Derived.Lib.AppendZerosOnto
import Derived.Test.YtlambeiafdpkgaaGreatWeG
set_option linter.all false
namespace Go.Proofs.YtlambeiafdpkgaaGreat
open Go Go.RowKit Go.Proofs
set_option maxRecDepth 100000
set_option maxHeartbeats 8000000
theorem Tryz.entD1 : ∀ args w, (callFunc 129 args).run Tryz.prog w = .ok (.enter 129 args) w := enters_of Tryz.func129 (by kernel_rfl) rfl
theorem Tryz.entD2 : ∀ args w, (callFunc 130 args).run Tryz.prog w = .ok (.enter 130 args) w := enters_of Tryz.func130 (by kernel_rfl) rfl
theorem Tryz.entD3 : ∀ args w, (callFunc 131 args).run Tryz.prog w = .ok (.enter 131 args) w := enters_of Tryz.func131 (by kernel_rfl) rfl
theorem Tryz.entD4 : ∀ args w, (callFunc 134 args).run Tryz.prog w = .ok (.enter 134 args) w := enters_of Tryz.func134 (by kernel_rfl) rfl
theorem deSec_c (f t x : Int) (w : World) : Calls Tryz.prog 129 #[.agg #[.int .i64 f, .int .i64 t, .int .i64 x]] w fun e w' => e = .returned (.bool (seBad f t x)) ∧ Below w.heap.size w w' := by
 unfold seBad
 cases h1 : inB f 0 359 <;> cases h2 : inB t 0 359
 all_goals
  go_enter Tryz.func129, Tryz.ntmps129
  go_wp2_with (first | (go_at_call 34; (with_reducible refine (dwithin_c _ _ _ _).mono ?_); rintro e w1 ⟨rfl, rfl⟩))
  go_ret
  exact ⟨rfl, (by repeat' (first | exact Below.refl _ _ | assumption | refine Below.drew ?_ | refine bdn ?_ _ | refine bal ?_ _ | refine Below.setCell ?_ (by first | (simp; done) | omega | (simp; omega)) _))⟩
theorem deShi_c (f t x : Int) (w : World) : Calls Tryz.prog 130 #[.agg #[.int .i64 f, .int .i64 t, .int .i64 x]] w fun e w' => e = .returned (.bool (shBad f t x)) ∧ Below w.heap.size w w' := by
 unfold shBad
 have h1 := fun w1 => dstretch_c f t w1
 generalize stB f t = B at *
 have H1 := hI9 h1
 clear h1
 cases B
 all_goals
  go_enter Tryz.func130, Tryz.ntmps130
  go_wp2_with (first | (go_at_call 28; (with_reducible refine (H1.out _).mono ?_); rintro e w1 ⟨rfl, rfl⟩) | (go_at_call 34; (with_reducible refine (dwithin_c _ _ _ _).mono ?_); rintro e w1 ⟨rfl, rfl⟩))
  go_ret
  exact ⟨rfl, (by repeat' (first | exact Below.refl _ _ | assumption | refine Below.drew ?_ | refine bdn ?_ _ | refine bal ?_ _ | refine Below.setCell ?_ (by first | (simp; done) | omega | (simp; omega)) _))⟩
theorem deSw_c (n : Int) (w : World) : Calls Tryz.prog 131 #[.int .i64 n] w fun e w' => e = .returned (.bool (!inB n 0 300)) ∧ w = w' := by
 go_enter Tryz.func131, Tryz.ntmps131
 go_wp2_with (first | (go_at_call 34; (with_reducible refine (dwithin_c _ _ _ _).mono ?_); rintro e w1 ⟨rfl, rfl⟩))
 go_ret
 exact ⟨rfl, rfl⟩
theorem deShu_c (lo hi : Int) (w : World) : Calls Tryz.prog 134 #[.agg #[.int .i64 lo, .int .i64 hi]] w fun e w' => e = .returned (.bool (!insB lo hi 2000)) ∧ Below w.heap.size w w' := by
 have h1 := fun w1 => dinside_c lo hi 2000 w1
 generalize insB lo hi 2000 = B at *
 have H1 := hI9 h1
 clear h1
 go_enter Tryz.func134, Tryz.ntmps134
 go_wp2_with (first | (go_at_call 135; (with_reducible refine (H1.out _).mono ?_); rintro e w1 ⟨rfl, hb1⟩; have hB1 := bthen (show Below w.heap.size w _ from (by repeat' (first | exact Below.refl _ _ | assumption | refine Below.drew ?_ | refine bdn ?_ _ | refine bal ?_ _ | refine Below.setCell ?_ (by first | (simp; done) | omega | (simp; omega)) _))) hb1; have hz1 := hb1.size; (try simp at hz1); obtain ⟨hc1, hf1⟩ := bcell hb1; first | (have hE1 := bthen2 hE (by repeat' (first | exact Below.refl _ _ | refine Below.drew ?_ | refine bdn ?_ _ | refine bal ?_ _ | refine Below.setCell ?_ (by first | (simp; done) | omega | (simp; omega)) _)) hb1; clear hE; have hE := hE1; clear hE1; obtain ⟨hd1, hg1⟩ := bcell hE) | (have hE := hb1)))
 go_ret
 exact ⟨rfl, (by repeat' (first | exact Below.refl _ _ | assumption | refine Below.drew ?_ | refine bdn ?_ _ | refine bal ?_ _ | refine Below.setCell ?_ (by first | (simp; done) | omega | (simp; omega)) _))⟩
def swB (a b c : Int) : Bool := !inB a 0 300 || (!inB b 0 300 || !inB c 0 300)
theorem cfSw_c (b c : Nat) (m1 m2 m3 : Int) (w : World) (h0 : w.cell? ⟨b, 0, none⟩ = some (.int .i64 m1)) (h1 : w.cell? ⟨b, 1, none⟩ = some (.int .i64 m2)) (h2 : w.cell? ⟨b, 2, none⟩ = some (.int .i64 m3)) :
  Calls Tryz.prog 65 #[.slice (some ⟨b, 0, none⟩) 3 c, .func (.func 131) #[] #[]] w fun e w' => e = .returned (.bool (swB m1 m2 m3)) ∧ Below w.heap.size w w' := by
 have h := cfInt_c (some ⟨b, 0, none⟩) 3 c (fun k => if k = 0 then m1 else if k = 1 then m2 else m3) 131 #[] (fun k => !inB (if k = 0 then m1 else if k = 1 then m2 else m3) 0 300) w (by omega) Tryz.entD3
  (fun _ => ⟨b, 0, rfl, blk_lt h0, fun k hk => by
   rcases (show k = 0 ∨ k = 1 ∨ k = 2 by omega) with rfl | rfl | rfl
   ·simpa using h0
   ·simpa using h1
   ·simpa using h2⟩)
  (fun w1 k hk hb => by
   refine (deSw_c _ w1).mono ?_
   rintro _ _ ⟨rfl, rfl⟩
   exact ⟨rfl, Below.refl _ _⟩)
 have e : (List.range 3).any (fun k => !inB (if k = 0 then m1 else if k = 1 then m2 else m3) 0 300) = swB m1 m2 m3 := by simp [List.range_succ, swB]
 rw [e] at h
 exact h
theorem der1 {a b : Bool} (h : a = true) : (a || b) = true := by rw [h]; rfl
theorem der2 {a b : Bool} (h : b = true) : (a || b) = true := by rw [h]; cases a <;> rfl
theorem de_err {D : DekD} (h : D.bad = true) : D.err = 60 := by unfold DekD.err; rw [h]; rfl
theorem dCheck_c (D : DekD) (vA vB vC : Value) (w : World) (hD : DekAt w vA vB vC D) :
  Calls Tryz.prog 92 #[.agg #[.int .i64 D.size, .int .i64 D.load, .int .i64 D.wind, vA, .int .i64 D.pitch, .int .i64 D.roll, .int .i64 D.heave, .int .i64 D.fire, vB, vC]] w fun e w' => e = .returned (.int .i64 D.err) ∧ Below w.heap.size w w' := by
 have HD := hI9 hD
 obtain ⟨A, cA, rfl, hA1, hA2, -⟩ := hD.s.e
 obtain ⟨A2, cB, rfl, hB1, hB2, -⟩ := hD.h.e
 obtain ⟨A3, cC, rfl, hC1, hC2, -⟩ := hD.u.e
 clear hD
 have hcs := fun w1 (h : DekAt w1 (.slice A D.ns cA) (.slice A2 D.nh cB) (.slice A3 D.nu cC) D) => cfSec_c A D.ns cA D.S 129 #[] (fun k => seBad (D.S k 0) (D.S k 1) (D.S k 2)) w1 (by omega) Tryz.entD1 (SecsAt.of (by obtain ⟨A', c', e, -, -, h⟩ := h.s.e; simp only [Value.slice.injEq] at e; obtain ⟨rfl, -, rfl⟩ := e; exact h)) (fun w2 k hk hb => deSec_c _ _ _ w2)
 have hch := fun w1 (h : DekAt w1 (.slice A D.ns cA) (.slice A2 D.nh cB) (.slice A3 D.nu cC) D) => cfShi_c A2 D.nh cB D.H 130 #[] (fun k => shBad (D.H k 0) (D.H k 1) (D.H k 2)) w1 (by omega) Tryz.entD2 (ShisAt.of (by obtain ⟨A', c', e, -, -, h⟩ := h.h.e; simp only [Value.slice.injEq] at e; obtain ⟨rfl, -, rfl⟩ := e; exact h)) (fun w2 k hk hb => deShi_c _ _ _ w2)
 have hcu := fun w1 (h : DekAt w1 (.slice A D.ns cA) (.slice A2 D.nh cB) (.slice A3 D.nu cC) D) => cfSpan_c A3 D.nu cC (fun k => D.U k 0) (fun k => D.U k 1) 134 #[] (fun k => !insB (D.U k 0) (D.U k 1) 2000) w1 (by omega) Tryz.entD4 (SpansAt.of (by obtain ⟨A', c', e, -, -, h⟩ := h.u.e; simp only [Value.slice.injEq] at e; obtain ⟨rfl, -, rfl⟩ := e; exact h)) (fun w2 k hk hb => deShu_c _ _ w2)
 have hci := fun b c w1 h0 h1 h2 => cfSw_c b c D.pitch D.roll D.heave w1 h0 h1 h2
 have hsw : swB D.pitch D.roll D.heave = (!inB D.pitch 0 300 || (!inB D.roll 0 300 || !inB D.heave 0 300)) := rfl
 obtain ⟨E, hE⟩ : ∃ q, q = D.err := ⟨_, rfl⟩
 have HEE := hI9 hE
 rw [← hE]
 clear hE
 cases b0 : inB D.size 1 1000000
 ·have HER := hI9 (HEE.out.trans (de_err (der1 (der1 (by rw [b0]; rfl)))))
  go_enter Tryz.func92, Tryz.ntmps92
  go_wp2_with (fail)
  have _x := frm1 w #[.int .i64 D.size, .int .i64 D.load, .int .i64 D.wind, .slice A D.ns cA, .int .i64 D.pitch, .int .i64 D.roll, .int .i64 D.heave, .int .i64 D.fire, .slice A2 D.nh cB, .slice A3 D.nu cC] 26
  have HX := hI9 _x.1
  have HB := hI9 _x.2.1
  have zW := _x.2.2
  clear _x
  generalize World.alloc w _ = W at *
  have zHX := HX.out.lt
  have cHX0 := HX.out.cell 0
  have cHX1 := HX.out.cell 1
  have cHX2 := HX.out.cell 2
  have cHX3 := HX.out.cell 3
  have cHX7 := HX.out.cell 7
  go_wp2_with (first | (go_at_call 34; (with_reducible refine (dwithin_c _ _ _ _).mono ?_); rintro e w1 ⟨rfl, rfl⟩))
  go_ret
  exact ⟨ret_int HER.out.symm, HB.out⟩
 cases b1 : inB D.load 1 1000000
 ·have HER := hI9 (HEE.out.trans (de_err (der1 (der2 (der1 (by rw [b1]; rfl))))))
  go_enter Tryz.func92, Tryz.ntmps92
  go_wp2_with (fail)
  have _x := frm1 w #[.int .i64 D.size, .int .i64 D.load, .int .i64 D.wind, .slice A D.ns cA, .int .i64 D.pitch, .int .i64 D.roll, .int .i64 D.heave, .int .i64 D.fire, .slice A2 D.nh cB, .slice A3 D.nu cC] 26
  have HX := hI9 _x.1
  have HB := hI9 _x.2.1
  have zW := _x.2.2
  clear _x
  generalize World.alloc w _ = W at *
  have zHX := HX.out.lt
  have cHX0 := HX.out.cell 0
  have cHX1 := HX.out.cell 1
  have cHX2 := HX.out.cell 2
  have cHX3 := HX.out.cell 3
  have cHX7 := HX.out.cell 7
  go_wp2_with (first | (go_at_call 34; (with_reducible refine (dwithin_c _ _ _ _).mono ?_); rintro e w1 ⟨rfl, rfl⟩))
  go_ret
  exact ⟨ret_int HER.out.symm, HB.out⟩
 cases b2 : inB D.wind 0 300
 ·have HER := hI9 (HEE.out.trans (de_err (der1 (der2 (der2 (der1 (by rw [b2]; rfl)))))))
  go_enter Tryz.func92, Tryz.ntmps92
  go_wp2_with (fail)
  have _x := frm1 w #[.int .i64 D.size, .int .i64 D.load, .int .i64 D.wind, .slice A D.ns cA, .int .i64 D.pitch, .int .i64 D.roll, .int .i64 D.heave, .int .i64 D.fire, .slice A2 D.nh cB, .slice A3 D.nu cC] 26
  have HX := hI9 _x.1
  have HB := hI9 _x.2.1
  have zW := _x.2.2
  clear _x
  generalize World.alloc w _ = W at *
  have zHX := HX.out.lt
  have cHX0 := HX.out.cell 0
  have cHX1 := HX.out.cell 1
  have cHX2 := HX.out.cell 2
  have cHX3 := HX.out.cell 3
  have cHX7 := HX.out.cell 7
  go_wp2_with (first | (go_at_call 34; (with_reducible refine (dwithin_c _ _ _ _).mono ?_); rintro e w1 ⟨rfl, rfl⟩))
  go_ret
  exact ⟨ret_int HER.out.symm, HB.out⟩
 cases b3 : inB D.fire 0 100
 ·have HER := hI9 (HEE.out.trans (de_err (der1 (der2 (der2 (der2 (by rw [b3]; rfl)))))))
  go_enter Tryz.func92, Tryz.ntmps92
  go_wp2_with (fail)
  have _x := frm1 w #[.int .i64 D.size, .int .i64 D.load, .int .i64 D.wind, .slice A D.ns cA, .int .i64 D.pitch, .int .i64 D.roll, .int .i64 D.heave, .int .i64 D.fire, .slice A2 D.nh cB, .slice A3 D.nu cC] 26
  have HX := hI9 _x.1
  have HB := hI9 _x.2.1
  have zW := _x.2.2
  clear _x
  generalize World.alloc w _ = W at *
  have zHX := HX.out.lt
  have cHX0 := HX.out.cell 0
  have cHX1 := HX.out.cell 1
  have cHX2 := HX.out.cell 2
  have cHX3 := HX.out.cell 3
  have cHX7 := HX.out.cell 7
  go_wp2_with (first | (go_at_call 34; (with_reducible refine (dwithin_c _ _ _ _).mono ?_); rintro e w1 ⟨rfl, rfl⟩))
  go_ret
  exact ⟨ret_int HER.out.symm, HB.out⟩
 by_cases hn : 8 < D.ns
 ·have HER := hI9 (HEE.out.trans (de_err (der2 (der1 (der1 (by simpa using hn))))))
  have hnz : (8 : Int) < (D.ns : Int) := by omega
  go_enter Tryz.func92, Tryz.ntmps92
  go_wp2_with (fail)
  have _x := frm1 w #[.int .i64 D.size, .int .i64 D.load, .int .i64 D.wind, .slice A D.ns cA, .int .i64 D.pitch, .int .i64 D.roll, .int .i64 D.heave, .int .i64 D.fire, .slice A2 D.nh cB, .slice A3 D.nu cC] 26
  have HX := hI9 _x.1
  have HB := hI9 _x.2.1
  have zW := _x.2.2
  clear _x
  generalize World.alloc w _ = W at *
  have zHX := HX.out.lt
  have cHX0 := HX.out.cell 0
  have cHX1 := HX.out.cell 1
  have cHX2 := HX.out.cell 2
  have cHX3 := HX.out.cell 3
  have cHX7 := HX.out.cell 7
  go_wp2_with (first | (go_at_call 34; (with_reducible refine (dwithin_c _ _ _ _).mono ?_); rintro e w1 ⟨rfl, rfl⟩))
  go_wp2_with (first | (go_at_call 132; (with_reducible refine (HCS.out _ (HD.out.below HB.out)).mono ?_); rintro e w1 ⟨rfl, hb1⟩; have nHX := hI9 (HX.out.below hb1); have nHB := hI9 (bthen HB.out hb1); have zz1 := hb1.size; clear HX HB hb1; have HX := nHX; have HB := nHB; clear nHX nHB; (try clear zHX); have zHX := HX.out.lt; (try clear cHX4); have cHX4 := HX.out.cell 4; (try clear cHX5); have cHX5 := HX.out.cell 5; (try clear cHX6); have cHX6 := HX.out.cell 6))
  go_ret
  exact ⟨ret_int HER.out.symm, HB.out⟩
 have hnz : ¬ (8 : Int) < (D.ns : Int) := by omega
 cases b4 : (List.range D.ns).any (fun k => seBad (D.S k 0) (D.S k 1) (D.S k 2))
 case true =>
  have HER := hI9 (HEE.out.trans (de_err (der2 (der1 (der2 (der1 b4))))))
  rw [b4] at hcs
  have HCS := hI9 hcs
  clear hcs hch hcu hci hsw b4
  go_enter Tryz.func92, Tryz.ntmps92
  go_wp2_with (fail)
  have _x := frm1 w #[.int .i64 D.size, .int .i64 D.load, .int .i64 D.wind, .slice A D.ns cA, .int .i64 D.pitch, .int .i64 D.roll, .int .i64 D.heave, .int .i64 D.fire, .slice A2 D.nh cB, .slice A3 D.nu cC] 26
  have HX := hI9 _x.1
  have HB := hI9 _x.2.1
  have zW := _x.2.2
  clear _x
  generalize World.alloc w _ = W at *
  have zHX := HX.out.lt
  have cHX0 := HX.out.cell 0
  have cHX1 := HX.out.cell 1
  have cHX2 := HX.out.cell 2
  have cHX3 := HX.out.cell 3
  have cHX7 := HX.out.cell 7
  go_wp2_with (first | (go_at_call 34; (with_reducible refine (dwithin_c _ _ _ _).mono ?_); rintro e w1 ⟨rfl, rfl⟩))
  go_wp2_with (first | (go_at_call 132; (with_reducible refine (HCS.out _ (HD.out.below HB.out)).mono ?_); rintro e w1 ⟨rfl, hb1⟩; have nHX := hI9 (HX.out.below hb1); have nHB := hI9 (bthen HB.out hb1); have zz1 := hb1.size; clear HX HB hb1; have HX := nHX; have HB := nHB; clear nHX nHB; (try clear zHX); have zHX := HX.out.lt; (try clear cHX4); have cHX4 := HX.out.cell 4; (try clear cHX5); have cHX5 := HX.out.cell 5; (try clear cHX6); have cHX6 := HX.out.cell 6))
  go_ret
  exact ⟨ret_int HER.out.symm, HB.out⟩
 rw [b4] at hcs
 have HCS := hI9 hcs
 clear hcs
 cases b5 : swB D.pitch D.roll D.heave
 case true =>
  have HER := hI9 (HEE.out.trans (de_err (der2 (der1 (der2 (der2 (by rw [← hsw]; exact b5)))))))
  rw [b5] at hci
  have HCI := hI9 hci
  clear hch hcu hci hsw b5 b4
  go_enter Tryz.func92, Tryz.ntmps92
  go_wp2_with (fail)
  have _x := frm1 w #[.int .i64 D.size, .int .i64 D.load, .int .i64 D.wind, .slice A D.ns cA, .int .i64 D.pitch, .int .i64 D.roll, .int .i64 D.heave, .int .i64 D.fire, .slice A2 D.nh cB, .slice A3 D.nu cC] 26
  have HX := hI9 _x.1
  have HB := hI9 _x.2.1
  have zW := _x.2.2
  clear _x
  generalize World.alloc w _ = W at *
  have zHX := HX.out.lt
  have cHX0 := HX.out.cell 0
  have cHX1 := HX.out.cell 1
  have cHX2 := HX.out.cell 2
  have cHX3 := HX.out.cell 3
  have cHX7 := HX.out.cell 7
  go_wp2_with (first | (go_at_call 34; (with_reducible refine (dwithin_c _ _ _ _).mono ?_); rintro e w1 ⟨rfl, rfl⟩))
  go_wp2_with (first | (go_at_call 132; (with_reducible refine (HCS.out _ (HD.out.below HB.out)).mono ?_); rintro e w1 ⟨rfl, hb1⟩; have nHX := hI9 (HX.out.below hb1); have nHB := hI9 (bthen HB.out hb1); have zz1 := hb1.size; clear HX HB hb1; have HX := nHX; have HB := nHB; clear nHX nHB; (try clear zHX); have zHX := HX.out.lt; (try clear cHX4); have cHX4 := HX.out.cell 4; (try clear cHX5); have cHX5 := HX.out.cell 5; (try clear cHX6); have cHX6 := HX.out.cell 6))
  refine (HCI.out _ _ _ (by first | (simp; done) | (rw [cell_new_at _ _ _ _ _ (by simp)]; first | rfl | (simp; done))) (by first | (simp; done) | (rw [cell_new_at _ _ _ _ _ (by simp)]; first | rfl | (simp; done))) (by first | (simp; done) | (rw [cell_new_at _ _ _ _ _ (by simp)]; first | rfl | (simp; done)))).mono ?_
  rintro _ w2 ⟨rfl, hb2'⟩
  have hb2 := bthen (bal (Below.refl w1.heap.size w1) _) hb2'
  clear hb2'
  have nHX := hI9 (HX.out.below hb2)
  have nHB := hI9 (bthen HB.out hb2)
  clear HX HB hb2
  have HX := nHX
  have HB := nHB
  clear nHX nHB
  have zHX := HX.out.lt
  have cHX8 := HX.out.cell 8
  go_wp2_with (first | (go_at_call 133; (with_reducible refine (HCH.out _ (HD.out.below HB.out)).mono ?_); rintro e w1 ⟨rfl, hb1⟩; have nHX := hI9 (HX.out.below hb1); have nHB := hI9 (bthen HB.out hb1); have zz1 := hb1.size; clear HX HB hb1; have HX := nHX; have HB := nHB; clear nHX nHB; (try clear zHX); have zHX := HX.out.lt; (try clear cHX9); have cHX9 := HX.out.cell 9) | (go_at_call 61; (with_reducible refine (HCU.out _ (HD.out.below HB.out)).mono ?_); rintro e w1 ⟨rfl, hb1⟩; have nHX := hI9 (HX.out.below hb1); have nHB := hI9 (bthen HB.out hb1); have zz1 := hb1.size; clear HX HB hb1; have HX := nHX; have HB := nHB; clear nHX nHB; (try clear zHX); have zHX := HX.out.lt; (try clear cHX9); have cHX9 := HX.out.cell 9))
  go_ret
  exact ⟨ret_int HER.out.symm, HB.out⟩
 rw [b5] at hci
 have HCI := hI9 hci
 clear hci
 by_cases hm : 12 < D.nh
 ·have HER := hI9 (HEE.out.trans (de_err (der2 (der2 (der1 (der1 (by simpa using hm)))))))
  have hmz : (12 : Int) < (D.nh : Int) := by omega
  clear hch hcu hsw b4 b5
  go_enter Tryz.func92, Tryz.ntmps92
  go_wp2_with (fail)
  have _x := frm1 w #[.int .i64 D.size, .int .i64 D.load, .int .i64 D.wind, .slice A D.ns cA, .int .i64 D.pitch, .int .i64 D.roll, .int .i64 D.heave, .int .i64 D.fire, .slice A2 D.nh cB, .slice A3 D.nu cC] 26
  have HX := hI9 _x.1
  have HB := hI9 _x.2.1
  have zW := _x.2.2
  clear _x
  generalize World.alloc w _ = W at *
  have zHX := HX.out.lt
  have cHX0 := HX.out.cell 0
  have cHX1 := HX.out.cell 1
  have cHX2 := HX.out.cell 2
  have cHX3 := HX.out.cell 3
  have cHX7 := HX.out.cell 7
  go_wp2_with (first | (go_at_call 34; (with_reducible refine (dwithin_c _ _ _ _).mono ?_); rintro e w1 ⟨rfl, rfl⟩))
  go_wp2_with (first | (go_at_call 132; (with_reducible refine (HCS.out _ (HD.out.below HB.out)).mono ?_); rintro e w1 ⟨rfl, hb1⟩; have nHX := hI9 (HX.out.below hb1); have nHB := hI9 (bthen HB.out hb1); have zz1 := hb1.size; clear HX HB hb1; have HX := nHX; have HB := nHB; clear nHX nHB; (try clear zHX); have zHX := HX.out.lt; (try clear cHX4); have cHX4 := HX.out.cell 4; (try clear cHX5); have cHX5 := HX.out.cell 5; (try clear cHX6); have cHX6 := HX.out.cell 6))
  refine (HCI.out _ _ _ (by first | (simp; done) | (rw [cell_new_at _ _ _ _ _ (by simp)]; first | rfl | (simp; done))) (by first | (simp; done) | (rw [cell_new_at _ _ _ _ _ (by simp)]; first | rfl | (simp; done))) (by first | (simp; done) | (rw [cell_new_at _ _ _ _ _ (by simp)]; first | rfl | (simp; done)))).mono ?_
  rintro _ w2 ⟨rfl, hb2'⟩
  have hb2 := bthen (bal (Below.refl w1.heap.size w1) _) hb2'
  clear hb2'
  have nHX := hI9 (HX.out.below hb2)
  have nHB := hI9 (bthen HB.out hb2)
  clear HX HB hb2
  have HX := nHX
  have HB := nHB
  clear nHX nHB
  have zHX := HX.out.lt
  have cHX8 := HX.out.cell 8
  go_wp2_with (first | (go_at_call 133; (with_reducible refine (HCH.out _ (HD.out.below HB.out)).mono ?_); rintro e w1 ⟨rfl, hb1⟩; have nHX := hI9 (HX.out.below hb1); have nHB := hI9 (bthen HB.out hb1); have zz1 := hb1.size; clear HX HB hb1; have HX := nHX; have HB := nHB; clear nHX nHB; (try clear zHX); have zHX := HX.out.lt; (try clear cHX9); have cHX9 := HX.out.cell 9) | (go_at_call 61; (with_reducible refine (HCU.out _ (HD.out.below HB.out)).mono ?_); rintro e w1 ⟨rfl, hb1⟩; have nHX := hI9 (HX.out.below hb1); have nHB := hI9 (bthen HB.out hb1); have zz1 := hb1.size; clear HX HB hb1; have HX := nHX; have HB := nHB; clear nHX nHB; (try clear zHX); have zHX := HX.out.lt; (try clear cHX9); have cHX9 := HX.out.cell 9))
  go_ret
  exact ⟨ret_int HER.out.symm, HB.out⟩
 have hmz : ¬ (12 : Int) < (D.nh : Int) := by omega
 cases b6 : (List.range D.nh).any (fun k => shBad (D.H k 0) (D.H k 1) (D.H k 2))
 case true =>
  have HER := hI9 (HEE.out.trans (de_err (der2 (der2 (der1 (der2 b6))))))
  rw [b6] at hch
  have HCH := hI9 hch
  clear hch hcu hsw b4 b5 b6
  go_enter Tryz.func92, Tryz.ntmps92
  go_wp2_with (fail)
  have _x := frm1 w #[.int .i64 D.size, .int .i64 D.load, .int .i64 D.wind, .slice A D.ns cA, .int .i64 D.pitch, .int .i64 D.roll, .int .i64 D.heave, .int .i64 D.fire, .slice A2 D.nh cB, .slice A3 D.nu cC] 26
  have HX := hI9 _x.1
  have HB := hI9 _x.2.1
  have zW := _x.2.2
  clear _x
  generalize World.alloc w _ = W at *
  have zHX := HX.out.lt
  have cHX0 := HX.out.cell 0
  have cHX1 := HX.out.cell 1
  have cHX2 := HX.out.cell 2
  have cHX3 := HX.out.cell 3
  have cHX7 := HX.out.cell 7
  go_wp2_with (first | (go_at_call 34; (with_reducible refine (dwithin_c _ _ _ _).mono ?_); rintro e w1 ⟨rfl, rfl⟩))
  go_wp2_with (first | (go_at_call 132; (with_reducible refine (HCS.out _ (HD.out.below HB.out)).mono ?_); rintro e w1 ⟨rfl, hb1⟩; have nHX := hI9 (HX.out.below hb1); have nHB := hI9 (bthen HB.out hb1); have zz1 := hb1.size; clear HX HB hb1; have HX := nHX; have HB := nHB; clear nHX nHB; (try clear zHX); have zHX := HX.out.lt; (try clear cHX4); have cHX4 := HX.out.cell 4; (try clear cHX5); have cHX5 := HX.out.cell 5; (try clear cHX6); have cHX6 := HX.out.cell 6))
  refine (HCI.out _ _ _ (by first | (simp; done) | (rw [cell_new_at _ _ _ _ _ (by simp)]; first | rfl | (simp; done))) (by first | (simp; done) | (rw [cell_new_at _ _ _ _ _ (by simp)]; first | rfl | (simp; done))) (by first | (simp; done) | (rw [cell_new_at _ _ _ _ _ (by simp)]; first | rfl | (simp; done)))).mono ?_
  rintro _ w2 ⟨rfl, hb2'⟩
  have hb2 := bthen (bal (Below.refl w1.heap.size w1) _) hb2'
  clear hb2'
  have nHX := hI9 (HX.out.below hb2)
  have nHB := hI9 (bthen HB.out hb2)
  clear HX HB hb2
  have HX := nHX
  have HB := nHB
  clear nHX nHB
  have zHX := HX.out.lt
  have cHX8 := HX.out.cell 8
  go_wp2_with (first | (go_at_call 133; (with_reducible refine (HCH.out _ (HD.out.below HB.out)).mono ?_); rintro e w1 ⟨rfl, hb1⟩; have nHX := hI9 (HX.out.below hb1); have nHB := hI9 (bthen HB.out hb1); have zz1 := hb1.size; clear HX HB hb1; have HX := nHX; have HB := nHB; clear nHX nHB; (try clear zHX); have zHX := HX.out.lt; (try clear cHX9); have cHX9 := HX.out.cell 9) | (go_at_call 61; (with_reducible refine (HCU.out _ (HD.out.below HB.out)).mono ?_); rintro e w1 ⟨rfl, hb1⟩; have nHX := hI9 (HX.out.below hb1); have nHB := hI9 (bthen HB.out hb1); have zz1 := hb1.size; clear HX HB hb1; have HX := nHX; have HB := nHB; clear nHX nHB; (try clear zHX); have zHX := HX.out.lt; (try clear cHX9); have cHX9 := HX.out.cell 9))
  go_ret
  exact ⟨ret_int HER.out.symm, HB.out⟩
 rw [b6] at hch
 have HCH := hI9 hch
 clear hch
 by_cases hu : 12 < D.nu
 ·have HER := hI9 (HEE.out.trans (de_err (der2 (der2 (der2 (der1 (by simpa using hu)))))))
  have huz : (12 : Int) < (D.nu : Int) := by omega
  clear hcu hsw b4 b5 b6
  go_enter Tryz.func92, Tryz.ntmps92
  go_wp2_with (fail)
  have _x := frm1 w #[.int .i64 D.size, .int .i64 D.load, .int .i64 D.wind, .slice A D.ns cA, .int .i64 D.pitch, .int .i64 D.roll, .int .i64 D.heave, .int .i64 D.fire, .slice A2 D.nh cB, .slice A3 D.nu cC] 26
  have HX := hI9 _x.1
  have HB := hI9 _x.2.1
  have zW := _x.2.2
  clear _x
  generalize World.alloc w _ = W at *
  have zHX := HX.out.lt
  have cHX0 := HX.out.cell 0
  have cHX1 := HX.out.cell 1
  have cHX2 := HX.out.cell 2
  have cHX3 := HX.out.cell 3
  have cHX7 := HX.out.cell 7
  go_wp2_with (first | (go_at_call 34; (with_reducible refine (dwithin_c _ _ _ _).mono ?_); rintro e w1 ⟨rfl, rfl⟩))
  go_wp2_with (first | (go_at_call 132; (with_reducible refine (HCS.out _ (HD.out.below HB.out)).mono ?_); rintro e w1 ⟨rfl, hb1⟩; have nHX := hI9 (HX.out.below hb1); have nHB := hI9 (bthen HB.out hb1); have zz1 := hb1.size; clear HX HB hb1; have HX := nHX; have HB := nHB; clear nHX nHB; (try clear zHX); have zHX := HX.out.lt; (try clear cHX4); have cHX4 := HX.out.cell 4; (try clear cHX5); have cHX5 := HX.out.cell 5; (try clear cHX6); have cHX6 := HX.out.cell 6))
  refine (HCI.out _ _ _ (by first | (simp; done) | (rw [cell_new_at _ _ _ _ _ (by simp)]; first | rfl | (simp; done))) (by first | (simp; done) | (rw [cell_new_at _ _ _ _ _ (by simp)]; first | rfl | (simp; done))) (by first | (simp; done) | (rw [cell_new_at _ _ _ _ _ (by simp)]; first | rfl | (simp; done)))).mono ?_
  rintro _ w2 ⟨rfl, hb2'⟩
  have hb2 := bthen (bal (Below.refl w1.heap.size w1) _) hb2'
  clear hb2'
  have nHX := hI9 (HX.out.below hb2)
  have nHB := hI9 (bthen HB.out hb2)
  clear HX HB hb2
  have HX := nHX
  have HB := nHB
  clear nHX nHB
  have zHX := HX.out.lt
  have cHX8 := HX.out.cell 8
  go_wp2_with (first | (go_at_call 133; (with_reducible refine (HCH.out _ (HD.out.below HB.out)).mono ?_); rintro e w1 ⟨rfl, hb1⟩; have nHX := hI9 (HX.out.below hb1); have nHB := hI9 (bthen HB.out hb1); have zz1 := hb1.size; clear HX HB hb1; have HX := nHX; have HB := nHB; clear nHX nHB; (try clear zHX); have zHX := HX.out.lt; (try clear cHX9); have cHX9 := HX.out.cell 9) | (go_at_call 61; (with_reducible refine (HCU.out _ (HD.out.below HB.out)).mono ?_); rintro e w1 ⟨rfl, hb1⟩; have nHX := hI9 (HX.out.below hb1); have nHB := hI9 (bthen HB.out hb1); have zz1 := hb1.size; clear HX HB hb1; have HX := nHX; have HB := nHB; clear nHX nHB; (try clear zHX); have zHX := HX.out.lt; (try clear cHX9); have cHX9 := HX.out.cell 9))
  go_ret
  exact ⟨ret_int HER.out.symm, HB.out⟩
 have huz : ¬ (12 : Int) < (D.nu : Int) := by omega
 cases b7 : (List.range D.nu).any (fun k => !insB (D.U k 0) (D.U k 1) 2000)
 case true =>
  have HER := hI9 (HEE.out.trans (de_err (der2 (der2 (der2 (der2 b7))))))
  rw [b7] at hcu
  have HCU := hI9 hcu
  clear hcu hsw b4 b5 b6 b7
  go_enter Tryz.func92, Tryz.ntmps92
  go_wp2_with (fail)
  have _x := frm1 w #[.int .i64 D.size, .int .i64 D.load, .int .i64 D.wind, .slice A D.ns cA, .int .i64 D.pitch, .int .i64 D.roll, .int .i64 D.heave, .int .i64 D.fire, .slice A2 D.nh cB, .slice A3 D.nu cC] 26
  have HX := hI9 _x.1
  have HB := hI9 _x.2.1
  have zW := _x.2.2
  clear _x
  generalize World.alloc w _ = W at *
  have zHX := HX.out.lt
  have cHX0 := HX.out.cell 0
  have cHX1 := HX.out.cell 1
  have cHX2 := HX.out.cell 2
  have cHX3 := HX.out.cell 3
  have cHX7 := HX.out.cell 7
  go_wp2_with (first | (go_at_call 34; (with_reducible refine (dwithin_c _ _ _ _).mono ?_); rintro e w1 ⟨rfl, rfl⟩))
  go_wp2_with (first | (go_at_call 132; (with_reducible refine (HCS.out _ (HD.out.below HB.out)).mono ?_); rintro e w1 ⟨rfl, hb1⟩; have nHX := hI9 (HX.out.below hb1); have nHB := hI9 (bthen HB.out hb1); have zz1 := hb1.size; clear HX HB hb1; have HX := nHX; have HB := nHB; clear nHX nHB; (try clear zHX); have zHX := HX.out.lt; (try clear cHX4); have cHX4 := HX.out.cell 4; (try clear cHX5); have cHX5 := HX.out.cell 5; (try clear cHX6); have cHX6 := HX.out.cell 6))
  refine (HCI.out _ _ _ (by first | (simp; done) | (rw [cell_new_at _ _ _ _ _ (by simp)]; first | rfl | (simp; done))) (by first | (simp; done) | (rw [cell_new_at _ _ _ _ _ (by simp)]; first | rfl | (simp; done))) (by first | (simp; done) | (rw [cell_new_at _ _ _ _ _ (by simp)]; first | rfl | (simp; done)))).mono ?_
  rintro _ w2 ⟨rfl, hb2'⟩
  have hb2 := bthen (bal (Below.refl w1.heap.size w1) _) hb2'
  clear hb2'
  have nHX := hI9 (HX.out.below hb2)
  have nHB := hI9 (bthen HB.out hb2)
  clear HX HB hb2
  have HX := nHX
  have HB := nHB
  clear nHX nHB
  have zHX := HX.out.lt
  have cHX8 := HX.out.cell 8
  go_wp2_with (first | (go_at_call 133; (with_reducible refine (HCH.out _ (HD.out.below HB.out)).mono ?_); rintro e w1 ⟨rfl, hb1⟩; have nHX := hI9 (HX.out.below hb1); have nHB := hI9 (bthen HB.out hb1); have zz1 := hb1.size; clear HX HB hb1; have HX := nHX; have HB := nHB; clear nHX nHB; (try clear zHX); have zHX := HX.out.lt; (try clear cHX9); have cHX9 := HX.out.cell 9) | (go_at_call 61; (with_reducible refine (HCU.out _ (HD.out.below HB.out)).mono ?_); rintro e w1 ⟨rfl, hb1⟩; have nHX := hI9 (HX.out.below hb1); have nHB := hI9 (bthen HB.out hb1); have zz1 := hb1.size; clear HX HB hb1; have HX := nHX; have HB := nHB; clear nHX nHB; (try clear zHX); have zHX := HX.out.lt; (try clear cHX9); have cHX9 := HX.out.cell 9))
  go_ret
  exact ⟨ret_int HER.out.symm, HB.out⟩
 rw [b7] at hcu
 have HCU := hI9 hcu
 have HER := hI9 (HEE.out.trans (show D.err = 0 from by
  unfold DekD.err DekD.bad
  rw [b0, b1, b2, b3, b4, b6, b7, ← hsw, b5, decide_eq_false hn, decide_eq_false hm, decide_eq_false hu]
  rfl))
 clear hcu hsw b4 b5 b6 b7
 go_enter Tryz.func92, Tryz.ntmps92
 go_wp2_with (fail)
 have _x := frm1 w #[.int .i64 D.size, .int .i64 D.load, .int .i64 D.wind, .slice A D.ns cA, .int .i64 D.pitch, .int .i64 D.roll, .int .i64 D.heave, .int .i64 D.fire, .slice A2 D.nh cB, .slice A3 D.nu cC] 26
 have HX := hI9 _x.1
 have HB := hI9 _x.2.1
 have zW := _x.2.2
 clear _x
 generalize World.alloc w _ = W at *
 have zHX := HX.out.lt
 have cHX0 := HX.out.cell 0
 have cHX1 := HX.out.cell 1
 have cHX2 := HX.out.cell 2
 have cHX3 := HX.out.cell 3
 have cHX7 := HX.out.cell 7
 go_wp2_with (first | (go_at_call 34; (with_reducible refine (dwithin_c _ _ _ _).mono ?_); rintro e w1 ⟨rfl, rfl⟩))
 go_wp2_with (first | (go_at_call 132; (with_reducible refine (HCS.out _ (HD.out.below HB.out)).mono ?_); rintro e w1 ⟨rfl, hb1⟩; have nHX := hI9 (HX.out.below hb1); have nHB := hI9 (bthen HB.out hb1); have zz1 := hb1.size; clear HX HB hb1; have HX := nHX; have HB := nHB; clear nHX nHB; (try clear zHX); have zHX := HX.out.lt; (try clear cHX4); have cHX4 := HX.out.cell 4; (try clear cHX5); have cHX5 := HX.out.cell 5; (try clear cHX6); have cHX6 := HX.out.cell 6))
 refine (HCI.out _ _ _ (by first | (simp; done) | (rw [cell_new_at _ _ _ _ _ (by simp)]; first | rfl | (simp; done))) (by first | (simp; done) | (rw [cell_new_at _ _ _ _ _ (by simp)]; first | rfl | (simp; done))) (by first | (simp; done) | (rw [cell_new_at _ _ _ _ _ (by simp)]; first | rfl | (simp; done)))).mono ?_
 rintro _ w2 ⟨rfl, hb2'⟩
 have hb2 := bthen (bal (Below.refl w1.heap.size w1) _) hb2'
 clear hb2'
 have nHX := hI9 (HX.out.below hb2)
 have nHB := hI9 (bthen HB.out hb2)
 clear HX HB hb2
 have HX := nHX
 have HB := nHB
 clear nHX nHB
 have zHX := HX.out.lt
 have cHX8 := HX.out.cell 8
 go_wp2_with (first | (go_at_call 133; (with_reducible refine (HCH.out _ (HD.out.below HB.out)).mono ?_); rintro e w1 ⟨rfl, hb1⟩; have nHX := hI9 (HX.out.below hb1); have nHB := hI9 (bthen HB.out hb1); have zz1 := hb1.size; clear HX HB hb1; have HX := nHX; have HB := nHB; clear nHX nHB; (try clear zHX); have zHX := HX.out.lt; (try clear cHX9); have cHX9 := HX.out.cell 9) | (go_at_call 61; (with_reducible refine (HCU.out _ (HD.out.below HB.out)).mono ?_); rintro e w1 ⟨rfl, hb1⟩; have nHX := hI9 (HX.out.below hb1); have nHB := hI9 (bthen HB.out hb1); have zz1 := hb1.size; clear HX HB hb1; have HX := nHX; have HB := nHB; clear nHX nHB; (try clear zHX); have zHX := HX.out.lt; (try clear cHX9); have cHX9 := HX.out.cell 9))
 go_ret
 exact ⟨ret_int HER.out.symm, HB.out⟩
end Go.Proofs.YtlambeiafdpkgaaGreat

namespace Go.Proofs.YtlambeiafdpkgaaGreat
open Go Go.RowKit Go.Proofs
set_option maxRecDepth 100000
set_option maxHeartbeats 8000000
theorem dgrow_c (n : Nat) (w : World) (hn : n ≤ 10000) :
  Calls Tryz.prog 191 #[.slice none 0 0, .int .i64 n] w fun e w' => ∃ v, e = .returned v ∧ Below w.heap.size w w' ∧ w'.ownsRow w.heap.size 3 1 v 0 [] := by
 rcases Nat.eq_zero_or_pos n with rfl | h0
 ·go_enter Tryz.func191, Tryz.ntmps191
  go_wp2
  go_ret
  exact ⟨_, rfl, Below.refl _ _, World.ownsRow_nil _ _ _ _⟩
 ·have hI := Tryz.intI
  cases hi : Tryz.prog.info? 3 with
  | none => rw [hi] at hI; cases hI
  | some i =>
   rw [hi] at hI
   simp only [Option.map_some, Option.some.injEq, Prod.mk.injEq] at hI
   obtain ⟨i1, i2, i3⟩ := hI
   have hz1 : (0 : Int) < (n : Int) := by omega
   have hold : (Builtin.firstCells i.size 0 (.slice none 0 0)).run Tryz.prog w.drew = .ok ([] : List Value).toArray w.drew := by simp [Builtin.firstCells, Sem.run_pure]
   have hrz := fun ty => Lib.run_append_grow_zeros w 35 3 ty 3 i (.int .i64 0) .i64 .i64 Tryz.intsU (by kernel_rfl) hi i1 none 0 0 [] hold n h0 (by omega) (by omega) (by omega) (by rw [i3]; omega) (by rw [i3]; have := growslice_fits (need := 0 + n) (old := 0) (bytes := 8) (by omega) (by omega); simpa using this)
   have hG := grownCap_ge w n 0 3
   have hG2 := grownCap_le_maxLen w n 0 3 (by unfold maxLen; omega)
   simp only [Nat.zero_add] at hrz
   generalize grownCap w n 0 3 = G at *
   have hsz : ((([] : List Value).toArray ++ Builtin.zeroCells (Value.cells (.int .i64 0)) n ++ Builtin.zeroCells (Value.cells (.int .i64 0)) (G - n) : Array Value)).size = G * 1 := by
    simp [size_zeroCells, Value.cells]; omega
   generalize (([] : List Value).toArray ++ Builtin.zeroCells (Value.cells (.int .i64 0)) n ++ Builtin.zeroCells (Value.cells (.int .i64 0)) (G - n) : Array Value) = CS at *
   have HR := hI9 hrz
   clear hrz hold
   go_enter Tryz.func191, Tryz.ntmps191
   go_wp2_with (at_builtin; refine Lib.wpList_append_run _ rfl _ _ _ _ rfl _ _ rfl rfl _ _ (HR.out _) ?_)
   all_goals go_ret
   all_goals exact ⟨_, rfl, bal (Below.drew (Below.refl _ _)) _, World.ownsRow_made (w := w.drew) CS G (Nat.le_refl _) hG2 hsz⟩
end Go.Proofs.YtlambeiafdpkgaaGreat
