import Derived.Test.YtlambeiafdpkgaaGreatJAU
import Derived.Test.YtlambeiafdpkgaaGreatJAV
import Derived.Test.YtlambeiafdpkgaaGreatJAO
set_option linter.all false
namespace Go.Proofs.YtlambeiafdpkgaaGreat
open Go Go.RowKit Go.Proofs
set_option maxRecDepth 100000
set_option maxHeartbeats 8000000
theorem rd_from_c (n lo hi : Int) (w : World) : Calls Tryz.prog 50 #[.int .i64 n, .int .i64 lo, .int .i64 hi] w fun e w' => e = .returned (.bool (inB n lo hi)) ∧ w = w' := by
 unfold inB
 by_cases h1 : lo ≤ n <;> by_cases h2 : n ≤ hi
 all_goals
  go_enter Tryz.func50, Tryz.ntmps50
  go_wp2
  go_ret
  exact ⟨by simp [h1, h2], rfl⟩
theorem rd_swell_c (n lo : Int) (w : World) : Calls Tryz.prog 96 #[.int .i64 n, .int .i64 lo] w fun e w' => e = .returned (.bool (inB n lo 300)) ∧ w = w' := by
 go_enter Tryz.func96, Tryz.ntmps96
 go_wp2_with (first | (go_at_call 50; (with_reducible refine (rd_from_c _ _ _ _).mono ?_); rintro e w1 ⟨rfl, rfl⟩))
 go_ret
 exact ⟨rfl, rfl⟩
def tkRd (f t : Int) : Bool := decide (0 ≤ f) && (decide (f < t) && decide (t ≤ 2000))
theorem rd_ticks_c (f t : Int) (w : World) : Calls Tryz.prog 97 #[.int .i64 f, .int .i64 t] w fun e w' => e = .returned (.bool (tkRd f t)) ∧ w = w' := by
 unfold tkRd
 by_cases h1 : 0 ≤ f <;> by_cases h2 : f < t <;> by_cases h3 : t ≤ 2000
 all_goals
  go_enter Tryz.func97, Tryz.ntmps97
  go_wp2
  go_ret
  exact ⟨by simp [h1, h2, h3], rfl⟩
theorem tkRd_st {f t : Int} (h : tkRd f t = true) : stB f t = true := by
 unfold tkRd at h
 simp only [Bool.and_eq_true, decide_eq_true_eq] at h
 unfold stB
 rw [Bool.and_eq_true, decide_eq_true_eq, inB_iff, wrap64_in (by omega) (by omega)]
 omega
def RetB (e : Ending) (P : Prop) : Prop := ∃ b, e = .returned (.bool b) ∧ (b = true → P)
theorem rd_blows_c (lo hi : Int) (w : World) : Calls Tryz.prog 52 #[.agg #[.int .i64 lo, .int .i64 hi]] w fun e w' => RetB e (insB lo hi 719 = true) ∧ Below w.heap.size w w' := by
 have hv := fun w1 => rf_Valid_c lo hi w1
 cases hc : vspan lo hi
 ·rw [hc] at hv
  have HV := hI9 hv
  clear hv
  go_enter Tryz.func52, Tryz.ntmps52
  go_wp2_with (first | (go_at_call 98; (with_reducible refine (HV.out _).mono ?_); rintro e w1 ⟨rfl, hb1⟩; have hB1 := bthen (show Below w.heap.size w _ from (by repeat' (first | exact Below.refl _ _ | assumption | refine Below.drew ?_ | refine bdn ?_ _ | refine bal ?_ _ | refine Below.setCell ?_ (by first | (simp; done) | omega | (simp; omega)) _))) hb1; have hz1 := hb1.size; (try simp at hz1); obtain ⟨hc1, hf1⟩ := bcell hb1; first | (have hE1 := bthen2 hE (by repeat' (first | exact Below.refl _ _ | refine Below.drew ?_ | refine bdn ?_ _ | refine bal ?_ _ | refine Below.setCell ?_ (by first | (simp; done) | omega | (simp; omega)) _)) hb1; clear hE; have hE := hE1; clear hE1; obtain ⟨hd1, hg1⟩ := bcell hE) | (have hE := hb1)))
  go_ret
  exact ⟨⟨false, rfl, fun h => nomatch h⟩, (by repeat' (first | exact Below.refl _ _ | assumption | refine Below.drew ?_ | refine bdn ?_ _ | refine bal ?_ _ | refine Below.setCell ?_ (by first | (simp; done) | omega | (simp; omega)) _))⟩
 ·rw [hc] at hv
  have hvs := vspan_iff'.1 hc
  have HV := hI9 hv
  have HC := hI9 hc
  clear hv hc
  by_cases h1 : 0 ≤ lo <;> by_cases h2 : hi ≤ 719
  ·go_enter Tryz.func52, Tryz.ntmps52
   go_wp2_with (first | (go_at_call 98; (with_reducible refine (HV.out _).mono ?_); rintro e w1 ⟨rfl, hb1⟩; have hB1 := bthen (show Below w.heap.size w _ from (by repeat' (first | exact Below.refl _ _ | assumption | refine Below.drew ?_ | refine bdn ?_ _ | refine bal ?_ _ | refine Below.setCell ?_ (by first | (simp; done) | omega | (simp; omega)) _))) hb1; have hz1 := hb1.size; (try simp at hz1); obtain ⟨hc1, hf1⟩ := bcell hb1; first | (have hE1 := bthen2 hE (by repeat' (first | exact Below.refl _ _ | refine Below.drew ?_ | refine bdn ?_ _ | refine bal ?_ _ | refine Below.setCell ?_ (by first | (simp; done) | omega | (simp; omega)) _)) hb1; clear hE; have hE := hE1; clear hE1; obtain ⟨hd1, hg1⟩ := bcell hE) | (have hE := hb1)))
   go_ret
   exact ⟨⟨true, rfl, fun _ => insB_iff.2 ⟨HC.out, h1, by omega, h2⟩⟩, (by repeat' (first | exact Below.refl _ _ | assumption | refine Below.drew ?_ | refine bdn ?_ _ | refine bal ?_ _ | refine Below.setCell ?_ (by first | (simp; done) | omega | (simp; omega)) _))⟩
  all_goals
   go_enter Tryz.func52, Tryz.ntmps52
   go_wp2_with (first | (go_at_call 98; (with_reducible refine (HV.out _).mono ?_); rintro e w1 ⟨rfl, hb1⟩; have hB1 := bthen (show Below w.heap.size w _ from (by repeat' (first | exact Below.refl _ _ | assumption | refine Below.drew ?_ | refine bdn ?_ _ | refine bal ?_ _ | refine Below.setCell ?_ (by first | (simp; done) | omega | (simp; omega)) _))) hb1; have hz1 := hb1.size; (try simp at hz1); obtain ⟨hc1, hf1⟩ := bcell hb1; first | (have hE1 := bthen2 hE (by repeat' (first | exact Below.refl _ _ | refine Below.drew ?_ | refine bdn ?_ _ | refine bal ?_ _ | refine Below.setCell ?_ (by first | (simp; done) | omega | (simp; omega)) _)) hb1; clear hE; have hE := hE1; clear hE1; obtain ⟨hd1, hg1⟩ := bcell hE) | (have hE := hb1)))
   go_ret
   exact ⟨⟨_, rfl, fun h => absurd h (by first | decide | (simp; omega))⟩, (by repeat' (first | exact Below.refl _ _ | assumption | refine Below.drew ?_ | refine bdn ?_ _ | refine bal ?_ _ | refine Below.setCell ?_ (by first | (simp; done) | omega | (simp; omega)) _))⟩
theorem rd_Check_c (D : DekD) (vA vB vC : Value) (w : World) (hD : DekAt w vA vB vC D) :
  Calls Tryz.prog 47 #[.agg #[.int .i64 D.size, .int .i64 D.load, .int .i64 D.wind, vA, .int .i64 D.pitch, .int .i64 D.roll, .int .i64 D.heave, .int .i64 D.fire, vB, vC]] w fun e w' => ∃ E, e = .returned (.int .i64 E) ∧ Below w.heap.size w w' ∧ (E = 0 → D.bad = false) := by
 have HD := hI9 hD
 obtain ⟨A1, k1, rfl, hc1, hc2, -⟩ := hD.s.e
 obtain ⟨A2, k2, rfl, hc3, hc4, -⟩ := hD.h.e
 obtain ⟨A3, k3, rfl, hc5, hc6, -⟩ := hD.u.e
 clear hD
 cases b1 : inB D.size 1 1000000
 rotate_left
 cases b2 : inB D.load 1 1000000
 rotate_left
 cases b3 : inB D.wind 0 300
 rotate_left
 cases zns : decide ((8 : Int) < (D.ns : Int))
 cases b4 : inB D.pitch 0 300
 rotate_left
 cases b5 : inB D.roll 0 300
 rotate_left
 cases b6 : inB D.heave 0 300
 rotate_left
 cases b7 : inB D.fire 0 100
 rotate_left
 cases znh : decide ((12 : Int) < (D.nh : Int))
 cases znu : decide ((12 : Int) < (D.nu : Int))
 ·skip
  have qns : D.ns ≤ 8 := by have := of_decide_eq_false zns; omega
  have qnh : D.nh ≤ 12 := by have := of_decide_eq_false znh; omega
  have qnu : D.nu ≤ 12 := by have := of_decide_eq_false znu; omega
  go_enter Tryz.func47, Tryz.ntmps47
  go_wp2_with (fail)
  have _x := frm1 w #[.int .i64 D.size, .int .i64 D.load, .int .i64 D.wind, .slice A1 D.ns k1, .int .i64 D.pitch, .int .i64 D.roll, .int .i64 D.heave, .int .i64 D.fire, .slice A2 D.nh k2, .slice A3 D.nu k3] 26
  have HX := hI9 _x.1
  have HB := hI9 _x.2.1
  have zW := _x.2.2
  clear _x
  generalize World.alloc w _ = W at *
  have zHX := HX.out.lt
  have cHX0 := HX.out.cell 0
  have cHX1 := HX.out.cell 1
  have cHX2 := HX.out.cell 2
  have cHX3 := HX.out.cell 3
  have cHX4 := HX.out.cell 4
  have cHX5 := HX.out.cell 5
  have cHX6 := HX.out.cell 6
  have cHX7 := HX.out.cell 7
  have cHX8 := HX.out.cell 8
  have cHX9 := HX.out.cell 9
  simp only [gtA, gtS, gtZ] at cHX0 cHX1 cHX2 cHX3 cHX4 cHX5 cHX6 cHX7 cHX8 cHX9
  go_wp2_with (first | (go_at_call 50; (with_reducible refine (rd_from_c _ _ _ _).mono ?_); rintro e w1 ⟨rfl, rfl⟩) | (go_at_call 96; (with_reducible refine (rd_swell_c _ _ _).mono ?_); rintro e w1 ⟨rfl, rfl⟩))
  have K0 := hI9 (show OneK w 26 #[.int .i64 D.size, .int .i64 D.load, .int .i64 D.wind, .slice A1 D.ns k1, .int .i64 D.pitch, .int .i64 D.roll, .int .i64 D.heave, .int .i64 D.fire, .slice A2 D.nh k2, .slice A3 D.nu k3] W from ⟨HB.out, HX.out⟩)
  have HBS := hI9 (And.intro b1 (And.intro b2 (And.intro b3 (And.intro b4 (And.intro b5 (And.intro b6 b7))))))
  clear HX HB b1 b2 b3 b4 b5 b6 b7 zns znh znu
  go_loopg [3] D.ns (fun gx i wr => ∃ k : Nat, i = .int .i64 k ∧ k ≤ D.ns ∧ D.ns - k ≤ gx ∧ Hid (OneK w 26 #[.int .i64 D.size, .int .i64 D.load, .int .i64 D.wind, .slice A1 D.ns k1, .int .i64 D.pitch, .int .i64 D.roll, .int .i64 D.heave, .int .i64 D.fire, .slice A2 D.nh k2, .slice A3 D.nu k3] wr) ∧ Hid (∀ j, j < k → seBad (D.S j 0) (D.S j 1) (D.S j 2) = false))
  case atStart => exact ⟨0, rfl, Nat.zero_le _, Nat.le_refl _, K0, hI9 (fun j h => absurd h (Nat.not_lt_zero _))⟩
  case round =>
   clear K0
   obtain ⟨k, rfl, hk, hgx, K0, HS1⟩ := hrel
   have cHX := K0.out.m.cell 3
   simp only [gtA, gtS, gtZ] at cHX
   by_cases hlt : k < D.ns
   ·have hltz : (k : Int) < (D.ns : Int) := by omega
    obtain ⟨A', c', hA', -, -, hrec⟩ := HD.out.s.e
    simp only [Value.slice.injEq] at hA'
    obtain ⟨rfl, -, rfl⟩ := hA'
    obtain ⟨bs, off, rfl, hbs, hcell⟩ := hrec (by omega)
    have c0 : wr.cell? ⟨bs, off + k * 3, none⟩ = some (.int .i64 (D.S k 0)) := (K0.out.b.cell (p := ⟨bs, off + k * 3 + 0, none⟩) hbs).trans (hcell k hlt 0 (by omega))
    have c1 : wr.cell? ⟨bs, off + k * 3 + 1, none⟩ = some (.int .i64 (D.S k 1)) := (K0.out.b.cell (p := ⟨bs, off + k * 3 + 1, none⟩) hbs).trans (hcell k hlt 1 (by omega))
    have c2 : wr.cell? ⟨bs, off + k * 3 + 2, none⟩ = some (.int .i64 (D.S k 2)) := (K0.out.b.cell (p := ⟨bs, off + k * 3 + 2, none⟩) hbs).trans (hcell k hlt 2 (by omega))
    clear hcell
    have K2 := hI9 (K0.out.grow (bal (Below.refl _ _) (.cells #[.int .i64 (D.S k 0), .int .i64 (D.S k 1), .int .i64 (D.S k 2)] 181)))
    clear K0
    cases b1 : inB (D.S k 0) 0 359
    case false =>
     go_wp2_with (first | (go_at_call 50; (with_reducible refine (rd_from_c _ _ _ _).mono ?_); rintro e w1 ⟨rfl, rfl⟩) | (go_at_call 97; (with_reducible refine (rd_ticks_c _ _ _).mono ?_); rintro e w1 ⟨rfl, rfl⟩) | (go_at_call 98; (with_reducible refine (rf_Valid_c _ _ _).mono ?_); rintro e w1 ⟨rfl, hb1⟩; have hB1 := bthen (show Below w.heap.size w _ from (by repeat' (first | exact Below.refl _ _ | assumption | refine Below.drew ?_ | refine bdn ?_ _ | refine bal ?_ _ | refine Below.setCell ?_ (by first | (simp; done) | omega | (simp; omega)) _))) hb1; have hz1 := hb1.size; (try simp at hz1); obtain ⟨hc1, hf1⟩ := bcell hb1; first | (have hE1 := bthen2 hE (by repeat' (first | exact Below.refl _ _ | refine Below.drew ?_ | refine bdn ?_ _ | refine bal ?_ _ | refine Below.setCell ?_ (by first | (simp; done) | omega | (simp; omega)) _)) hb1; clear hE; have hE := hE1; clear hE1; obtain ⟨hd1, hg1⟩ := bcell hE) | (have hE := hb1)))
     go_ret
     exact ⟨60, rfl, K2.out.b, fun h => absurd h (by decide)⟩
    cases b2 : inB (D.S k 1) 0 359
    case false =>
     go_wp2_with (first | (go_at_call 50; (with_reducible refine (rd_from_c _ _ _ _).mono ?_); rintro e w1 ⟨rfl, rfl⟩) | (go_at_call 97; (with_reducible refine (rd_ticks_c _ _ _).mono ?_); rintro e w1 ⟨rfl, rfl⟩) | (go_at_call 98; (with_reducible refine (rf_Valid_c _ _ _).mono ?_); rintro e w1 ⟨rfl, hb1⟩; have hB1 := bthen (show Below w.heap.size w _ from (by repeat' (first | exact Below.refl _ _ | assumption | refine Below.drew ?_ | refine bdn ?_ _ | refine bal ?_ _ | refine Below.setCell ?_ (by first | (simp; done) | omega | (simp; omega)) _))) hb1; have hz1 := hb1.size; (try simp at hz1); obtain ⟨hc1, hf1⟩ := bcell hb1; first | (have hE1 := bthen2 hE (by repeat' (first | exact Below.refl _ _ | refine Below.drew ?_ | refine bdn ?_ _ | refine bal ?_ _ | refine Below.setCell ?_ (by first | (simp; done) | omega | (simp; omega)) _)) hb1; clear hE; have hE := hE1; clear hE1; obtain ⟨hd1, hg1⟩ := bcell hE) | (have hE := hb1)))
     go_ret
     exact ⟨60, rfl, K2.out.b, fun h => absurd h (by decide)⟩
    cases b3 : inB (D.S k 2) 0 300
    case false =>
     go_wp2_with (first | (go_at_call 50; (with_reducible refine (rd_from_c _ _ _ _).mono ?_); rintro e w1 ⟨rfl, rfl⟩) | (go_at_call 97; (with_reducible refine (rd_ticks_c _ _ _).mono ?_); rintro e w1 ⟨rfl, rfl⟩) | (go_at_call 98; (with_reducible refine (rf_Valid_c _ _ _).mono ?_); rintro e w1 ⟨rfl, hb1⟩; have hB1 := bthen (show Below w.heap.size w _ from (by repeat' (first | exact Below.refl _ _ | assumption | refine Below.drew ?_ | refine bdn ?_ _ | refine bal ?_ _ | refine Below.setCell ?_ (by first | (simp; done) | omega | (simp; omega)) _))) hb1; have hz1 := hb1.size; (try simp at hz1); obtain ⟨hc1, hf1⟩ := bcell hb1; first | (have hE1 := bthen2 hE (by repeat' (first | exact Below.refl _ _ | refine Below.drew ?_ | refine bdn ?_ _ | refine bal ?_ _ | refine Below.setCell ?_ (by first | (simp; done) | omega | (simp; omega)) _)) hb1; clear hE; have hE := hE1; clear hE1; obtain ⟨hd1, hg1⟩ := bcell hE) | (have hE := hb1)))
     go_ret
     exact ⟨60, rfl, K2.out.b, fun h => absurd h (by decide)⟩
    go_wp2_with (first | (go_at_call 50; (with_reducible refine (rd_from_c _ _ _ _).mono ?_); rintro e w1 ⟨rfl, rfl⟩) | (go_at_call 97; (with_reducible refine (rd_ticks_c _ _ _).mono ?_); rintro e w1 ⟨rfl, rfl⟩) | (go_at_call 98; (with_reducible refine (rf_Valid_c _ _ _).mono ?_); rintro e w1 ⟨rfl, hb1⟩; have hB1 := bthen (show Below w.heap.size w _ from (by repeat' (first | exact Below.refl _ _ | assumption | refine Below.drew ?_ | refine bdn ?_ _ | refine bal ?_ _ | refine Below.setCell ?_ (by first | (simp; done) | omega | (simp; omega)) _))) hb1; have hz1 := hb1.size; (try simp at hz1); obtain ⟨hc1, hf1⟩ := bcell hb1; first | (have hE1 := bthen2 hE (by repeat' (first | exact Below.refl _ _ | refine Below.drew ?_ | refine bdn ?_ _ | refine bal ?_ _ | refine Below.setCell ?_ (by first | (simp; done) | omega | (simp; omega)) _)) hb1; clear hE; have hE := hE1; clear hE1; obtain ⟨hd1, hg1⟩ := bcell hE) | (have hE := hb1)))
    go_roundg (D.ns - (k + 1))
    case measure => omega
    case rel => exact ⟨k + 1, by first | rfl | go_num | (congr 1; omega), by omega, Nat.le_refl _, K2, hI9 (fun j h => by
     by_cases e : j = k
     ·subst e; unfold seBad; rw [b1, b2, b3]; rfl
     ·exact HS1.out j (by omega))⟩
   ·obtain rfl : k = D.ns := by omega
    go_wp2_with (fail)
    go_loopg [5] D.nh (fun gx i wr => ∃ k : Nat, i = .int .i64 k ∧ k ≤ D.nh ∧ D.nh - k ≤ gx ∧ Hid (OneK w 26 #[.int .i64 D.size, .int .i64 D.load, .int .i64 D.wind, .slice A1 D.ns k1, .int .i64 D.pitch, .int .i64 D.roll, .int .i64 D.heave, .int .i64 D.fire, .slice A2 D.nh k2, .slice A3 D.nu k3] wr) ∧ Hid (∀ j, j < k → shBad (D.H j 0) (D.H j 1) (D.H j 2) = false))
    case atStart => exact ⟨0, rfl, Nat.zero_le _, Nat.le_refl _, K0, hI9 (fun j h => absurd h (Nat.not_lt_zero _))⟩
    case round =>
     clear K0
     obtain ⟨k, rfl, hk, hgx, K0, HS2⟩ := hrel
     have cHX := K0.out.m.cell 8
     simp only [gtA, gtS, gtZ] at cHX
     by_cases hlt : k < D.nh
     ·have hltz : (k : Int) < (D.nh : Int) := by omega
      obtain ⟨A', c', hA', -, -, hrec⟩ := HD.out.h.e
      simp only [Value.slice.injEq] at hA'
      obtain ⟨rfl, -, rfl⟩ := hA'
      obtain ⟨bs, off, rfl, hbs, hcell⟩ := hrec (by omega)
      have c0 : wr.cell? ⟨bs, off + k * 3, none⟩ = some (.int .i64 (D.H k 0)) := (K0.out.b.cell (p := ⟨bs, off + k * 3 + 0, none⟩) hbs).trans (hcell k hlt 0 (by omega))
      have c1 : wr.cell? ⟨bs, off + k * 3 + 1, none⟩ = some (.int .i64 (D.H k 1)) := (K0.out.b.cell (p := ⟨bs, off + k * 3 + 1, none⟩) hbs).trans (hcell k hlt 1 (by omega))
      have c2 : wr.cell? ⟨bs, off + k * 3 + 2, none⟩ = some (.int .i64 (D.H k 2)) := (K0.out.b.cell (p := ⟨bs, off + k * 3 + 2, none⟩) hbs).trans (hcell k hlt 2 (by omega))
      clear hcell
      have K2 := hI9 (K0.out.grow (bal (Below.refl _ _) (.cells #[.int .i64 (D.H k 0), .int .i64 (D.H k 1), .int .i64 (D.H k 2)] 183)))
      clear K0
      cases b1 : tkRd (D.H k 0) (D.H k 1)
      case false =>
       go_wp2_with (first | (go_at_call 50; (with_reducible refine (rd_from_c _ _ _ _).mono ?_); rintro e w1 ⟨rfl, rfl⟩) | (go_at_call 97; (with_reducible refine (rd_ticks_c _ _ _).mono ?_); rintro e w1 ⟨rfl, rfl⟩) | (go_at_call 98; (with_reducible refine (rf_Valid_c _ _ _).mono ?_); rintro e w1 ⟨rfl, hb1⟩; have hB1 := bthen (show Below w.heap.size w _ from (by repeat' (first | exact Below.refl _ _ | assumption | refine Below.drew ?_ | refine bdn ?_ _ | refine bal ?_ _ | refine Below.setCell ?_ (by first | (simp; done) | omega | (simp; omega)) _))) hb1; have hz1 := hb1.size; (try simp at hz1); obtain ⟨hc1, hf1⟩ := bcell hb1; first | (have hE1 := bthen2 hE (by repeat' (first | exact Below.refl _ _ | refine Below.drew ?_ | refine bdn ?_ _ | refine bal ?_ _ | refine Below.setCell ?_ (by first | (simp; done) | omega | (simp; omega)) _)) hb1; clear hE; have hE := hE1; clear hE1; obtain ⟨hd1, hg1⟩ := bcell hE) | (have hE := hb1)))
       go_ret
       exact ⟨60, rfl, K2.out.b, fun h => absurd h (by decide)⟩
      cases b2 : inB (D.H k 2) 1 100
      case false =>
       go_wp2_with (first | (go_at_call 50; (with_reducible refine (rd_from_c _ _ _ _).mono ?_); rintro e w1 ⟨rfl, rfl⟩) | (go_at_call 97; (with_reducible refine (rd_ticks_c _ _ _).mono ?_); rintro e w1 ⟨rfl, rfl⟩) | (go_at_call 98; (with_reducible refine (rf_Valid_c _ _ _).mono ?_); rintro e w1 ⟨rfl, hb1⟩; have hB1 := bthen (show Below w.heap.size w _ from (by repeat' (first | exact Below.refl _ _ | assumption | refine Below.drew ?_ | refine bdn ?_ _ | refine bal ?_ _ | refine Below.setCell ?_ (by first | (simp; done) | omega | (simp; omega)) _))) hb1; have hz1 := hb1.size; (try simp at hz1); obtain ⟨hc1, hf1⟩ := bcell hb1; first | (have hE1 := bthen2 hE (by repeat' (first | exact Below.refl _ _ | refine Below.drew ?_ | refine bdn ?_ _ | refine bal ?_ _ | refine Below.setCell ?_ (by first | (simp; done) | omega | (simp; omega)) _)) hb1; clear hE; have hE := hE1; clear hE1; obtain ⟨hd1, hg1⟩ := bcell hE) | (have hE := hb1)))
       go_ret
       exact ⟨60, rfl, K2.out.b, fun h => absurd h (by decide)⟩
      go_wp2_with (first | (go_at_call 50; (with_reducible refine (rd_from_c _ _ _ _).mono ?_); rintro e w1 ⟨rfl, rfl⟩) | (go_at_call 97; (with_reducible refine (rd_ticks_c _ _ _).mono ?_); rintro e w1 ⟨rfl, rfl⟩) | (go_at_call 98; (with_reducible refine (rf_Valid_c _ _ _).mono ?_); rintro e w1 ⟨rfl, hb1⟩; have hB1 := bthen (show Below w.heap.size w _ from (by repeat' (first | exact Below.refl _ _ | assumption | refine Below.drew ?_ | refine bdn ?_ _ | refine bal ?_ _ | refine Below.setCell ?_ (by first | (simp; done) | omega | (simp; omega)) _))) hb1; have hz1 := hb1.size; (try simp at hz1); obtain ⟨hc1, hf1⟩ := bcell hb1; first | (have hE1 := bthen2 hE (by repeat' (first | exact Below.refl _ _ | refine Below.drew ?_ | refine bdn ?_ _ | refine bal ?_ _ | refine Below.setCell ?_ (by first | (simp; done) | omega | (simp; omega)) _)) hb1; clear hE; have hE := hE1; clear hE1; obtain ⟨hd1, hg1⟩ := bcell hE) | (have hE := hb1)))
      go_roundg (D.nh - (k + 1))
      case measure => omega
      case rel => exact ⟨k + 1, by first | rfl | go_num | (congr 1; omega), by omega, Nat.le_refl _, K2, hI9 (fun j h => by
       by_cases e : j = k
       ·subst e; unfold shBad; rw [tkRd_st b1, b2]; rfl
       ·exact HS2.out j (by omega))⟩
     ·obtain rfl : k = D.nh := by omega
      go_wp2_with (fail)
      go_loopg [7] D.nu (fun gx i wr => ∃ k : Nat, i = .int .i64 k ∧ k ≤ D.nu ∧ D.nu - k ≤ gx ∧ Hid (OneK w 26 #[.int .i64 D.size, .int .i64 D.load, .int .i64 D.wind, .slice A1 D.ns k1, .int .i64 D.pitch, .int .i64 D.roll, .int .i64 D.heave, .int .i64 D.fire, .slice A2 D.nh k2, .slice A3 D.nu k3] wr) ∧ Hid (∀ j, j < k → insB (D.U j 0) (D.U j 1) 2000 = true))
      case atStart => exact ⟨0, rfl, Nat.zero_le _, Nat.le_refl _, K0, hI9 (fun j h => absurd h (Nat.not_lt_zero _))⟩
      case round =>
       clear K0
       obtain ⟨k, rfl, hk, hgx, K0, HS3⟩ := hrel
       have cHX := K0.out.m.cell 9
       simp only [gtA, gtS, gtZ] at cHX
       by_cases hlt : k < D.nu
       ·have hltz : (k : Int) < (D.nu : Int) := by omega
        obtain ⟨A', c', hA', -, -, hrec⟩ := HD.out.u.e
        simp only [Value.slice.injEq] at hA'
        obtain ⟨rfl, -, rfl⟩ := hA'
        obtain ⟨bs, off, rfl, hbs, hcell⟩ := hrec (by omega)
        have c0 : wr.cell? ⟨bs, off + k * 2, none⟩ = some (.int .i64 (D.U k 0)) := (K0.out.b.cell (p := ⟨bs, off + k * 2 + 0, none⟩) hbs).trans (hcell k hlt 0 (by omega))
        have c1 : wr.cell? ⟨bs, off + k * 2 + 1, none⟩ = some (.int .i64 (D.U k 1)) := (K0.out.b.cell (p := ⟨bs, off + k * 2 + 1, none⟩) hbs).trans (hcell k hlt 1 (by omega))
        clear hcell
        have HV := hI9 (fun w1 => rf_Valid_c (D.U k 0) (D.U k 1) w1)
        cases b1 : vspan (D.U k 0) (D.U k 1)
        case false =>
         rw [b1] at HV
         go_wp2_with (first | (go_at_call 98; refine (HV.out _).mono ?_; rintro e w2 ⟨rfl, hb2⟩; have nK0 := hI9 (K0.out.grow hb2); clear K0 hb2; have K0 := nK0; clear nK0 cHX; have cHX := K0.out.m.cell 9; simp only [gtA, gtS, gtZ] at cHX))
         go_ret
         exact ⟨60, rfl, K0.out.b, fun h => absurd h (by decide)⟩
        rw [b1] at HV
        have HV1 := hI9 b1
        clear b1
        have hbw : bs < wr.heap.size := Nat.lt_of_lt_of_le hbs K0.out.b.size
        by_cases h1 : D.U k 0 < 0
        ·go_wp2_with (first | (go_at_call 98; refine (HV.out _).mono ?_; rintro e w2 ⟨rfl, hb2⟩; have nK0 := hI9 (K0.out.grow hb2); have nc0 := (hb2.cell (p := ⟨bs, off + k * 2, none⟩) hbw).trans c0; have nc1 := (hb2.cell (p := ⟨bs, off + k * 2 + 1, none⟩) hbw).trans c1; clear K0 hb2 c0 c1; have K0 := nK0; have c0 := nc0; have c1 := nc1; clear nK0 nc0 nc1 cHX; have cHX := K0.out.m.cell 9; simp only [gtA, gtS, gtZ] at cHX))
         go_ret
         exact ⟨60, rfl, K0.out.b, fun h => absurd h (by decide)⟩
        by_cases h2 : 2000 < D.U k 1
        ·go_wp2_with (first | (go_at_call 98; refine (HV.out _).mono ?_; rintro e w2 ⟨rfl, hb2⟩; have nK0 := hI9 (K0.out.grow hb2); have nc0 := (hb2.cell (p := ⟨bs, off + k * 2, none⟩) hbw).trans c0; have nc1 := (hb2.cell (p := ⟨bs, off + k * 2 + 1, none⟩) hbw).trans c1; clear K0 hb2 c0 c1; have K0 := nK0; have c0 := nc0; have c1 := nc1; clear nK0 nc0 nc1 cHX; have cHX := K0.out.m.cell 9; simp only [gtA, gtS, gtZ] at cHX))
         go_ret
         exact ⟨60, rfl, K0.out.b, fun h => absurd h (by decide)⟩
        have hvs := vspan_iff'.1 HV1.out
        go_wp2_with (first | (go_at_call 98; refine (HV.out _).mono ?_; rintro e w2 ⟨rfl, hb2⟩; have nK0 := hI9 (K0.out.grow hb2); have nc0 := (hb2.cell (p := ⟨bs, off + k * 2, none⟩) hbw).trans c0; have nc1 := (hb2.cell (p := ⟨bs, off + k * 2 + 1, none⟩) hbw).trans c1; clear K0 hb2 c0 c1; have K0 := nK0; have c0 := nc0; have c1 := nc1; clear nK0 nc0 nc1 cHX; have cHX := K0.out.m.cell 9; simp only [gtA, gtS, gtZ] at cHX))
        go_roundg (D.nu - (k + 1))
        case measure => omega
        case rel => exact ⟨k + 1, by first | rfl | go_num | (congr 1; omega), by omega, Nat.le_refl _, K0, hI9 (fun j h => by
         by_cases e : j = k
         ·subst e; exact insB_iff.2 ⟨HV1.out, by omega, by omega, by omega⟩
         ·exact HS3.out j (by omega))⟩
       ·obtain rfl : k = D.nu := by omega
        go_wp2_with (fail)
        go_ret
        exact ⟨0, rfl, K0.out.b, fun _ => by
         obtain ⟨b1, b2, b3, b4, b5, b6, b7⟩ := HBS.out
         unfold DekD.bad
         rw [b1, b2, b3, b4, b5, b6, b7]
         simp only [Bool.not_true, Bool.or_false, Bool.false_or, Bool.or_eq_false_iff, decide_eq_false_iff_not, List.any_eq_false, List.mem_range]
         exact ⟨⟨by omega, fun j h => by rw [HS1.out j h]; decide⟩, ⟨by omega, fun j h => by rw [HS2.out j h]; decide⟩, by omega, fun j h => by rw [HS3.out j h]; decide⟩⟩
 all_goals
  go_enter Tryz.func47, Tryz.ntmps47
  go_wp2_with (fail)
  have _x := frm1 w #[.int .i64 D.size, .int .i64 D.load, .int .i64 D.wind, .slice A1 D.ns k1, .int .i64 D.pitch, .int .i64 D.roll, .int .i64 D.heave, .int .i64 D.fire, .slice A2 D.nh k2, .slice A3 D.nu k3] 26
  have HX := hI9 _x.1
  have HB := hI9 _x.2.1
  have zW := _x.2.2
  clear _x
  generalize World.alloc w _ = W at *
  have zHX := HX.out.lt
  have cHX0 := HX.out.cell 0
  have cHX1 := HX.out.cell 1
  have cHX2 := HX.out.cell 2
  have cHX3 := HX.out.cell 3
  have cHX4 := HX.out.cell 4
  have cHX5 := HX.out.cell 5
  have cHX6 := HX.out.cell 6
  have cHX7 := HX.out.cell 7
  have cHX8 := HX.out.cell 8
  have cHX9 := HX.out.cell 9
  simp only [gtA, gtS, gtZ] at cHX0 cHX1 cHX2 cHX3 cHX4 cHX5 cHX6 cHX7 cHX8 cHX9
  go_wp2_with (first | (go_at_call 50; (with_reducible refine (rd_from_c _ _ _ _).mono ?_); rintro e w1 ⟨rfl, rfl⟩) | (go_at_call 96; (with_reducible refine (rd_swell_c _ _ _).mono ?_); rintro e w1 ⟨rfl, rfl⟩))
  go_ret
  exact ⟨60, rfl, HB.out, fun h => absurd h (by decide)⟩
end Go.Proofs.YtlambeiafdpkgaaGreat
