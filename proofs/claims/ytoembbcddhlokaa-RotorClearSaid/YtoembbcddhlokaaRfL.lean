/- Contracts: Bound, Part of the references; bound, lies of the reference of rotors. -/
import Derived.Test.YtoembbcddhlokaaRfK
set_option linter.all false
namespace Go.Proofs.Ytoembbcddhlokaa
open Go Go.RowKit Go.Proofs
set_option maxRecDepth 100000
set_option maxHeartbeats 4000000

theorem rf_CheckBound_c (x y v : Value) (T : Tbl) (xl xh yl yh : Int) (w : World) (hT : TblAt w x y v T) (hF : Fits T xl xh yl yh) :
   Calls Try.prog 135 #[.agg #[x, y, v], .agg #[.int .i64 xl, .int .i64 xh], .agg #[.int .i64 yl, .int .i64 yh]] w fun e w' => e = .returned (.int .i64 0) ∧ Below w.heap.size w w' := by
  have hX := axisB_len (tblB_X hF.t)
  have hY := axisB_len (tblB_Y hF.t)
  have C1 := Lib.hid (fun w1 (h : TblAt w1 x y v T) => (show Calls Try.prog 108 #[.agg #[x, y, v]] w1 fun e w' => e = .returned (.int .i64 0) ∧ Below w1.heap.size w1 w' by have := rf_CheckTable_c x y v T w1 h; rwa [hF.t, tblE_t] at this))
  have C2 := Lib.hid (fun w1 => (show Calls Try.prog 142 #[.agg #[.int .i64 xl, .int .i64 xh], .agg #[.int .i64 yl, .int .i64 yh]] w1 fun e w' => e = .returned (.int .i64 0) ∧ Below w1.heap.size w1 w' by have := rf_two_c xl xh yl yh w1; rwa [hF.vx, hF.vy, show (!true || !true) = false from rfl, spanE_f] at this))
  have C3 := Lib.hid (fun w1 (h : TblAt w1 x y v T) => (show Calls Try.prog 97 #[x, .agg #[.int .i64 xl, .int .i64 xh]] w1 fun e w' => e = .returned (.bool true) ∧ Below w1.heap.size w1 w' by have := rf_Between_c x T.X xl xh w1 h.x (by omega); rwa [hF.lx] at this))
  have C4 := Lib.hid (fun w1 (h : TblAt w1 x y v T) => (show Calls Try.prog 97 #[y, .agg #[.int .i64 yl, .int .i64 yh]] w1 fun e w' => e = .returned (.bool true) ∧ Below w1.heap.size w1 w' by have := rf_Between_c y T.Y yl yh w1 h.y (by omega); rwa [hF.ly] at this))
  have HT := Lib.hid hT
  clear hT hF hX hY
  go_enter Try.func135, Try.ntmps135
  go_wp2_with (first | (go_at_call 108; (with_reducible refine (C1.out _ (HT.out.below (by repeat' (first | exact Below.refl _ _ | assumption | refine Below.drew ?_ | refine bdn ?_ _ | refine bal ?_ _ | refine Below.setCell ?_ (by first | (simp; done) | omega | (simp; omega)) _)))).mono ?_); rintro e w1 ⟨rfl, hb1⟩; have hB1 := bthen (show Below w.heap.size w _ from (by repeat' (first | exact Below.refl _ _ | assumption | refine Below.drew ?_ | refine bdn ?_ _ | refine bal ?_ _ | refine Below.setCell ?_ (by first | (simp; done) | omega | (simp; omega)) _))) hb1; have hz1 := hb1.size; (try simp at hz1); obtain ⟨hc1, hf1⟩ := bcell hb1; first | (have hE1 := bthen2 hE (by repeat' (first | exact Below.refl _ _ | refine Below.drew ?_ | refine bdn ?_ _ | refine bal ?_ _ | refine Below.setCell ?_ (by first | (simp; done) | omega | (simp; omega)) _)) hb1; clear hE; have hE := hE1; clear hE1; obtain ⟨hd1, hg1⟩ := bcell hE) | (have hE := hb1)) | (go_at_call 142; (with_reducible refine (C2.out _).mono ?_); rintro e w1 ⟨rfl, hb1⟩; have hB1 := bthen (show Below w.heap.size w _ from (by repeat' (first | exact Below.refl _ _ | assumption | refine Below.drew ?_ | refine bdn ?_ _ | refine bal ?_ _ | refine Below.setCell ?_ (by first | (simp; done) | omega | (simp; omega)) _))) hb1; have hz1 := hb1.size; (try simp at hz1); obtain ⟨hc1, hf1⟩ := bcell hb1; first | (have hE1 := bthen2 hE (by repeat' (first | exact Below.refl _ _ | refine Below.drew ?_ | refine bdn ?_ _ | refine bal ?_ _ | refine Below.setCell ?_ (by first | (simp; done) | omega | (simp; omega)) _)) hb1; clear hE; have hE := hE1; clear hE1; obtain ⟨hd1, hg1⟩ := bcell hE) | (have hE := hb1)) | (go_at_call 97; (with_reducible refine (C3.out _ (HT.out.below (by repeat' (first | exact Below.refl _ _ | assumption | refine Below.drew ?_ | refine bdn ?_ _ | refine bal ?_ _ | refine Below.setCell ?_ (by first | (simp; done) | omega | (simp; omega)) _)))).mono ?_); rintro e w1 ⟨rfl, hb1⟩; have hB1 := bthen (show Below w.heap.size w _ from (by repeat' (first | exact Below.refl _ _ | assumption | refine Below.drew ?_ | refine bdn ?_ _ | refine bal ?_ _ | refine Below.setCell ?_ (by first | (simp; done) | omega | (simp; omega)) _))) hb1; have hz1 := hb1.size; (try simp at hz1); obtain ⟨hc1, hf1⟩ := bcell hb1; first | (have hE1 := bthen2 hE (by repeat' (first | exact Below.refl _ _ | refine Below.drew ?_ | refine bdn ?_ _ | refine bal ?_ _ | refine Below.setCell ?_ (by first | (simp; done) | omega | (simp; omega)) _)) hb1; clear hE; have hE := hE1; clear hE1; obtain ⟨hd1, hg1⟩ := bcell hE) | (have hE := hb1)) | (go_at_call 97; (with_reducible refine (C4.out _ (HT.out.below (by repeat' (first | exact Below.refl _ _ | assumption | refine Below.drew ?_ | refine bdn ?_ _ | refine bal ?_ _ | refine Below.setCell ?_ (by first | (simp; done) | omega | (simp; omega)) _)))).mono ?_); rintro e w1 ⟨rfl, hb1⟩; have hB1 := bthen (show Below w.heap.size w _ from (by repeat' (first | exact Below.refl _ _ | assumption | refine Below.drew ?_ | refine bdn ?_ _ | refine bal ?_ _ | refine Below.setCell ?_ (by first | (simp; done) | omega | (simp; omega)) _))) hb1; have hz1 := hb1.size; (try simp at hz1); obtain ⟨hc1, hf1⟩ := bcell hb1; first | (have hE1 := bthen2 hE (by repeat' (first | exact Below.refl _ _ | refine Below.drew ?_ | refine bdn ?_ _ | refine bal ?_ _ | refine Below.setCell ?_ (by first | (simp; done) | omega | (simp; omega)) _)) hb1; clear hE; have hE := hE1; clear hE1; obtain ⟨hd1, hg1⟩ := bcell hE) | (have hE := hb1)))
  go_ret
  exact ⟨rfl, (by repeat' (first | exact Below.refl _ _ | assumption | refine Below.drew ?_ | refine bdn ?_ _ | refine bal ?_ _ | refine Below.setCell ?_ (by first | (simp; done) | omega | (simp; omega)) _))⟩

theorem rf_Bound_c (x y v : Value) (T : Tbl) (xl xh yl yh : Int) (w : World) (hT : TblAt w x y v T) (hF : Fits T xl xh yl yh) :
   Calls Try.prog 118 #[.agg #[x, y, v], .agg #[.int .i64 xl, .int .i64 xh], .agg #[.int .i64 yl, .int .i64 yh]] w fun e w' => e = .returned (.tuple #[.agg #[.int .i64 (bLo T xl xh yl yh), .int .i64 (bHi T xl xh yl yh)], .int .i64 0]) ∧ Below w.heap.size w w' := by
  have C1 := Lib.hid (fun w1 hT => rf_CheckBound_c x y v T xl xh yl yh w1 hT hF)
  have C2 := Lib.hid (fun w1 hT => rf_bound_c x y v T xl xh yl yh w1 hT hF)
  have HT := Lib.hid hT
  clear hT hF
  generalize bLo T xl xh yl yh = p0 at *
  generalize bHi T xl xh yl yh = p1 at *
  go_enter Try.func118, Try.ntmps118
  go_wp2_with (first | (go_at_call 135; (with_reducible refine (C1.out _ (HT.out.below (by repeat' (first | exact Below.refl _ _ | assumption | refine Below.drew ?_ | refine bdn ?_ _ | refine bal ?_ _ | refine Below.setCell ?_ (by first | (simp; done) | omega | (simp; omega)) _)))).mono ?_); rintro e u1 ⟨rfl, hu1⟩; have uB := bthen (show Below w.heap.size w _ from (by repeat' (first | exact Below.refl _ _ | assumption | refine Below.drew ?_ | refine bdn ?_ _ | refine bal ?_ _ | refine Below.setCell ?_ (by first | (simp; done) | omega | (simp; omega)) _))) hu1; have hz0 := hu1.size; (try simp at hz0); have rB := Lib.hid (Blk.below (Blk.new _ 34 #[.int .i64 0, .int .i64 0]) hu1); obtain ⟨hc1, hf1⟩ := bcell hu1; clear hu1) | (go_at_call 136; (with_reducible refine (C2.out _ (HT.out.below uB)).mono ?_); rintro e w1 ⟨rfl, hb1⟩; have hB1 := bthen uB hb1; have rC := Lib.hid (rB.out.below hb1); clear rB; have g0 := rC.out.cell 0; have g1 := rC.out.cell 1; have g2 := fun i => rC.out.frozen i; simp at g0 g1 g2; have hz1 := hb1.size))
  have rC' := rC.out
  simp only [World.size_alloc] at rC'
  exact bodyPost_ret (res_ct rfl _ _ #[.int .i64 p0, .int .i64 p1] 2 rfl ((rC'.set_ 0 _).set_ 1 _) Try.rowSpan rfl) rfl ⟨rfl, bset (bset hB1 (by omega) _) (by omega) _⟩

theorem rf_made_c (lo hi : Int) (w : World) (hv : vspan lo hi = true) :
   Calls Try.prog 124 #[.agg #[.int .i64 lo, .int .i64 hi]] w fun e w' => e = .returned (.tuple #[.agg #[.int .i64 lo, .int .i64 hi], .int .i64 0]) ∧ Below w.heap.size w w' := by
  have C1 := Lib.hid (fun w1 => (show Calls Try.prog 24 #[.agg #[.int .i64 lo, .int .i64 hi]] w1 fun e w' => e = .returned (.bool true) ∧ Below w1.heap.size w1 w' by have := rf_Valid_c lo hi w1; rwa [hv] at this))
  clear hv
  go_enter Try.func124, Try.ntmps124
  go_wp2_with (first | (go_at_call 24; (with_reducible refine (C1.out _).mono ?_); rintro e w1 ⟨rfl, hb1⟩; have hB1 := bthen (show Below w.heap.size w _ from (by repeat' (first | exact Below.refl _ _ | assumption | refine Below.drew ?_ | refine bdn ?_ _ | refine bal ?_ _ | refine Below.setCell ?_ (by first | (simp; done) | omega | (simp; omega)) _))) hb1; have rC := Lib.hid (Blk.below (show Blk _ (w.heap.size + 1) 34 #[.int .i64 0, .int .i64 0] from (by repeat (first | (refine Blk.newAt _ _ _ ?_; first | rfl | (simp; done)) | refine Blk.alloc ?_ _))) hb1); have rA := Lib.hid (Blk.below (show Blk _ (w.heap.size) 34 #[.int .i64 lo, .int .i64 hi] from (by repeat (first | (refine Blk.newAt _ _ _ ?_; first | rfl | (simp; done)) | refine Blk.alloc ?_ _))) hb1); have a0 := rA.out.cell 0; have a1 := rA.out.cell 1; have g0 := rC.out.cell 0; have g1 := rC.out.cell 1; have g2 := fun i => rC.out.frozen i))
  exact bodyPost_ret (res_ct rfl _ _ #[.int .i64 lo, .int .i64 hi] 2 rfl ((rC.out.set_ 0 _).set_ 1 _) Try.rowSpan rfl) rfl ⟨rfl, bset (bset hB1 (by omega) _) (by omega) _⟩

theorem rf_Part_c (lo hi num den : Int) (w : World) (hv : vspan lo hi = true) (hn : inB num 0 1000 = true) (hd : inB den 1 1000 = true) (hm : vspan (partLo lo num den) (partHi hi num den) = true) :
   Calls Try.prog 99 #[.agg #[.int .i64 lo, .int .i64 hi], .int .i64 num, .int .i64 den] w fun e w' => e = .returned (.tuple #[.agg #[.int .i64 (partLo lo num den), .int .i64 (partHi hi num den)], .int .i64 0]) ∧ Below w.heap.size w w' := by
  have hn' := inB_iff.1 hn
  have hd' := inB_iff.1 hd
  have hb := vspan_bd hv
  have m1 := mul_bd (a := lo) (b := num) (A := 1000000000) (B := 1000) (by omega) (by omega) (by omega) (by omega)
  have m2 := mul_bd (a := hi) (b := num) (A := 1000000000) (B := 1000) (by omega) (by omega) (by omega) (by omega)
  have W1 : wrap64 (lo * num) = lo * num := wrap64_in (by omega) (by omega)
  have W2 : wrap64 (hi * num) = hi * num := wrap64_in (by omega) (by omega)
  unfold partLo partHi at *
  have F1 := fun w => rf_floor_c (lo * num) den w (by omega) (by omega) (by omega) (by omega)
  have F2 := fun w => rf_ceil_c (hi * num) den w (by omega) (by omega) (by omega) (by omega)
  rw [← W1] at F1
  rw [← W2] at F2
  rw [← W1, ← W2] at hm
  replace F1 := Lib.hid F1
  replace F2 := Lib.hid F2
  have HM := Lib.hid (fun w => rf_made_c (wrap64 (lo * num) / den) (cdiv (wrap64 (hi * num)) den) w hm)
  have HV := Lib.hid (fun w1 => (show Calls Try.prog 24 #[.agg #[.int .i64 lo, .int .i64 hi]] w1 fun e w' => e = .returned (.bool true) ∧ Below w1.heap.size w1 w' by have := rf_Valid_c lo hi w1; rwa [hv] at this))
  have HN := Lib.hid (fun w1 => (show Calls Try.prog 60 #[.int .i64 num, .int .i64 0, .int .i64 1000] w1 fun e w' => e = .returned (.bool true) ∧ w1 = w' by have := rf_From_c num 0 1000 w1; rwa [hn] at this))
  have HD := Lib.hid (fun w1 => (show Calls Try.prog 60 #[.int .i64 den, .int .i64 1, .int .i64 1000] w1 fun e w' => e = .returned (.bool true) ∧ w1 = w' by have := rf_From_c den 1 1000 w1; rwa [hd] at this))
  have HW1 := Lib.hid W1
  have HW2 := Lib.hid W2
  clear hm hb m1 m2 W1 W2 hn' hd' hv hn hd
  go_enter Try.func99, Try.ntmps99
  go_wp2_with (first | (go_at_call 24; (with_reducible refine (HV.out _).mono ?_); rintro e w1 ⟨rfl, hb1⟩; have hB1 := bthen (show Below w.heap.size w _ from (by repeat' (first | exact Below.refl _ _ | assumption | refine Below.drew ?_ | refine bdn ?_ _ | refine bal ?_ _ | refine Below.setCell ?_ (by first | (simp; done) | omega | (simp; omega)) _))) hb1; have hz1 := hb1.size; (try simp at hz1); obtain ⟨hc1, hf1⟩ := bcell hb1; first | (have hE1 := bthen2 hE (by repeat' (first | exact Below.refl _ _ | refine Below.drew ?_ | refine bdn ?_ _ | refine bal ?_ _ | refine Below.setCell ?_ (by first | (simp; done) | omega | (simp; omega)) _)) hb1; clear hE; have hE := hE1; clear hE1; obtain ⟨hd1, hg1⟩ := bcell hE) | (have hE := hb1)) | (go_at_call 60; (with_reducible refine (HN.out _).mono ?_); rintro e w1 ⟨rfl, rfl⟩) | (go_at_call 60; (with_reducible refine (HD.out _).mono ?_); rintro e w1 ⟨rfl, rfl⟩))
  have C1 : Blk w1 w.heap.size 34 #[.int .i64 lo, .int .i64 hi] := Blk.below (by repeat (first | (refine Blk.newAt _ _ _ ?_; first | rfl | (simp; done)) | refine Blk.alloc ?_ _)) hb1
  have C2 : Blk w1 (w.heap.size + 1) 34 #[.int .i64 0, .int .i64 0] := Blk.below (by repeat (first | (refine Blk.newAt _ _ _ ?_; first | rfl | (simp; done)) | refine Blk.alloc ?_ _)) hb1
  have f1 : ∀ r : After w1, r.w.cell? ⟨w.heap.size, 0, none⟩ = some (.int .i64 lo) := fun r => (C1.below r.below).cell 0
  have f2 : ∀ r : After w1, r.w.cell? ⟨w.heap.size, 1, none⟩ = some (.int .i64 hi) := fun r => (C1.below r.below).cell 1
  clear hb1 hz1 hc1 hf1 hE
  (refine wp_region_aftert 16 (by kernel_rfl) (by kernel_rfl) ?_; simp only [List.take_succ_cons, List.take_zero, List.drop_succ_cons, List.drop_zero]; (repeat (go_big_quiet_step ( first | (go_at_call 125; (with_reducible refine qafter_same (F1.out _))) | (go_at_call 126; (with_reducible refine qafter_same (F2.out _))) | (go_at_call 124; (with_reducible refine qafter (HM.out _)))))); refine wpQuiet_nil ?_; rintro _ ⟨r, rfl⟩)
  have R' := C2.below r.below
  have g0 : r.w.cell? ⟨w.heap.size + 1, 0, none⟩ = some (.int .i64 0) := R'.cell 0
  have g1 : r.w.cell? ⟨w.heap.size + 1, 1, none⟩ = some (.int .i64 0) := R'.cell 1
  have g2 := fun i => R'.frozen i
  clear f1 f2
  have BR := bthen hB1 r.below
  go_wp2
  exact bodyPost_ret (res_ct rfl _ _ #[.int .i64 (wrap64 (lo * num) / den), .int .i64 (cdiv (wrap64 (hi * num)) den)] 2 rfl ((R'.set_ 0 _).set_ 1 _) Try.rowSpan rfl) rfl ⟨by rw [HW1.out, HW2.out]; rfl, bset (bset BR (by omega) _) (by omega) _⟩

theorem rf2_bound_c (x y v : Value) (T : Tbl) (xl xh yl yh : Int) (w : World) (hT : TblAt w x y v T) (hF : Fits T xl xh yl yh) :
   Calls Try.prog 80 #[.agg #[x, y, v], .agg #[.int .i64 xl, .int .i64 xh], .agg #[.int .i64 yl, .int .i64 yh]] w fun e w' => e = .returned (.agg #[.int .i64 (bLo T xl xh yl yh), .int .i64 (bHi T xl xh yl yh)]) ∧ Below w.heap.size w w' := by
  have C2 := Lib.hid (fun w1 hT => rf_Bound_c x y v T xl xh yl yh w1 hT hF)
  have HT := Lib.hid hT
  clear hT hF
  generalize bLo T xl xh yl yh = p0 at *
  generalize bHi T xl xh yl yh = p1 at *
  go_enter Try.func80, Try.ntmps80
  go_wp2_with (first | (go_at_call 118; (with_reducible refine (C2.out _ (HT.out.below (by repeat' (first | exact Below.refl _ _ | assumption | refine Below.drew ?_ | refine bdn ?_ _ | refine bal ?_ _ | refine Below.setCell ?_ (by first | (simp; done) | omega | (simp; omega)) _)))).mono ?_); rintro e w1 ⟨rfl, hb1⟩; have hB1 := bthen (show Below w.heap.size w _ from (by repeat' (first | exact Below.refl _ _ | assumption | refine Below.drew ?_ | refine bdn ?_ _ | refine bal ?_ _ | refine Below.setCell ?_ (by first | (simp; done) | omega | (simp; omega)) _))) hb1; have rC := Lib.hid (Blk.below (show Blk _ (w.heap.size + 1 + 1 + 1) 34 #[.int .i64 0, .int .i64 0] from (by repeat (first | (refine Blk.newAt _ _ _ ?_; first | rfl | (simp; done)) | refine Blk.alloc ?_ _))) hb1); have rD := Lib.hid (rC.out.alloc (.cells #[.int .i64 p0, .int .i64 p1] 34)); have g0 := rD.out.cell 0; have g1 := rD.out.cell 1; have g2 := fun i => rD.out.frozen i; have hz1 := hb1.size; (try simp at hz1)))
  exact bodyPost_ret (res_c rfl _ _ #[.int .i64 p0, .int .i64 p1] 2 rfl ((rD.out.set_ 0 _).set_ 1 _) Try.rowSpan rfl) rfl ⟨rfl, bset (bset (bal hB1 _) (by omega) _) (by omega) _⟩

/-- Whether two spans are valid and lie on a table, as the reference asks. -/
def lieB (T : Tbl) (xl xh yl yh : Int) : Bool := vspan xl xh && (vspan yl yh && (liesB T.X xl xh && liesB T.Y yl yh))
theorem lieB_eq {T : Tbl} {xl xh yl yh : Int} : lieB T xl xh yl yh = (vspan xl xh && (vspan yl yh && lkE T xl xh yl yh)) := rfl
theorem rf2_lies_c (x y v : Value) (T : Tbl) (xl xh yl yh : Int) (w : World) (hT : TblAt w x y v T) (h0 : 0 < T.X.length) (h1 : 0 < T.Y.length) :
   Calls Try.prog 70 #[.agg #[x, y, v], .agg #[.int .i64 xl, .int .i64 xh], .agg #[.int .i64 yl, .int .i64 yh]] w fun e w' => e = .returned (.bool (lieB T xl xh yl yh)) ∧ Below w.heap.size w w' := by
  have HT := Lib.hid hT
  have HX := Lib.hid (fun w1 hv => rf_Between_c x T.X xl xh w1 hv h0)
  have HY := Lib.hid (fun w1 hv => rf_Between_c y T.Y yl yh w1 hv h1)
  clear hT h0 h1
  unfold lieB
  generalize liesB T.X xl xh = p3 at *
  generalize liesB T.Y yl yh = p4 at *
  cases p1 : vspan xl xh
  case true =>
    cases p2 : vspan yl yh
    case true =>
      cases p3
      case true =>
        cases p4
        all_goals
          go_enter Try.func70, Try.ntmps70
          go_wp2_with (first | (go_at_call 24; (with_reducible refine (rf_Valid_c _ _ _).mono ?_); rintro e w1 ⟨rfl, hb1⟩; have hB1 := bthen (show Below w.heap.size w _ from (by repeat' (first | exact Below.refl _ _ | assumption | refine Below.drew ?_ | refine bdn ?_ _ | refine bal ?_ _ | refine Below.setCell ?_ (by first | (simp; done) | omega | (simp; omega)) _))) hb1; have hz1 := hb1.size; (try simp at hz1); obtain ⟨hc1, hf1⟩ := bcell hb1; first | (have hE1 := bthen2 hE (by repeat' (first | exact Below.refl _ _ | refine Below.drew ?_ | refine bdn ?_ _ | refine bal ?_ _ | refine Below.setCell ?_ (by first | (simp; done) | omega | (simp; omega)) _)) hb1; clear hE; have hE := hE1; clear hE1; obtain ⟨hd1, hg1⟩ := bcell hE) | (have hE := hb1)) | (go_at_call 97; (with_reducible refine (HX.out _ (HT.out.x.below (by repeat' (first | exact Below.refl _ _ | assumption | refine Below.drew ?_ | refine bdn ?_ _ | refine bal ?_ _ | refine Below.setCell ?_ (by first | (simp; done) | omega | (simp; omega)) _)))).mono ?_); rintro e w1 ⟨rfl, hb1⟩; have hB1 := bthen (show Below w.heap.size w _ from (by repeat' (first | exact Below.refl _ _ | assumption | refine Below.drew ?_ | refine bdn ?_ _ | refine bal ?_ _ | refine Below.setCell ?_ (by first | (simp; done) | omega | (simp; omega)) _))) hb1; have hz1 := hb1.size; (try simp at hz1); obtain ⟨hc1, hf1⟩ := bcell hb1; first | (have hE1 := bthen2 hE (by repeat' (first | exact Below.refl _ _ | refine Below.drew ?_ | refine bdn ?_ _ | refine bal ?_ _ | refine Below.setCell ?_ (by first | (simp; done) | omega | (simp; omega)) _)) hb1; clear hE; have hE := hE1; clear hE1; obtain ⟨hd1, hg1⟩ := bcell hE) | (have hE := hb1)) | (go_at_call 97; (with_reducible refine (HY.out _ (HT.out.y.below (by repeat' (first | exact Below.refl _ _ | assumption | refine Below.drew ?_ | refine bdn ?_ _ | refine bal ?_ _ | refine Below.setCell ?_ (by first | (simp; done) | omega | (simp; omega)) _)))).mono ?_); rintro e w1 ⟨rfl, hb1⟩; have hB1 := bthen (show Below w.heap.size w _ from (by repeat' (first | exact Below.refl _ _ | assumption | refine Below.drew ?_ | refine bdn ?_ _ | refine bal ?_ _ | refine Below.setCell ?_ (by first | (simp; done) | omega | (simp; omega)) _))) hb1; have hz1 := hb1.size; (try simp at hz1); obtain ⟨hc1, hf1⟩ := bcell hb1; first | (have hE1 := bthen2 hE (by repeat' (first | exact Below.refl _ _ | refine Below.drew ?_ | refine bdn ?_ _ | refine bal ?_ _ | refine Below.setCell ?_ (by first | (simp; done) | omega | (simp; omega)) _)) hb1; clear hE; have hE := hE1; clear hE1; obtain ⟨hd1, hg1⟩ := bcell hE) | (have hE := hb1)))
          go_ret
          exact ⟨rfl, (by repeat' (first | exact Below.refl _ _ | assumption | refine Below.drew ?_ | refine bdn ?_ _ | refine bal ?_ _ | refine Below.setCell ?_ (by first | (simp; done) | omega | (simp; omega)) _))⟩
      go_enter Try.func70, Try.ntmps70
      go_wp2_with (first | (go_at_call 24; (with_reducible refine (rf_Valid_c _ _ _).mono ?_); rintro e w1 ⟨rfl, hb1⟩; have hB1 := bthen (show Below w.heap.size w _ from (by repeat' (first | exact Below.refl _ _ | assumption | refine Below.drew ?_ | refine bdn ?_ _ | refine bal ?_ _ | refine Below.setCell ?_ (by first | (simp; done) | omega | (simp; omega)) _))) hb1; have hz1 := hb1.size; (try simp at hz1); obtain ⟨hc1, hf1⟩ := bcell hb1; first | (have hE1 := bthen2 hE (by repeat' (first | exact Below.refl _ _ | refine Below.drew ?_ | refine bdn ?_ _ | refine bal ?_ _ | refine Below.setCell ?_ (by first | (simp; done) | omega | (simp; omega)) _)) hb1; clear hE; have hE := hE1; clear hE1; obtain ⟨hd1, hg1⟩ := bcell hE) | (have hE := hb1)) | (go_at_call 97; (with_reducible refine (HX.out _ (HT.out.x.below (by repeat' (first | exact Below.refl _ _ | assumption | refine Below.drew ?_ | refine bdn ?_ _ | refine bal ?_ _ | refine Below.setCell ?_ (by first | (simp; done) | omega | (simp; omega)) _)))).mono ?_); rintro e w1 ⟨rfl, hb1⟩; have hB1 := bthen (show Below w.heap.size w _ from (by repeat' (first | exact Below.refl _ _ | assumption | refine Below.drew ?_ | refine bdn ?_ _ | refine bal ?_ _ | refine Below.setCell ?_ (by first | (simp; done) | omega | (simp; omega)) _))) hb1; have hz1 := hb1.size; (try simp at hz1); obtain ⟨hc1, hf1⟩ := bcell hb1; first | (have hE1 := bthen2 hE (by repeat' (first | exact Below.refl _ _ | refine Below.drew ?_ | refine bdn ?_ _ | refine bal ?_ _ | refine Below.setCell ?_ (by first | (simp; done) | omega | (simp; omega)) _)) hb1; clear hE; have hE := hE1; clear hE1; obtain ⟨hd1, hg1⟩ := bcell hE) | (have hE := hb1)))
      go_ret
      exact ⟨rfl, (by repeat' (first | exact Below.refl _ _ | assumption | refine Below.drew ?_ | refine bdn ?_ _ | refine bal ?_ _ | refine Below.setCell ?_ (by first | (simp; done) | omega | (simp; omega)) _))⟩
    go_enter Try.func70, Try.ntmps70
    go_wp2_with (first | (go_at_call 24; (with_reducible refine (rf_Valid_c _ _ _).mono ?_); rintro e w1 ⟨rfl, hb1⟩; have hB1 := bthen (show Below w.heap.size w _ from (by repeat' (first | exact Below.refl _ _ | assumption | refine Below.drew ?_ | refine bdn ?_ _ | refine bal ?_ _ | refine Below.setCell ?_ (by first | (simp; done) | omega | (simp; omega)) _))) hb1; have hz1 := hb1.size; (try simp at hz1); obtain ⟨hc1, hf1⟩ := bcell hb1; first | (have hE1 := bthen2 hE (by repeat' (first | exact Below.refl _ _ | refine Below.drew ?_ | refine bdn ?_ _ | refine bal ?_ _ | refine Below.setCell ?_ (by first | (simp; done) | omega | (simp; omega)) _)) hb1; clear hE; have hE := hE1; clear hE1; obtain ⟨hd1, hg1⟩ := bcell hE) | (have hE := hb1)))
    go_ret
    exact ⟨rfl, (by repeat' (first | exact Below.refl _ _ | assumption | refine Below.drew ?_ | refine bdn ?_ _ | refine bal ?_ _ | refine Below.setCell ?_ (by first | (simp; done) | omega | (simp; omega)) _))⟩
  go_enter Try.func70, Try.ntmps70
  go_wp2_with (first | (go_at_call 24; (with_reducible refine (rf_Valid_c _ _ _).mono ?_); rintro e w1 ⟨rfl, hb1⟩; have hB1 := bthen (show Below w.heap.size w _ from (by repeat' (first | exact Below.refl _ _ | assumption | refine Below.drew ?_ | refine bdn ?_ _ | refine bal ?_ _ | refine Below.setCell ?_ (by first | (simp; done) | omega | (simp; omega)) _))) hb1; have hz1 := hb1.size; (try simp at hz1); obtain ⟨hc1, hf1⟩ := bcell hb1; first | (have hE1 := bthen2 hE (by repeat' (first | exact Below.refl _ _ | refine Below.drew ?_ | refine bdn ?_ _ | refine bal ?_ _ | refine Below.setCell ?_ (by first | (simp; done) | omega | (simp; omega)) _)) hb1; clear hE; have hE := hE1; clear hE1; obtain ⟨hd1, hg1⟩ := bcell hE) | (have hE := hb1)))
  go_ret
  exact ⟨rfl, (by repeat' (first | exact Below.refl _ _ | assumption | refine Below.drew ?_ | refine bdn ?_ _ | refine bal ?_ _ | refine Below.setCell ?_ (by first | (simp; done) | omega | (simp; omega)) _))⟩
end Go.Proofs.Ytoembbcddhlokaa
