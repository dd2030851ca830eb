/- Contracts: motion, CheckMotion of package deck. -/
import Derived.Test.YtafkifjebimdaaaGreatJAL
set_option linter.all false
namespace Go.Proofs.YtafkifjebimdaaaGreat
open Go Go.RowKit Go.Proofs
set_option maxRecDepth 100000
set_option maxHeartbeats 8000000
theorem Tryz.entMo : ∀ args w, (callFunc 109 args).run Tryz.prog w = .ok (.enter 109 args) w := enters_of Tryz.func109 (by kernel_rfl) rfl
theorem dmo1_c (n : Int) (w : World) : Calls Tryz.prog 109 #[.int .i64 n] w fun e w' => e = .returned (.bool (!inB n (-300) 300)) ∧ w = w' := by
  go_enter Tryz.func109, Tryz.ntmps109
  go_wp2_with (first | (go_at_call 33; (with_reducible refine (dwithin_c _ _ _ _).mono ?_); rintro e w1 ⟨rfl, rfl⟩))
  go_ret
  exact ⟨rfl, rfl⟩
def movX (Mo : MovD) (k : Nat) : Int := if k < Mo.np then Mo.P k else if k < 2 * Mo.np then Mo.R (k - Mo.np) else Mo.V (k - 2 * Mo.np)
theorem movL_get (Mo : MovD) (k : Nat) (hk : k < 3 * Mo.np) : (movL Mo 3)[k]? = some (.int .i64 (movX Mo k)) := by
  unfold movX
  show (nums Mo.np Mo.P ++ nums Mo.np Mo.R ++ nums Mo.np Mo.V)[k]? = _
  by_cases h1 : k < Mo.np
  · rw [if_pos h1, List.getElem?_append_left (by rw [List.length_append, nums_length, nums_length]; omega), List.getElem?_append_left (by rw [nums_length]; omega), nums_get _ _ _ h1]
  · rw [if_neg h1]
    by_cases h2 : k < 2 * Mo.np
    · rw [if_pos h2, List.getElem?_append_left (by rw [List.length_append, nums_length, nums_length]; omega), List.getElem?_append_right (by rw [nums_length]; omega), nums_length, nums_get _ _ _ (by omega)]
    · rw [if_neg h2, List.getElem?_append_right (by rw [List.length_append, nums_length, nums_length]; omega), List.length_append, nums_length, nums_length, nums_get _ _ _ (by omega)]
      rw [show Mo.np + Mo.np = 2 * Mo.np by omega]
theorem ints_of_owns {w : World} {base : Nat} {v : Value} {n : Nat} {l : List Value} {xs : Nat → Int} (h : w.ownsRow base 3 1 v n l) (hg : ∀ k, k < n → l[k]? = some (.int .i64 (xs k))) : ∃ A c, v = .slice A n c ∧ IntsAt w A n xs := by
  rcases h.2 with ⟨rfl, rfl⟩ | ⟨g, cap, cur, rfl, h1, h2, -⟩
  · exact ⟨none, 0, rfl, fun hp => absurd hp (Nat.lt_irrefl _)⟩
  · refine ⟨some ⟨g, 0, none⟩, cap, rfl, fun hp => ⟨g, 0, rfl, (Array.getElem?_eq_some_iff.1 h2).1, fun k hk => ?_⟩⟩
    rw [Nat.zero_add, h.cellAt (g := g) k (by omega), hg k hk]
theorem movX_any (Mo : MovD) : (List.range (3 * Mo.np)).any (fun k => !inB (movX Mo k) (-300) 300) = !((List.range Mo.np).all fun k => inB (Mo.P k) (-300) 300 && (inB (Mo.R k) (-300) 300 && inB (Mo.V k) (-300) 300)) := by
  rw [Bool.eq_iff_iff]
  simp only [List.any_eq_true, List.mem_range, Bool.not_eq_true', List.all_eq_false, Bool.and_eq_true]
  constructor
  · rintro ⟨k, hk, h⟩
    unfold movX at h
    by_cases h1 : k < Mo.np
    · rw [if_pos h1] at h
      exact ⟨k, h1, fun hh => by rw [hh.1] at h; cases h⟩
    · rw [if_neg h1] at h
      by_cases h2 : k < 2 * Mo.np
      · rw [if_pos h2] at h
        exact ⟨k - Mo.np, by omega, fun hh => by rw [hh.2.1] at h; cases h⟩
      · rw [if_neg h2] at h
        exact ⟨k - 2 * Mo.np, by omega, fun hh => by rw [hh.2.2] at h; cases h⟩
  · rintro ⟨k, hk, h⟩
    cases p1 : inB (Mo.P k) (-300) 300
    · exact ⟨k, by omega, by unfold movX; rw [if_pos hk]; exact p1⟩
    · cases p2 : inB (Mo.R k) (-300) 300
      · exact ⟨k + Mo.np, by omega, by unfold movX; rw [if_neg (by omega), if_pos (by omega), Nat.add_sub_cancel]; exact p2⟩
      · cases p3 : inB (Mo.V k) (-300) 300
        · exact ⟨k + 2 * Mo.np, by omega, by unfold movX; rw [if_neg (by omega), if_neg (by omega), Nat.add_sub_cancel]; exact p3⟩
        · exact absurd ⟨p1, p2, p3⟩ h
theorem dmotion_c (Mo : MovD) (vP vR vV : Value) (w : World) (hA : MovAt w vP vR vV Mo) :
   Calls Tryz.prog 77 #[.agg #[vP, vR, vV]] w fun e w' => e = .returned (.bool Mo.ok) ∧ Below w.heap.size w w' := by
  have HA := Lib.hid hA
  obtain ⟨A1, c1, rfl, p1, p2, r1⟩ := hA.p.e
  obtain ⟨A2, c2, rfl, q1, q2, r2⟩ := hA.r.e
  obtain ⟨A3, c3, rfl, s1, s2, r3⟩ := hA.v.e
  clear hA
  unfold MovD.ok
  by_cases h1 : Mo.nr = Mo.np
  case neg =>
    have hz : ((Mo.nr : Int) != (Mo.np : Int)) = true := by simp; omega
    rw [decide_eq_false h1, Bool.false_and]
    clear r1 r2 r3
    go_enter Tryz.func77, Tryz.ntmps77
    go_wp2_with (fail)
    go_ret
    exact ⟨rfl, (by repeat' (first | exact Below.refl _ _ | assumption | refine Below.drew ?_ | refine bdn ?_ _ | refine bal ?_ _ | refine Below.setCell ?_ (by first | (simp; done) | omega | (simp; omega)) _))⟩
  by_cases h2 : Mo.nv = Mo.np
  case neg =>
    have hz : ((Mo.nr : Int) != (Mo.np : Int)) = false := by simp; omega
    have hz2 : ((Mo.nv : Int) != (Mo.np : Int)) = true := by simp; omega
    rw [decide_eq_false h2, Bool.false_and, Bool.and_false]
    clear r1 r2 r3 h1
    go_enter Tryz.func77, Tryz.ntmps77
    go_wp2_with (fail)
    go_ret
    exact ⟨rfl, (by repeat' (first | exact Below.refl _ _ | assumption | refine Below.drew ?_ | refine bdn ?_ _ | refine bal ?_ _ | refine Below.setCell ?_ (by first | (simp; done) | omega | (simp; omega)) _))⟩
  by_cases h3 : Mo.np ≤ 2001
  case neg =>
    have hz : ((Mo.nr : Int) != (Mo.np : Int)) = false := by simp; omega
    have hz2 : ((Mo.nv : Int) != (Mo.np : Int)) = false := by simp; omega
    have hz3 : (2001 : Int) < (Mo.np : Int) := by omega
    rw [decide_eq_false h3, Bool.false_and, Bool.and_false, Bool.and_false]
    clear r1 r2 r3 h1 h2
    go_enter Tryz.func77, Tryz.ntmps77
    go_wp2_with (fail)
    go_ret
    exact ⟨rfl, (by repeat' (first | exact Below.refl _ _ | assumption | refine Below.drew ?_ | refine bdn ?_ _ | refine bal ?_ _ | refine Below.setCell ?_ (by first | (simp; done) | omega | (simp; omega)) _))⟩
  rw [decide_eq_true h1, decide_eq_true h2, decide_eq_true h3, Bool.true_and, Bool.true_and, Bool.true_and]
  have hX := movX_any Mo
  obtain ⟨B, hB⟩ : ∃ q, q = (List.range Mo.np).all fun k => inB (Mo.P k) (-300) 300 && (inB (Mo.R k) (-300) 300 && inB (Mo.V k) (-300) 300) := ⟨_, rfl⟩
  rw [← hB] at hX ⊢
  have HX := Lib.hid hX
  rw [h1] at r2 ⊢
  rw [h2] at r3 ⊢
  have R1 := Lib.hid r1
  have R2 := Lib.hid r2
  have R3 := Lib.hid r3
  have HN := Lib.hid h3
  have hz3 : ¬ (2001 : Int) < (Mo.np : Int) := by omega
  have hzz : ((Mo.np : Int) != (Mo.np : Int)) = false := by simp
  clear hX hB r1 r2 r3 h1 h2 h3 q1 s1 HA
  go_enter Tryz.func77, Tryz.ntmps77
  go_wp2_with (fail)
  have hB0 : Below w.heap.size w _ := bal (bal (Below.refl _ _) (.cells #[.slice A1 Mo.np c1, .slice A2 Mo.np c2, .slice A3 Mo.np c3] 37)) (.cells #[.slice A1 Mo.np c1, .slice A2 Mo.np c2, .slice A3 Mo.np c3] 35)
  refine (dconcat_c (w.heap.size + 1) 3 c1 c2 c3 A1 A2 A3 Mo _ HN.out (R1.out.under hB0) (R2.out.under hB0) (R3.out.under hB0) (by first | (simp; done) | (rw [cell_new_at _ _ _ _ _ (by simp)]; first | rfl | (simp; done))) (by first | (simp; done) | (rw [cell_new_at _ _ _ _ _ (by simp)]; first | rfl | (simp; done))) (by first | (simp; done) | (rw [cell_new_at _ _ _ _ _ (by simp)]; first | rfl | (simp; done)))).mono ?_
  rintro e w2 ⟨v, rfl, hb, ho⟩
  obtain ⟨A, c, rfl, hi⟩ := ints_of_owns ho (movL_get Mo)
  have hcf := cfInt_c A (3 * Mo.np) c (movX Mo) 109 #[] (fun k => !inB (movX Mo k) (-300) 300) w2 (by omega) Tryz.entMo hi (fun w3 k hk hb => by
    refine (dmo1_c _ w3).mono ?_
    rintro _ _ ⟨rfl, rfl⟩
    exact ⟨rfl, Below.refl _ _⟩)
  rw [HX.out] at hcf
  have HB2 := Lib.hid (bthen hB0 hb)
  have HCF := Lib.hid hcf
  clear hb ho hi hcf hB0
  go_wp2_with (go_at_call 70; refine HCF.out.mono ?_; rintro e w3 ⟨rfl, hb3⟩)
  go_ret
  exact ⟨ret_bool (by simp), bthen HB2.out hb3⟩
def cmE (D : DekD) (Mo : MovD) : Int := if D.err = 0 then (if Mo.ok then 0 else 61) else D.err
theorem Tryz.rowDek : RowTy Tryz.prog 26 10 := ⟨by kernel_rfl, by kernel_rfl⟩
theorem Tryz.rowMov : RowTy Tryz.prog 37 3 := ⟨by kernel_rfl, by kernel_rfl⟩
theorem dCheckMotion_c (D : DekD) (vA vB vC : Value) (Mo : MovD) (vP vR vV : Value) (w : World) (hD : DekAt w vA vB vC D) (hA : MovAt w vP vR vV Mo) :
   Calls Tryz.prog 43 #[.agg #[.int .i64 D.size, .int .i64 D.load, .int .i64 D.wind, vA, .int .i64 D.pitch, .int .i64 D.roll, .int .i64 D.heave, .int .i64 D.fire, vB, vC], .agg #[vP, vR, vV]] w fun e w' => e = .returned (.int .i64 (cmE D Mo)) ∧ Below w.heap.size w w' := by
  have HD := Lib.hid hD
  have HA := Lib.hid hA
  have hck := fun w1 h => dCheck_c D vA vB vC w1 h
  have hmo := fun w1 h => dmotion_c Mo vP vR vV w1 h
  clear hD hA
  unfold cmE
  by_cases he : D.err = 0
  · rw [if_pos he]
    rw [he] at hck
    have HCK := Lib.hid hck
    cases hb : Mo.ok
    · rw [hb] at hmo
      have HMO := Lib.hid hmo
      clear hck hmo he hb
      rw [if_neg (by decide)]
      go_enter Tryz.func43, Tryz.ntmps43
      go_wp2_with (fail)
      have bHX : Blk ((w.alloc (.cells #[.int .i64 D.size, .int .i64 D.load, .int .i64 D.wind, vA, .int .i64 D.pitch, .int .i64 D.roll, .int .i64 D.heave, .int .i64 D.fire, vB, vC] 26)).alloc (.cells #[vP, vR, vV] 37)) (w.heap.size) 26 #[.int .i64 D.size, .int .i64 D.load, .int .i64 D.wind, vA, .int .i64 D.pitch, .int .i64 D.roll, .int .i64 D.heave, .int .i64 D.fire, vB, vC] := (by repeat (first | (refine Blk.newAt _ _ _ ?_; first | rfl | (simp; done)) | refine Blk.alloc ?_ _))
      have bHY : Blk ((w.alloc (.cells #[.int .i64 D.size, .int .i64 D.load, .int .i64 D.wind, vA, .int .i64 D.pitch, .int .i64 D.roll, .int .i64 D.heave, .int .i64 D.fire, vB, vC] 26)).alloc (.cells #[vP, vR, vV] 37)) (w.heap.size + 1) 37 #[vP, vR, vV] := (by repeat (first | (refine Blk.newAt _ _ _ ?_; first | rfl | (simp; done)) | refine Blk.alloc ?_ _))
      have bHB : Below w.heap.size w ((w.alloc (.cells #[.int .i64 D.size, .int .i64 D.load, .int .i64 D.wind, vA, .int .i64 D.pitch, .int .i64 D.roll, .int .i64 D.heave, .int .i64 D.fire, vB, vC] 26)).alloc (.cells #[vP, vR, vV] 37)) := (by repeat' (first | exact Below.refl _ _ | assumption | refine Below.drew ?_ | refine bdn ?_ _ | refine bal ?_ _ | refine Below.setCell ?_ (by first | (simp; done) | omega | (simp; omega)) _))
      generalize ((w.alloc (.cells #[.int .i64 D.size, .int .i64 D.load, .int .i64 D.wind, vA, .int .i64 D.pitch, .int .i64 D.roll, .int .i64 D.heave, .int .i64 D.fire, vB, vC] 26)).alloc (.cells #[vP, vR, vV] 37)) = W at *
      have zW := bHY.lt
      have HX := Lib.hid bHX
      have HY := Lib.hid bHY
      have HB := Lib.hid bHB
      clear bHX bHY bHB
      go_wp2_with (first | (refine wpl_row rfl 26 _ rfl _ rfl #[.int .i64 D.size, .int .i64 D.load, .int .i64 D.wind, vA, .int .i64 D.pitch, .int .i64 D.roll, .int .i64 D.heave, .int .i64 D.fire, vB, vC] 10 HX.out Tryz.rowDek rfl ?_; simp only [Act.put]) | (refine wpl_row rfl 37 _ rfl _ rfl #[vP, vR, vV] 3 HY.out Tryz.rowMov rfl ?_; simp only [Act.put]) | (go_at_call 36; (with_reducible refine (HCK.out _ (HD.out.below HB.out)).mono ?_); rintro e w1 ⟨rfl, hb1⟩; have nHX := Lib.hid (HX.out.below hb1); have nHY := Lib.hid (HY.out.below hb1); have nHB := Lib.hid (bthen HB.out hb1); have zz1 := hb1.size; clear HX HY HB hb1; have HX := nHX; have HY := nHY; have HB := nHB; clear nHX nHY nHB) | (go_at_call 77; (with_reducible refine (HMO.out _ (HA.out.below HB.out)).mono ?_); rintro e w1 ⟨rfl, hb1⟩; have nHX := Lib.hid (HX.out.below hb1); have nHY := Lib.hid (HY.out.below hb1); have nHB := Lib.hid (bthen HB.out hb1); have zz1 := hb1.size; clear HX HY HB hb1; have HX := nHX; have HY := nHY; have HB := nHB; clear nHX nHY nHB))
      go_ret
      exact ⟨rfl, HB.out⟩
    · rw [hb] at hmo
      have HMO := Lib.hid hmo
      clear hck hmo he hb
      rw [if_pos rfl]
      go_enter Tryz.func43, Tryz.ntmps43
      go_wp2_with (fail)
      have bHX : Blk ((w.alloc (.cells #[.int .i64 D.size, .int .i64 D.load, .int .i64 D.wind, vA, .int .i64 D.pitch, .int .i64 D.roll, .int .i64 D.heave, .int .i64 D.fire, vB, vC] 26)).alloc (.cells #[vP, vR, vV] 37)) (w.heap.size) 26 #[.int .i64 D.size, .int .i64 D.load, .int .i64 D.wind, vA, .int .i64 D.pitch, .int .i64 D.roll, .int .i64 D.heave, .int .i64 D.fire, vB, vC] := (by repeat (first | (refine Blk.newAt _ _ _ ?_; first | rfl | (simp; done)) | refine Blk.alloc ?_ _))
      have bHY : Blk ((w.alloc (.cells #[.int .i64 D.size, .int .i64 D.load, .int .i64 D.wind, vA, .int .i64 D.pitch, .int .i64 D.roll, .int .i64 D.heave, .int .i64 D.fire, vB, vC] 26)).alloc (.cells #[vP, vR, vV] 37)) (w.heap.size + 1) 37 #[vP, vR, vV] := (by repeat (first | (refine Blk.newAt _ _ _ ?_; first | rfl | (simp; done)) | refine Blk.alloc ?_ _))
      have bHB : Below w.heap.size w ((w.alloc (.cells #[.int .i64 D.size, .int .i64 D.load, .int .i64 D.wind, vA, .int .i64 D.pitch, .int .i64 D.roll, .int .i64 D.heave, .int .i64 D.fire, vB, vC] 26)).alloc (.cells #[vP, vR, vV] 37)) := (by repeat' (first | exact Below.refl _ _ | assumption | refine Below.drew ?_ | refine bdn ?_ _ | refine bal ?_ _ | refine Below.setCell ?_ (by first | (simp; done) | omega | (simp; omega)) _))
      generalize ((w.alloc (.cells #[.int .i64 D.size, .int .i64 D.load, .int .i64 D.wind, vA, .int .i64 D.pitch, .int .i64 D.roll, .int .i64 D.heave, .int .i64 D.fire, vB, vC] 26)).alloc (.cells #[vP, vR, vV] 37)) = W at *
      have zW := bHY.lt
      have HX := Lib.hid bHX
      have HY := Lib.hid bHY
      have HB := Lib.hid bHB
      clear bHX bHY bHB
      go_wp2_with (first | (refine wpl_row rfl 26 _ rfl _ rfl #[.int .i64 D.size, .int .i64 D.load, .int .i64 D.wind, vA, .int .i64 D.pitch, .int .i64 D.roll, .int .i64 D.heave, .int .i64 D.fire, vB, vC] 10 HX.out Tryz.rowDek rfl ?_; simp only [Act.put]) | (refine wpl_row rfl 37 _ rfl _ rfl #[vP, vR, vV] 3 HY.out Tryz.rowMov rfl ?_; simp only [Act.put]) | (go_at_call 36; (with_reducible refine (HCK.out _ (HD.out.below HB.out)).mono ?_); rintro e w1 ⟨rfl, hb1⟩; have nHX := Lib.hid (HX.out.below hb1); have nHY := Lib.hid (HY.out.below hb1); have nHB := Lib.hid (bthen HB.out hb1); have zz1 := hb1.size; clear HX HY HB hb1; have HX := nHX; have HY := nHY; have HB := nHB; clear nHX nHY nHB) | (go_at_call 77; (with_reducible refine (HMO.out _ (HA.out.below HB.out)).mono ?_); rintro e w1 ⟨rfl, hb1⟩; have nHX := Lib.hid (HX.out.below hb1); have nHY := Lib.hid (HY.out.below hb1); have nHB := Lib.hid (bthen HB.out hb1); have zz1 := hb1.size; clear HX HY HB hb1; have HX := nHX; have HY := nHY; have HB := nHB; clear nHX nHY nHB))
      go_ret
      exact ⟨rfl, HB.out⟩
  · rw [if_neg he]
    have hez : (D.err != 0) = true := by simpa using he
    clear he
    generalize D.err = E at *
    have HCK := Lib.hid hck
    have HMO := Lib.hid hmo
    clear hck hmo
    go_enter Tryz.func43, Tryz.ntmps43
    go_wp2_with (fail)
    have bHX : Blk ((w.alloc (.cells #[.int .i64 D.size, .int .i64 D.load, .int .i64 D.wind, vA, .int .i64 D.pitch, .int .i64 D.roll, .int .i64 D.heave, .int .i64 D.fire, vB, vC] 26)).alloc (.cells #[vP, vR, vV] 37)) (w.heap.size) 26 #[.int .i64 D.size, .int .i64 D.load, .int .i64 D.wind, vA, .int .i64 D.pitch, .int .i64 D.roll, .int .i64 D.heave, .int .i64 D.fire, vB, vC] := (by repeat (first | (refine Blk.newAt _ _ _ ?_; first | rfl | (simp; done)) | refine Blk.alloc ?_ _))
    have bHY : Blk ((w.alloc (.cells #[.int .i64 D.size, .int .i64 D.load, .int .i64 D.wind, vA, .int .i64 D.pitch, .int .i64 D.roll, .int .i64 D.heave, .int .i64 D.fire, vB, vC] 26)).alloc (.cells #[vP, vR, vV] 37)) (w.heap.size + 1) 37 #[vP, vR, vV] := (by repeat (first | (refine Blk.newAt _ _ _ ?_; first | rfl | (simp; done)) | refine Blk.alloc ?_ _))
    have bHB : Below w.heap.size w ((w.alloc (.cells #[.int .i64 D.size, .int .i64 D.load, .int .i64 D.wind, vA, .int .i64 D.pitch, .int .i64 D.roll, .int .i64 D.heave, .int .i64 D.fire, vB, vC] 26)).alloc (.cells #[vP, vR, vV] 37)) := (by repeat' (first | exact Below.refl _ _ | assumption | refine Below.drew ?_ | refine bdn ?_ _ | refine bal ?_ _ | refine Below.setCell ?_ (by first | (simp; done) | omega | (simp; omega)) _))
    generalize ((w.alloc (.cells #[.int .i64 D.size, .int .i64 D.load, .int .i64 D.wind, vA, .int .i64 D.pitch, .int .i64 D.roll, .int .i64 D.heave, .int .i64 D.fire, vB, vC] 26)).alloc (.cells #[vP, vR, vV] 37)) = W at *
    have zW := bHY.lt
    have HX := Lib.hid bHX
    have HY := Lib.hid bHY
    have HB := Lib.hid bHB
    clear bHX bHY bHB
    go_wp2_with (first | (refine wpl_row rfl 26 _ rfl _ rfl #[.int .i64 D.size, .int .i64 D.load, .int .i64 D.wind, vA, .int .i64 D.pitch, .int .i64 D.roll, .int .i64 D.heave, .int .i64 D.fire, vB, vC] 10 HX.out Tryz.rowDek rfl ?_; simp only [Act.put]) | (refine wpl_row rfl 37 _ rfl _ rfl #[vP, vR, vV] 3 HY.out Tryz.rowMov rfl ?_; simp only [Act.put]) | (go_at_call 36; (with_reducible refine (HCK.out _ (HD.out.below HB.out)).mono ?_); rintro e w1 ⟨rfl, hb1⟩; have nHX := Lib.hid (HX.out.below hb1); have nHY := Lib.hid (HY.out.below hb1); have nHB := Lib.hid (bthen HB.out hb1); have zz1 := hb1.size; clear HX HY HB hb1; have HX := nHX; have HY := nHY; have HB := nHB; clear nHX nHY nHB) | (go_at_call 77; (with_reducible refine (HMO.out _ (HA.out.below HB.out)).mono ?_); rintro e w1 ⟨rfl, hb1⟩; have nHX := Lib.hid (HX.out.below hb1); have nHY := Lib.hid (HY.out.below hb1); have nHB := Lib.hid (bthen HB.out hb1); have zz1 := hb1.size; clear HX HY HB hb1; have HX := nHX; have HY := nHY; have HB := nHB; clear nHX nHY nHB))
    go_ret
    exact ⟨rfl, HB.out⟩
end Go.Proofs.YtafkifjebimdaaaGreat
