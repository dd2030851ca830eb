/- Contracts: knots, CheckTable, filled of the references. -/
import Derived.Test.YtoembbcddhlokaaRfA
set_option linter.all false
namespace Go.Proofs.Ytoembbcddhlokaa
open Go Go.RowKit Go.Proofs
set_option maxRecDepth 100000
set_option maxHeartbeats 4000000

theorem rf_knots_c (v : Value) (xs : List Int) (w : World) (hv : Ints w v xs) :
   Calls Try.prog 131 #[v] w fun e w' => e = .returned (.bool (axisB xs)) ∧ Below w.heap.size w w' := by
  obtain ⟨A, c, rfl, hc1, hc2, h64, hA⟩ := hv
  have hc3 : xs.length ≤ 9223372036854775807 := by omega
  have H64 := Lib.hid h64
  clear h64
  generalize hL : xs.length = n at *
  have HL := Lib.hid hL
  clear hL
  cases h0 : inB n 2 12
  · go_enter Try.func131, Try.ntmps131
    go_wp2_with (first | (go_at_call 60; (with_reducible refine (rf_From_c _ _ _ _).mono ?_); rintro e w1 ⟨rfl, rfl⟩))
    go_ret
    exact ⟨ret_bool (by unfold axisB; rw [HL.out, h0]; rfl), Below.refl _ _⟩
  · go_enter Try.func131, Try.ntmps131
    go_wp2_with (first | (go_at_call 60; (with_reducible refine (rf_From_c _ _ _ _).mono ?_); rintro e w1 ⟨rfl, rfl⟩))
    have H0 := Lib.hid h0
    clear h0
    go_loopw [3] (fun s wr => ∃ k : Nat, k ≤ n ∧ s = .int .i64 k ∧ RowKit.Hid (Below w.heap.size w wr) ∧ RowKit.Hid (∀ j, j < k → okKnot xs j = true)) (fun i _ => n - (intOf i).toNat)
    case atStart => exact ⟨0, by omega, rfl, Below.refl _ _, fun j hj => absurd hj (by omega)⟩
    case round =>
      obtain ⟨k, hk, rfl, hB, hF⟩ := hrel
      by_cases hlt : k < n
      · obtain ⟨b, off, rfl, hb, hc⟩ := hA (by omega)
        have hck := (hB.out.cell (p := ⟨b, off + k, none⟩) hb).trans (hc k hlt)
        have hli : (k : Int) < (n : Int) := by omega
        cases h1 : inB (nth xs k) (-1000000) 1000000
        · clear hc hA
          go_wp2
          go_quiet (first | (go_at_call 60; (with_reducible refine qsame (rf_From_c _ _ _ _))))
          go_wp2
          go_ret
          exact ⟨ret_bool (axisB_no (by rw [HL.out]; exact hlt) (show okKnot xs k = false by simp [okKnot, h1])).symm, bdn hB.out _⟩
        · have hr := inB_iff.1 h1
          by_cases hk0 : k = 0
          · subst hk0
            simp only [Nat.add_zero] at hck
            clear hc hA
            go_wp2
            go_quiet (first | (go_at_call 60; (with_reducible refine qsame (rf_From_c _ _ _ _))))
            go_wp2
            go_roundw
            case rel => exact ⟨0 + 1, by omega, by go_num, bdn hB.out _, fun j hj => by
              obtain rfl : j = 0 := by omega
              exact okKnot_zero h1⟩
            case measure => simp [intOf]; omega
          · have hkp : 0 < k := by omega
            have hki : (0 : Int) < (k : Int) := by omega
            have hcp := (hB.out.cell (p := ⟨b, off + (k - 1), none⟩) hb).trans (hc (k - 1) (by omega))
            have hrp := okKnot_range (hF.out (k - 1) (by omega))
            have w1 : IntKind.i64.wrap ((k : Int) - 1) = (k : Int) - 1 := IntWalk.i64_in _ (by omega)
            have w2 : (0 : Int) ≤ (k : Int) - 1 := by omega
            have w3 : ((k : Int) - 1).toNat = k - 1 := by omega
            have w4 : (k : Int) - 1 < (n : Int) := by omega
            have w5 : IntKind.i64.wrap (nth xs k - nth xs (k - 1)) = nth xs k - nth xs (k - 1) := IntWalk.i64_in _ (by omega)
            clear hc hA
            cases h2 : inB (nth xs k - nth xs (k - 1)) 1 10000
            all_goals
              go_wp2
              go_quiet (first | (go_at_call 60; (with_reducible refine qsame (rf_From_c _ _ _ _))))
              clear w1 w2 w3 w4 w5
              go_wp2
            · go_ret
              exact ⟨ret_bool (axisB_no (by rw [HL.out]; exact hlt) (show okKnot xs k = false by simp [okKnot, h1, h2, hk0])).symm, bdn hB.out _⟩
            · go_roundw
              case rel => exact ⟨k + 1, by omega, by go_num, bdn hB.out _, fun j hj => by
                by_cases e : j = k
                · subst e; exact okKnot_succ h1 h2
                · exact hF.out j (by omega)⟩
              case measure => simp [intOf]; omega
      · obtain rfl : k = n := by omega
        clear hA
        go_wp2
        go_ret
        exact ⟨ret_bool (axisB_yes (by rw [HL.out]; exact H0.out) (by rw [HL.out]; exact hF.out)).symm, hB.out⟩

theorem tblB_row_no {T : Tbl} {i : Nat} (hi : i < T.V.length) (h : rowBad T.Y.length (nthR T.V i) = true) : tblB T = false := by
  have : anyRowBad T.Y.length T.V = true := by unfold anyRowBad; rw [List.any_eq_true]; exact ⟨i, List.mem_range.2 hi, h⟩
  simp [tblB, this]
theorem rowBad_len {ny : Nat} {r : List Int} (h : ((r.length : Int) != (ny : Int)) = true) : rowBad ny r = true := by simp [rowBad, h]
theorem rowBad_out {ny : Nat} {r : List Int} {k : Nat} (hk : k < r.length) (h : inB (nth r k) (-1000000) 1000000 = false) : rowBad ny r = true := by
  have : anyOut r = true := by unfold anyOut; rw [List.any_eq_true]; exact ⟨k, List.mem_range.2 hk, by simp [h]⟩
  simp [rowBad, this]
theorem rowBad_ok {ny : Nat} {r : List Int} (h : ((r.length : Int) != (ny : Int)) = false) (h2 : ∀ k, k < r.length → inB (nth r k) (-1000000) 1000000 = true) : rowBad ny r = false := by
  have : anyOut r = false := by unfold anyOut; rw [List.any_eq_false]; intro k hk; simp [h2 k (List.mem_range.1 hk)]
  unfold rowBad; rw [h, this]; rfl
theorem tblB_yes {T : Tbl} (h1 : axisB T.X = true) (h2 : axisB T.Y = true) (h3 : ((T.V.length : Int) != (T.X.length : Int)) = false) (h4 : ∀ i, i < T.V.length → rowBad T.Y.length (nthR T.V i) = false) : tblB T = true := by
  have : anyRowBad T.Y.length T.V = false := by unfold anyRowBad; rw [List.any_eq_false]; intro k hk; simp [h4 k (List.mem_range.1 hk)]
  unfold tblB; rw [h1, h2, h3, this]; rfl

theorem rf_CheckTable_c (x y v : Value) (T : Tbl) (w : World) (hT : TblAt w x y v T) :
   Calls Try.prog 108 #[.agg #[x, y, v]] w fun e w' => e = .returned (.int .i64 (tblE (tblB T))) ∧ Below w.heap.size w w' := by
  have hxl := hT.x.len
  have hyl := hT.y.len
  have HT := Lib.hid hT
  obtain ⟨xA, xc, rfl, -⟩ := id hT.x
  obtain ⟨yA, yc, rfl, -⟩ := id hT.y
  obtain ⟨A, c, vs, rfl, hv1, hv2, hv3, hv4⟩ := id hT.v
  have HV3 := Lib.hid hv3
  have HV4 := Lib.hid hv4
  clear hT hv3 hv4
  cases h1 : axisB T.X
  · go_enter Try.func108, Try.ntmps108
    go_wp2_with (first | (go_at_call 131; (with_reducible refine (rf_knots_c _ T.X _ (HT.out.x.below (by repeat' (first | exact Below.refl _ _ | assumption | refine Below.drew ?_ | refine bdn ?_ _ | refine bal ?_ _ | refine Below.setCell ?_ (by first | (simp; done) | omega | (simp; omega)) _)))).mono ?_); rintro e w1 ⟨rfl, hb1⟩; have hB1 := bthen (show Below w.heap.size w _ from (by repeat' (first | exact Below.refl _ _ | assumption | refine Below.drew ?_ | refine bdn ?_ _ | refine bal ?_ _ | refine Below.setCell ?_ (by first | (simp; done) | omega | (simp; omega)) _))) hb1; have hz1 := hb1.size; (try simp at hz1); obtain ⟨hc1, hf1⟩ := bcell hb1; first | (have hE1 := bthen2 hE (by repeat' (first | exact Below.refl _ _ | refine Below.drew ?_ | refine bdn ?_ _ | refine bal ?_ _ | refine Below.setCell ?_ (by first | (simp; done) | omega | (simp; omega)) _)) hb1; clear hE; have hE := hE1; clear hE1; obtain ⟨hd1, hg1⟩ := bcell hE) | (have hE := hb1)))
    go_ret
    exact ⟨ret_int (by simp [tblB, h1, tblE]), (by repeat' (first | exact Below.refl _ _ | assumption | refine Below.drew ?_ | refine bdn ?_ _ | refine bal ?_ _ | refine Below.setCell ?_ (by first | (simp; done) | omega | (simp; omega)) _))⟩
  · cases h2 : axisB T.Y
    · go_enter Try.func108, Try.ntmps108
      go_wp2_with (first | (go_at_call 131; (with_reducible refine (rf_knots_c _ T.X _ (HT.out.x.below (by repeat' (first | exact Below.refl _ _ | assumption | refine Below.drew ?_ | refine bdn ?_ _ | refine bal ?_ _ | refine Below.setCell ?_ (by first | (simp; done) | omega | (simp; omega)) _)))).mono ?_); rintro e w1 ⟨rfl, hb1⟩; have hB1 := bthen (show Below w.heap.size w _ from (by repeat' (first | exact Below.refl _ _ | assumption | refine Below.drew ?_ | refine bdn ?_ _ | refine bal ?_ _ | refine Below.setCell ?_ (by first | (simp; done) | omega | (simp; omega)) _))) hb1; have hz1 := hb1.size; (try simp at hz1); obtain ⟨hc1, hf1⟩ := bcell hb1; first | (have hE1 := bthen2 hE (by repeat' (first | exact Below.refl _ _ | refine Below.drew ?_ | refine bdn ?_ _ | refine bal ?_ _ | refine Below.setCell ?_ (by first | (simp; done) | omega | (simp; omega)) _)) hb1; clear hE; have hE := hE1; clear hE1; obtain ⟨hd1, hg1⟩ := bcell hE) | (have hE := hb1)) | (go_at_call 131; (with_reducible refine (rf_knots_c _ T.Y _ (HT.out.y.below (by repeat' (first | exact Below.refl _ _ | assumption | refine Below.drew ?_ | refine bdn ?_ _ | refine bal ?_ _ | refine Below.setCell ?_ (by first | (simp; done) | omega | (simp; omega)) _)))).mono ?_); rintro e w1 ⟨rfl, hb1⟩; have hB1 := bthen (show Below w.heap.size w _ from (by repeat' (first | exact Below.refl _ _ | assumption | refine Below.drew ?_ | refine bdn ?_ _ | refine bal ?_ _ | refine Below.setCell ?_ (by first | (simp; done) | omega | (simp; omega)) _))) hb1; have hz1 := hb1.size; (try simp at hz1); obtain ⟨hc1, hf1⟩ := bcell hb1; first | (have hE1 := bthen2 hE (by repeat' (first | exact Below.refl _ _ | refine Below.drew ?_ | refine bdn ?_ _ | refine bal ?_ _ | refine Below.setCell ?_ (by first | (simp; done) | omega | (simp; omega)) _)) hb1; clear hE; have hE := hE1; clear hE1; obtain ⟨hd1, hg1⟩ := bcell hE) | (have hE := hb1)))
      go_ret
      exact ⟨ret_int (by simp [tblB, h1, h2, tblE]), (by repeat' (first | exact Below.refl _ _ | assumption | refine Below.drew ?_ | refine bdn ?_ _ | refine bal ?_ _ | refine Below.setCell ?_ (by first | (simp; done) | omega | (simp; omega)) _))⟩
    · cases h3 : ((T.V.length : Int) != (T.X.length : Int))
      · go_enter Try.func108, Try.ntmps108
        go_wp2_with (first | (go_at_call 131; (with_reducible refine (rf_knots_c _ T.X _ (HT.out.x.below (by repeat' (first | exact Below.refl _ _ | assumption | refine Below.drew ?_ | refine bdn ?_ _ | refine bal ?_ _ | refine Below.setCell ?_ (by first | (simp; done) | omega | (simp; omega)) _)))).mono ?_); rintro e w1 ⟨rfl, hb1⟩; have hB1 := bthen (show Below w.heap.size w _ from (by repeat' (first | exact Below.refl _ _ | assumption | refine Below.drew ?_ | refine bdn ?_ _ | refine bal ?_ _ | refine Below.setCell ?_ (by first | (simp; done) | omega | (simp; omega)) _))) hb1; have hz1 := hb1.size; (try simp at hz1); obtain ⟨hc1, hf1⟩ := bcell hb1; first | (have hE1 := bthen2 hE (by repeat' (first | exact Below.refl _ _ | refine Below.drew ?_ | refine bdn ?_ _ | refine bal ?_ _ | refine Below.setCell ?_ (by first | (simp; done) | omega | (simp; omega)) _)) hb1; clear hE; have hE := hE1; clear hE1; obtain ⟨hd1, hg1⟩ := bcell hE) | (have hE := hb1)) | (go_at_call 131; (with_reducible refine (rf_knots_c _ T.Y _ (HT.out.y.below (by repeat' (first | exact Below.refl _ _ | assumption | refine Below.drew ?_ | refine bdn ?_ _ | refine bal ?_ _ | refine Below.setCell ?_ (by first | (simp; done) | omega | (simp; omega)) _)))).mono ?_); rintro e w1 ⟨rfl, hb1⟩; have hB1 := bthen (show Below w.heap.size w _ from (by repeat' (first | exact Below.refl _ _ | assumption | refine Below.drew ?_ | refine bdn ?_ _ | refine bal ?_ _ | refine Below.setCell ?_ (by first | (simp; done) | omega | (simp; omega)) _))) hb1; have hz1 := hb1.size; (try simp at hz1); obtain ⟨hc1, hf1⟩ := bcell hb1; first | (have hE1 := bthen2 hE (by repeat' (first | exact Below.refl _ _ | refine Below.drew ?_ | refine bdn ?_ _ | refine bal ?_ _ | refine Below.setCell ?_ (by first | (simp; done) | omega | (simp; omega)) _)) hb1; clear hE; have hE := hE1; clear hE1; obtain ⟨hd1, hg1⟩ := bcell hE) | (have hE := hb1)))
        have H1 := Lib.hid h1
        have H2 := Lib.hid h2
        have H3 := Lib.hid h3
        have HB0 := Lib.hid hB1
        have D0 := Lib.hid ((show Blk (w.alloc (.cells #[.slice xA T.X.length xc, .slice yA T.Y.length yc, .slice A T.V.length c] 25)) w.heap.size 25 #[.slice xA T.X.length xc, .slice yA T.Y.length yc, .slice A T.V.length c] from (by repeat (first | (refine Blk.newAt _ _ _ ?_; first | rfl | (simp; done)) | refine Blk.alloc ?_ _))).below hE)
        clear h1 h2 h3 hB1 hE hb1 hc1 hf1 hz1
        try clear hd1 hg1
        go_loopw [3] (fun s wr => ∃ i : Nat, i ≤ T.V.length ∧ s = .int .i64 i ∧ RowKit.Hid (Below w.heap.size w wr) ∧ RowKit.Hid (Blk wr w.heap.size 25 #[.slice xA T.X.length xc, .slice yA T.Y.length yc, .slice A T.V.length c]) ∧ RowKit.Hid (∀ j, j < i → rowBad T.Y.length (nthR T.V j) = false)) (fun i _ => T.V.length - (intOf i).toNat)
        case atStart => exact ⟨0, by omega, rfl, HB0.out, D0.out, fun j hj => absurd hj (by omega)⟩
        case round =>
          obtain ⟨i, hi, rfl, hB, hD, hF⟩ := hrel
          clear HB0 D0
          have t1 := hD.out.cell 1
          have t2 := hD.out.cell 2
          by_cases hlt : i < T.V.length
          · obtain ⟨bV, oV, rfl, hbV, hcV⟩ := HV3.out (by omega)
            have ck := (hB.out.cell (p := ⟨bV, oV + i, none⟩) hbV).trans (hcV i hlt)
            have hli : (i : Int) < (T.V.length : Int) := by omega
            obtain ⟨ra, rc, hre, s1, s2, -, hRA⟩ := HV4.out i hlt
            rw [hre] at ck
            generalize hrow : nthR T.V i = row at *
            have hrl : row.length ≤ 9223372036854775807 := by omega
            have HRow := Lib.hid hrow
            have HRA := Lib.hid hRA
            clear hre hcV hrow hRA
            cases h4 : ((row.length : Int) != (T.Y.length : Int))
            · have H4 := Lib.hid h4
              go_wp2
              go_quiet (fail)
              go_wp2
              have HBq := Lib.hid (bdn hB.out nq)
              have HDq := Lib.hid (Blk.below hD.out (bdn (Below.refl wr.heap.size wr) nq))
              have ckq := Lib.hid (show (wr.drewN nq).cell? ⟨bV, oV + i, none⟩ = some (.slice ra row.length rc) from ck)
              obtain ⟨wo, hwo⟩ : ∃ wo : World, wo = wr.drewN nq := ⟨_, rfl⟩
              rw [← hwo] at HBq HDq ckq ⊢
              clear ck t1 t2 hB hD hwo h4
              have t1 := HDq.out.cell 1
              have t2 := HDq.out.cell 2
              have ck := ckq.out
              go_loop [4] (fun s => ∃ k : Nat, k ≤ row.length ∧ s = .int .i64 k ∧ RowKit.Hid (∀ j, j < k → inB (nth row j) (-1000000) 1000000 = true)) (fun s => row.length - (intOf s).toNat)
              case atStart => exact ⟨0, by omega, rfl, fun j hj => absurd hj (by omega)⟩
              case round =>
                obtain ⟨k, hk, rfl, hG⟩ := hrel
                by_cases hkt : k < row.length
                · obtain ⟨br, or, rfl, hbr, hcr⟩ := HRA.out (by omega)
                  have cr := (HBq.out.cell (p := ⟨br, or + k, none⟩) hbr).trans (hcr k hkt)
                  clear hcr
                  cases h5 : inB (nth row k) (-1000000) 1000000
                  · go_wp2_with (first | (go_at_call 60; (with_reducible refine (rf_From_c _ _ _ _).mono ?_); rintro e w1 ⟨rfl, rfl⟩))
                    go_ret
                    exact ⟨ret_int (by rw [tblB_row_no hlt (by rw [HRow.out]; exact rowBad_out hkt h5)]; rfl), HBq.out⟩
                  · go_wp2_with (first | (go_at_call 60; (with_reducible refine (rf_From_c _ _ _ _).mono ?_); rintro e w1 ⟨rfl, rfl⟩))
                    go_round
                    case rel => exact ⟨k + 1, by omega, by go_num, fun j hj => by
                      by_cases e : j = k
                      · subst e; exact h5
                      · exact hG.out j (by omega)⟩
                    case measure => simp [intOf]; omega
                · obtain rfl : k = row.length := by omega
                  go_wp2
                  go_roundw
                  case rel => exact ⟨i + 1, by omega, by go_num, HBq.out, HDq.out, fun j hj => by
                    by_cases e : j = i
                    · subst e; rw [HRow.out]; exact rowBad_ok H4.out hG.out
                    · exact hF.out j (by omega)⟩
                  case measure => simp [intOf]; omega
            · go_wp2
              go_quiet (fail)
              go_wp2
              go_ret
              exact ⟨ret_int (by rw [tblB_row_no hlt (by rw [HRow.out]; exact rowBad_len h4)]; rfl), bdn hB.out _⟩
          · obtain rfl : i = T.V.length := by omega
            go_wp2
            go_ret
            exact ⟨ret_int (by rw [tblB_yes H1.out H2.out H3.out hF.out]; rfl), hB.out⟩
      · go_enter Try.func108, Try.ntmps108
        go_wp2_with (first | (go_at_call 131; (with_reducible refine (rf_knots_c _ T.X _ (HT.out.x.below (by repeat' (first | exact Below.refl _ _ | assumption | refine Below.drew ?_ | refine bdn ?_ _ | refine bal ?_ _ | refine Below.setCell ?_ (by first | (simp; done) | omega | (simp; omega)) _)))).mono ?_); rintro e w1 ⟨rfl, hb1⟩; have hB1 := bthen (show Below w.heap.size w _ from (by repeat' (first | exact Below.refl _ _ | assumption | refine Below.drew ?_ | refine bdn ?_ _ | refine bal ?_ _ | refine Below.setCell ?_ (by first | (simp; done) | omega | (simp; omega)) _))) hb1; have hz1 := hb1.size; (try simp at hz1); obtain ⟨hc1, hf1⟩ := bcell hb1; first | (have hE1 := bthen2 hE (by repeat' (first | exact Below.refl _ _ | refine Below.drew ?_ | refine bdn ?_ _ | refine bal ?_ _ | refine Below.setCell ?_ (by first | (simp; done) | omega | (simp; omega)) _)) hb1; clear hE; have hE := hE1; clear hE1; obtain ⟨hd1, hg1⟩ := bcell hE) | (have hE := hb1)) | (go_at_call 131; (with_reducible refine (rf_knots_c _ T.Y _ (HT.out.y.below (by repeat' (first | exact Below.refl _ _ | assumption | refine Below.drew ?_ | refine bdn ?_ _ | refine bal ?_ _ | refine Below.setCell ?_ (by first | (simp; done) | omega | (simp; omega)) _)))).mono ?_); rintro e w1 ⟨rfl, hb1⟩; have hB1 := bthen (show Below w.heap.size w _ from (by repeat' (first | exact Below.refl _ _ | assumption | refine Below.drew ?_ | refine bdn ?_ _ | refine bal ?_ _ | refine Below.setCell ?_ (by first | (simp; done) | omega | (simp; omega)) _))) hb1; have hz1 := hb1.size; (try simp at hz1); obtain ⟨hc1, hf1⟩ := bcell hb1; first | (have hE1 := bthen2 hE (by repeat' (first | exact Below.refl _ _ | refine Below.drew ?_ | refine bdn ?_ _ | refine bal ?_ _ | refine Below.setCell ?_ (by first | (simp; done) | omega | (simp; omega)) _)) hb1; clear hE; have hE := hE1; clear hE1; obtain ⟨hd1, hg1⟩ := bcell hE) | (have hE := hb1)))
        go_ret
        exact ⟨ret_int (by simp [tblB, h1, h2, h3, tblE]), (by repeat' (first | exact Below.refl _ _ | assumption | refine Below.drew ?_ | refine bdn ?_ _ | refine bal ?_ _ | refine Below.setCell ?_ (by first | (simp; done) | omega | (simp; omega)) _))⟩
end Go.Proofs.Ytoembbcddhlokaa
