/- Contracts: the leaves of the references. -/
import Derived.Test.YtechkkgmdjgddaaGreatLwB
import Derived.Test.YtechkkgmdjgddaaGreatRoC
set_option linter.all false
namespace Go.Proofs.YtechkkgmdjgddaaGreat
open Go Go.RowKit Go.Proofs

theorem up_eq {a d : Int} (hd : 1 ≤ d) : (a + d - 1) / d = cdiv a d := by
  unfold cdiv
  have h1 := Int.emod_nonneg (-a) (show d ≠ 0 by omega)
  have h2 := Int.emod_lt_of_pos (-a) (show 0 < d by omega)
  have h3 := Int.emod_add_mul_ediv (-a) d
  generalize (-a) / d = q at *
  generalize (-a) % d = r at *
  have e : a + d - 1 = (d - 1 - r) + d * (-q) := by rw [Int.mul_neg]; omega
  rw [e, Int.add_mul_ediv_left _ _ (by omega), Int.ediv_eq_zero_of_lt (by omega) (by omega)]
  omega
theorem cdiv_neg {a d : Int} : -cdiv (-a) d = a / d := by unfold cdiv; simp only [Int.neg_neg]
theorem neg_floor {a d : Int} : -((-a) / d) = cdiv a d := rfl

theorem rf_From_c (n lo hi : Int) (w : World) : Calls Tryz.prog 75 #[.int .i64 n, .int .i64 lo, .int .i64 hi] w fun e w' => e = .returned (.bool (inB n lo hi)) ∧ w = w' := by
  unfold inB
  by_cases h1 : lo ≤ n <;> by_cases h2 : n ≤ hi
  all_goals
    go_enter Tryz.func75, Tryz.ntmps75
    go_wp2
    go_ret
    exact ⟨by simp [h1, h2], rfl⟩
theorem rf_from_c (n lo hi : Int) (w : World) : Calls Tryz.prog 42 #[.int .i64 n, .int .i64 lo, .int .i64 hi] w fun e w' => e = .returned (.bool (inB n lo hi)) ∧ w = w' := by
  unfold inB
  by_cases h1 : lo ≤ n <;> by_cases h2 : n ≤ hi
  all_goals
    go_enter Tryz.func42, Tryz.ntmps42
    go_wp2
    go_ret
    exact ⟨by simp [h1, h2], rfl⟩

theorem vspan_two {lo hi : Int} : (inB lo (-1000000) 1000000 && inB hi lo 1000000) = vspan lo hi := by
  rw [Bool.eq_iff_iff]; unfold vspan inB; simp only [Bool.and_eq_true, decide_eq_true_eq]; omega

theorem rf_Valid_c (lo hi : Int) (w : World) : Calls Tryz.prog 54 #[.agg #[.int .i64 lo, .int .i64 hi]] w fun e w' => e = .returned (.bool (vspan lo hi)) ∧ Below w.heap.size w w' := by
  rw [← vspan_two]
  cases h1 : inB lo (-1000000) 1000000
  all_goals
    go_enter Tryz.func54, Tryz.ntmps54
    go_wp2_with (first | (go_at_call 75; (with_reducible refine (rf_From_c _ _ _ _).mono ?_); rintro e w1 ⟨rfl, rfl⟩))
    go_ret
    exact ⟨by simp, (by repeat' (first | exact Below.refl _ _ | assumption | refine Below.drew ?_ | refine bdn ?_ _ | refine bal ?_ _ | refine Below.setCell ?_ (by first | (simp; done) | omega | (simp; omega)) _))⟩

theorem rf_two_c (al ah bl bh : Int) (w : World) : Calls Tryz.prog 97 #[.agg #[.int .i64 al, .int .i64 ah], .agg #[.int .i64 bl, .int .i64 bh]] w fun e w' => e = .returned (.int .i64 (spanE (!vspan al ah || !vspan bl bh))) ∧ Below w.heap.size w w' := by
  cases h1 : vspan al ah <;> cases h2 : vspan bl bh
  all_goals
    go_enter Tryz.func97, Tryz.ntmps97
    go_wp2_with (first | (go_at_call 54; (with_reducible refine (rf_Valid_c _ _ _).mono ?_); rintro e w1 ⟨rfl, hb1⟩; have hB1 := bthen (show Below w.heap.size w _ from (by repeat' (first | exact Below.refl _ _ | assumption | refine Below.drew ?_ | refine bdn ?_ _ | refine bal ?_ _ | refine Below.setCell ?_ (by first | (simp; done) | omega | (simp; omega)) _))) hb1; have hz1 := hb1.size; (try simp at hz1); obtain ⟨hc1, hf1⟩ := bcell hb1; first | (have hE1 := bthen2 hE (by repeat' (first | exact Below.refl _ _ | refine Below.drew ?_ | refine bdn ?_ _ | refine bal ?_ _ | refine Below.setCell ?_ (by first | (simp; done) | omega | (simp; omega)) _)) hb1; clear hE; have hE := hE1; clear hE1; obtain ⟨hd1, hg1⟩ := bcell hE) | (have hE := hb1)))
    go_ret
    exact ⟨rfl, (by repeat' (first | exact Below.refl _ _ | assumption | refine Below.drew ?_ | refine bdn ?_ _ | refine bal ?_ _ | refine Below.setCell ?_ (by first | (simp; done) | omega | (simp; omega)) _))⟩

theorem rf_floor_c (num den : Int) (w : World) (h0 : -4000000000000000000 ≤ num) (h1 : num ≤ 4000000000000000000) (h2 : 1 ≤ den) (h3 : den ≤ 4000000000000000000) :
   Calls Tryz.prog 100 #[.int .i64 num, .int .i64 den] w fun e w' => e = .returned (.int .i64 (num / den)) ∧ w = w' := by
  by_cases h : 0 ≤ num
  · go_enter Tryz.func100, Tryz.ntmps100
    go_wp2
    go_ret
    exact ⟨rfl, rfl⟩
  · have hq := ediv_bound (a := -num + den - 1) h2 (show (0:Int) ≤ 8000000000000000000 by omega) (by omega) (by omega)
    have e := up_eq (a := -num) h2
    have e2 := cdiv_neg (a := num) (d := den)
    have E := Lib.hid e
    have E2 := Lib.hid e2
    clear e e2
    go_enter Tryz.func100, Tryz.ntmps100
    go_wp2
    go_ret
    exact ⟨ret_int (by rw [E.out, E2.out]), rfl⟩

theorem rf_ceil_c (num den : Int) (w : World) (h0 : -4000000000000000000 ≤ num) (h1 : num ≤ 4000000000000000000) (h2 : 1 ≤ den) (h3 : den ≤ 4000000000000000000) :
   Calls Tryz.prog 101 #[.int .i64 num, .int .i64 den] w fun e w' => e = .returned (.int .i64 (cdiv num den)) ∧ w = w' := by
  have hb := ediv_bound (a := -num) h2 (show (0:Int) ≤ 4000000000000000000 by omega) (by omega) (by omega)
  go_enter Tryz.func101, Tryz.ntmps101
  go_wp2_with (first | (go_at_call 100; (with_reducible refine (rf_floor_c _ _ _ (by omega) (by omega) h2 h3).mono ?_); rintro e w1 ⟨rfl, rfl⟩))
  go_ret
  exact ⟨rfl, rfl⟩

theorem rf_up_c (num den : Int) (w : World) (h0 : 0 ≤ num) (h1 : num ≤ 4000000000000000000) (h2 : 1 ≤ den) (h3 : den ≤ 4000000000000000000) :
   Calls Tryz.prog 74 #[.int .i64 num, .int .i64 den] w fun e w' => e = .returned (.int .i64 (cdiv num den)) ∧ w = w' := by
  have e := up_eq (a := num) h2
  have hq := ediv_bound (a := num + den - 1) h2 (show (0:Int) ≤ 8000000000000000000 by omega) (by omega) (by omega)
  have E := Lib.hid e
  clear e
  go_enter Tryz.func74, Tryz.ntmps74
  go_wp2
  go_ret
  exact ⟨ret_int (by rw [E.out]), rfl⟩

theorem rf_down_c (num den : Int) (w : World) (h0 : -4000000000000000000 ≤ num) (h1 : num ≤ 4000000000000000000) (h2 : 1 ≤ den) (h3 : den ≤ 4000000000000000000) :
   Calls Tryz.prog 53 #[.int .i64 num, .int .i64 den] w fun e w' => e = .returned (.int .i64 (num / den)) ∧ w = w' := by
  by_cases h : 0 ≤ num
  · go_enter Tryz.func53, Tryz.ntmps53
    go_wp2
    go_ret
    exact ⟨rfl, rfl⟩
  · have hq := cdiv_bound (a := -num) h2 (show (0:Int) ≤ 8000000000000000000 by omega) (by omega) (by omega)
    have e2 := cdiv_neg (a := num) (d := den)
    have E2 := Lib.hid e2
    clear e2
    go_enter Tryz.func53, Tryz.ntmps53
    go_wp2_with (first | (go_at_call 74; (with_reducible refine (rf_up_c _ _ _ (by omega) (by omega) h2 h3).mono ?_); rintro e w1 ⟨rfl, rfl⟩))
    go_ret
    exact ⟨ret_int (by rw [E2.out]), rfl⟩

theorem rf_at_c (n : Int) (w : World) : Calls Tryz.prog 52 #[.int .i64 n] w fun e w' => e = .returned (.agg #[.int .i64 n, .int .i64 n]) ∧ Below w.heap.size w w' := by
  go_enter Tryz.func52, Tryz.ntmps52
  go_wp2
  exact bodyPost_ret (v := .agg #[.int .i64 n, .int .i64 n]) (by first | (simp (maxDischargeDepth := 9) [results, Tryz.results52, go_sem, hc1, hd1]; done) | (simp (maxDischargeDepth := 9) [results, Tryz.results52, go_sem, hc1]; done) | (simp [results, Tryz.results52, go_sem]; done)) rfl (⟨rfl, (by repeat' (first | exact Below.refl _ _ | assumption | refine Below.drew ?_ | refine bdn ?_ _ | refine bal ?_ _ | refine Below.setCell ?_ (by first | (simp; done) | omega | (simp; omega)) _))⟩)

theorem rf_Between_c (v : Value) (xs : List Int) (lo hi : Int) (w : World) (hv : Ints w v xs) (h0 : 0 < xs.length) :
   Calls Tryz.prog 49 #[v, .agg #[.int .i64 lo, .int .i64 hi]] w fun e w' => e = .returned (.bool (liesB xs lo hi)) ∧ Below w.heap.size w w' := by
  obtain ⟨A, c, rfl, hc1, hc2, _, hA⟩ := hv
  obtain ⟨b, off, rfl, hb, hc⟩ := hA h0
  have c0 := hc 0 h0
  simp only [Nat.add_zero] at c0
  have c1 := hc (xs.length - 1) (by omega)
  clear hc hA
  have hi0 : (0 : Int) < (xs.length : Int) := by omega
  have hi1 : (xs.length : Int) ≤ 9223372036854775807 := by omega
  have ht : ((xs.length : Int) - 1).toNat = xs.length - 1 := by omega
  cases h : decide (nth xs 0 ≤ lo)
  all_goals
    go_enter Tryz.func49, Tryz.ntmps49
    go_wp2
    go_quiet (fail)
    go_wp2
    go_ret
    exact ⟨ret_bool (by simp [liesB, h]), (by repeat' (first | exact Below.refl _ _ | assumption | refine Below.drew ?_ | refine bdn ?_ _ | refine bal ?_ _ | refine Below.setCell ?_ (by first | (simp; done) | omega | (simp; omega)) _))⟩

/-- sameInts of two lists. -/
theorem rf_same_c (v u : Value) (xs ys : List Int) (w : World) (hv : Ints w v xs) (hu : Ints w u ys) :
   Calls Tryz.prog 41 #[v, u] w fun e w' => e = .returned (.bool (decide (xs = ys))) ∧ Below w.heap.size w w' := by
  obtain ⟨A, c, rfl, hc1, hc2, _, hA⟩ := hv
  obtain ⟨A', c', rfl, hc1', hc2', _, hA'⟩ := hu
  by_cases hl : xs.length = ys.length
  · have hb : ((xs.length : Int) != (ys.length : Int)) = false := by simp [hl]
    have HL := Lib.hid hl
    rw [← hl] at hc1' hA' ⊢
    clear hl hb
    generalize hn : xs.length = n at *
    have HN := Lib.hid hn
    clear hn
    have hn9 : (n : Int) ≤ 9223372036854775807 := by omega
    have hb2 : ((n : Int) != (n : Int)) = false := by simp
    go_enter Tryz.func41, Tryz.ntmps41
    go_wp2
    go_loopw [5] (fun s wr => ∃ k : Nat, k ≤ n ∧ s = .int .i64 k ∧ Hid (Below w.heap.size w wr) ∧ Hid (∀ j, j < k → nth xs j = nth ys j)) (fun i _ => n - (intOf i).toNat)
    case atStart => exact ⟨0, by omega, rfl, Below.refl _ _, fun j hj => absurd hj (by omega)⟩
    case round =>
      obtain ⟨k, hk, rfl, hB, hF⟩ := hrel
      by_cases hlt : k < n
      · obtain ⟨b, off, rfl, hb1, hc⟩ := hA (by omega)
        obtain ⟨b', off', rfl, hb1', hc'⟩ := hA' (by omega)
        have hck := (hB.out.cell (p := ⟨b, off + k, none⟩) hb1).trans (hc k hlt)
        have hck' := (hB.out.cell (p := ⟨b', off' + k, none⟩) hb1').trans (hc' k hlt)
        clear hc hA hc' hA'
        by_cases he : nth xs k = nth ys k
        · have hne : (nth xs k != nth ys k) = false := by simp [he]
          go_wp2
          go_quiet (fail)
          go_wp2
          go_roundw
          case rel => exact ⟨k + 1, by omega, by go_num, bdn hB.out _, fun j hj => by
            by_cases e : j = k
            · subst e; exact he
            · exact hF.out j (by omega)⟩
          case measure => simp [intOf]; omega
        · have hne : (nth xs k != nth ys k) = true := by simp [he]
          go_wp2
          go_quiet (fail)
          go_wp2
          go_ret
          exact ⟨ret_bool (by simp only [Bool.false_eq, decide_eq_false_iff_not]; intro e; exact he (by rw [e])), bdn hB.out _⟩
      · obtain rfl : k = n := by omega
        clear hA hA'
        go_wp2
        go_ret
        exact ⟨ret_bool (by simp only [Bool.true_eq, decide_eq_true_eq]; exact ext_nth (HN.out.trans HL.out) (fun j hj => hF.out j (by rw [← HN.out]; exact hj))), hB.out⟩
  · have hb : ((xs.length : Int) != (ys.length : Int)) = true := by simp; omega
    have hne : ¬ xs = ys := fun e => hl (by rw [e])
    go_enter Tryz.func41, Tryz.ntmps41
    go_wp2
    go_ret
    exact ⟨ret_bool (by simp [hne]), Below.refl _ _⟩
end Go.Proofs.YtechkkgmdjgddaaGreat

/- Contracts: knots, CheckTable, filled of the references. -/
namespace Go.Proofs.YtechkkgmdjgddaaGreat
open Go Go.RowKit Go.Proofs
set_option maxRecDepth 100000
set_option maxHeartbeats 4000000

theorem rf_knots_c (v : Value) (xs : List Int) (w : World) (hv : Ints w v xs) :
   Calls Tryz.prog 96 #[v] w fun e w' => e = .returned (.bool (axisB xs)) ∧ Below w.heap.size w w' := by
  obtain ⟨A, c, rfl, hc1, hc2, h64, hA⟩ := hv
  have hc3 : xs.length ≤ 9223372036854775807 := by omega
  have H64 := Lib.hid h64
  clear h64
  generalize hL : xs.length = n at *
  have HL := Lib.hid hL
  clear hL
  cases h0 : inB n 2 12
  · go_enter Tryz.func96, Tryz.ntmps96
    go_wp2_with (first | (go_at_call 75; (with_reducible refine (rf_From_c _ _ _ _).mono ?_); rintro e w1 ⟨rfl, rfl⟩))
    go_ret
    exact ⟨ret_bool (by unfold axisB; rw [HL.out, h0]; rfl), Below.refl _ _⟩
  · go_enter Tryz.func96, Tryz.ntmps96
    go_wp2_with (first | (go_at_call 75; (with_reducible refine (rf_From_c _ _ _ _).mono ?_); rintro e w1 ⟨rfl, rfl⟩))
    have H0 := Lib.hid h0
    clear h0
    go_loopw [3] (fun s wr => ∃ k : Nat, k ≤ n ∧ s = .int .i64 k ∧ RowKit.Hid (Below w.heap.size w wr) ∧ RowKit.Hid (∀ j, j < k → okKnot xs j = true)) (fun i _ => n - (intOf i).toNat)
    case atStart => exact ⟨0, by omega, rfl, Below.refl _ _, fun j hj => absurd hj (by omega)⟩
    case round =>
      obtain ⟨k, hk, rfl, hB, hF⟩ := hrel
      by_cases hlt : k < n
      · obtain ⟨b, off, rfl, hb, hc⟩ := hA (by omega)
        have hck := (hB.out.cell (p := ⟨b, off + k, none⟩) hb).trans (hc k hlt)
        have hli : (k : Int) < (n : Int) := by omega
        cases h1 : inB (nth xs k) (-1000000) 1000000
        · clear hc hA
          go_wp2
          go_quiet (first | (go_at_call 75; (with_reducible refine qsame (rf_From_c _ _ _ _))))
          go_wp2
          go_ret
          exact ⟨ret_bool (axisB_no (by rw [HL.out]; exact hlt) (show okKnot xs k = false by simp [okKnot, h1])).symm, bdn hB.out _⟩
        · have hr := inB_iff.1 h1
          by_cases hk0 : k = 0
          · subst hk0
            simp only [Nat.add_zero] at hck
            clear hc hA
            go_wp2
            go_quiet (first | (go_at_call 75; (with_reducible refine qsame (rf_From_c _ _ _ _))))
            go_wp2
            go_roundw
            case rel => exact ⟨0 + 1, by omega, by go_num, bdn hB.out _, fun j hj => by
              obtain rfl : j = 0 := by omega
              exact okKnot_zero h1⟩
            case measure => simp [intOf]; omega
          · have hkp : 0 < k := by omega
            have hki : (0 : Int) < (k : Int) := by omega
            have hcp := (hB.out.cell (p := ⟨b, off + (k - 1), none⟩) hb).trans (hc (k - 1) (by omega))
            have hrp := okKnot_range (hF.out (k - 1) (by omega))
            have w1 : IntKind.i64.wrap ((k : Int) - 1) = (k : Int) - 1 := IntWalk.i64_in _ (by omega)
            have w2 : (0 : Int) ≤ (k : Int) - 1 := by omega
            have w3 : ((k : Int) - 1).toNat = k - 1 := by omega
            have w4 : (k : Int) - 1 < (n : Int) := by omega
            have w5 : IntKind.i64.wrap (nth xs k - nth xs (k - 1)) = nth xs k - nth xs (k - 1) := IntWalk.i64_in _ (by omega)
            clear hc hA
            cases h2 : inB (nth xs k - nth xs (k - 1)) 1 10000
            all_goals
              go_wp2
              go_quiet (first | (go_at_call 75; (with_reducible refine qsame (rf_From_c _ _ _ _))))
              clear w1 w2 w3 w4 w5
              go_wp2
            · go_ret
              exact ⟨ret_bool (axisB_no (by rw [HL.out]; exact hlt) (show okKnot xs k = false by simp [okKnot, h1, h2, hk0])).symm, bdn hB.out _⟩
            · go_roundw
              case rel => exact ⟨k + 1, by omega, by go_num, bdn hB.out _, fun j hj => by
                by_cases e : j = k
                · subst e; exact okKnot_succ h1 h2
                · exact hF.out j (by omega)⟩
              case measure => simp [intOf]; omega
      · obtain rfl : k = n := by omega
        clear hA
        go_wp2
        go_ret
        exact ⟨ret_bool (axisB_yes (by rw [HL.out]; exact H0.out) (by rw [HL.out]; exact hF.out)).symm, hB.out⟩

theorem tblB_row_no {T : Tbl} {i : Nat} (hi : i < T.V.length) (h : rowBad T.Y.length (nthR T.V i) = true) : tblB T = false := by
  have : anyRowBad T.Y.length T.V = true := by unfold anyRowBad; rw [List.any_eq_true]; exact ⟨i, List.mem_range.2 hi, h⟩
  simp [tblB, this]
theorem rowBad_len {ny : Nat} {r : List Int} (h : ((r.length : Int) != (ny : Int)) = true) : rowBad ny r = true := by simp [rowBad, h]
theorem rowBad_out {ny : Nat} {r : List Int} {k : Nat} (hk : k < r.length) (h : inB (nth r k) (-1000000) 1000000 = false) : rowBad ny r = true := by
  have : anyOut r = true := by unfold anyOut; rw [List.any_eq_true]; exact ⟨k, List.mem_range.2 hk, by simp [h]⟩
  simp [rowBad, this]
theorem rowBad_ok {ny : Nat} {r : List Int} (h : ((r.length : Int) != (ny : Int)) = false) (h2 : ∀ k, k < r.length → inB (nth r k) (-1000000) 1000000 = true) : rowBad ny r = false := by
  have : anyOut r = false := by unfold anyOut; rw [List.any_eq_false]; intro k hk; simp [h2 k (List.mem_range.1 hk)]
  unfold rowBad; rw [h, this]; rfl
theorem tblB_yes {T : Tbl} (h1 : axisB T.X = true) (h2 : axisB T.Y = true) (h3 : ((T.V.length : Int) != (T.X.length : Int)) = false) (h4 : ∀ i, i < T.V.length → rowBad T.Y.length (nthR T.V i) = false) : tblB T = true := by
  have : anyRowBad T.Y.length T.V = false := by unfold anyRowBad; rw [List.any_eq_false]; intro k hk; simp [h4 k (List.mem_range.1 hk)]
  unfold tblB; rw [h1, h2, h3, this]; rfl

theorem rf_CheckTable_c (x y v : Value) (T : Tbl) (w : World) (hT : TblAt w x y v T) :
   Calls Tryz.prog 69 #[.agg #[x, y, v]] w fun e w' => e = .returned (.int .i64 (tblE (tblB T))) ∧ Below w.heap.size w w' := by
  have hxl := hT.x.len
  have hyl := hT.y.len
  have HT := Lib.hid hT
  obtain ⟨xA, xc, rfl, -⟩ := id hT.x
  obtain ⟨yA, yc, rfl, -⟩ := id hT.y
  obtain ⟨A, c, vs, rfl, hv1, hv2, hv3, hv4⟩ := id hT.v
  have HV3 := Lib.hid hv3
  have HV4 := Lib.hid hv4
  clear hT hv3 hv4
  cases h1 : axisB T.X
  · go_enter Tryz.func69, Tryz.ntmps69
    go_wp2_with (first | (go_at_call 96; (with_reducible refine (rf_knots_c _ T.X _ (HT.out.x.below (by repeat' (first | exact Below.refl _ _ | assumption | refine Below.drew ?_ | refine bdn ?_ _ | refine bal ?_ _ | refine Below.setCell ?_ (by first | (simp; done) | omega | (simp; omega)) _)))).mono ?_); rintro e w1 ⟨rfl, hb1⟩; have hB1 := bthen (show Below w.heap.size w _ from (by repeat' (first | exact Below.refl _ _ | assumption | refine Below.drew ?_ | refine bdn ?_ _ | refine bal ?_ _ | refine Below.setCell ?_ (by first | (simp; done) | omega | (simp; omega)) _))) hb1; have hz1 := hb1.size; (try simp at hz1); obtain ⟨hc1, hf1⟩ := bcell hb1; first | (have hE1 := bthen2 hE (by repeat' (first | exact Below.refl _ _ | refine Below.drew ?_ | refine bdn ?_ _ | refine bal ?_ _ | refine Below.setCell ?_ (by first | (simp; done) | omega | (simp; omega)) _)) hb1; clear hE; have hE := hE1; clear hE1; obtain ⟨hd1, hg1⟩ := bcell hE) | (have hE := hb1)))
    go_ret
    exact ⟨ret_int (by simp [tblB, h1, tblE]), (by repeat' (first | exact Below.refl _ _ | assumption | refine Below.drew ?_ | refine bdn ?_ _ | refine bal ?_ _ | refine Below.setCell ?_ (by first | (simp; done) | omega | (simp; omega)) _))⟩
  · cases h2 : axisB T.Y
    · go_enter Tryz.func69, Tryz.ntmps69
      go_wp2_with (first | (go_at_call 96; (with_reducible refine (rf_knots_c _ T.X _ (HT.out.x.below (by repeat' (first | exact Below.refl _ _ | assumption | refine Below.drew ?_ | refine bdn ?_ _ | refine bal ?_ _ | refine Below.setCell ?_ (by first | (simp; done) | omega | (simp; omega)) _)))).mono ?_); rintro e w1 ⟨rfl, hb1⟩; have hB1 := bthen (show Below w.heap.size w _ from (by repeat' (first | exact Below.refl _ _ | assumption | refine Below.drew ?_ | refine bdn ?_ _ | refine bal ?_ _ | refine Below.setCell ?_ (by first | (simp; done) | omega | (simp; omega)) _))) hb1; have hz1 := hb1.size; (try simp at hz1); obtain ⟨hc1, hf1⟩ := bcell hb1; first | (have hE1 := bthen2 hE (by repeat' (first | exact Below.refl _ _ | refine Below.drew ?_ | refine bdn ?_ _ | refine bal ?_ _ | refine Below.setCell ?_ (by first | (simp; done) | omega | (simp; omega)) _)) hb1; clear hE; have hE := hE1; clear hE1; obtain ⟨hd1, hg1⟩ := bcell hE) | (have hE := hb1)) | (go_at_call 96; (with_reducible refine (rf_knots_c _ T.Y _ (HT.out.y.below (by repeat' (first | exact Below.refl _ _ | assumption | refine Below.drew ?_ | refine bdn ?_ _ | refine bal ?_ _ | refine Below.setCell ?_ (by first | (simp; done) | omega | (simp; omega)) _)))).mono ?_); rintro e w1 ⟨rfl, hb1⟩; have hB1 := bthen (show Below w.heap.size w _ from (by repeat' (first | exact Below.refl _ _ | assumption | refine Below.drew ?_ | refine bdn ?_ _ | refine bal ?_ _ | refine Below.setCell ?_ (by first | (simp; done) | omega | (simp; omega)) _))) hb1; have hz1 := hb1.size; (try simp at hz1); obtain ⟨hc1, hf1⟩ := bcell hb1; first | (have hE1 := bthen2 hE (by repeat' (first | exact Below.refl _ _ | refine Below.drew ?_ | refine bdn ?_ _ | refine bal ?_ _ | refine Below.setCell ?_ (by first | (simp; done) | omega | (simp; omega)) _)) hb1; clear hE; have hE := hE1; clear hE1; obtain ⟨hd1, hg1⟩ := bcell hE) | (have hE := hb1)))
      go_ret
      exact ⟨ret_int (by simp [tblB, h1, h2, tblE]), (by repeat' (first | exact Below.refl _ _ | assumption | refine Below.drew ?_ | refine bdn ?_ _ | refine bal ?_ _ | refine Below.setCell ?_ (by first | (simp; done) | omega | (simp; omega)) _))⟩
    · cases h3 : ((T.V.length : Int) != (T.X.length : Int))
      · go_enter Tryz.func69, Tryz.ntmps69
        go_wp2_with (first | (go_at_call 96; (with_reducible refine (rf_knots_c _ T.X _ (HT.out.x.below (by repeat' (first | exact Below.refl _ _ | assumption | refine Below.drew ?_ | refine bdn ?_ _ | refine bal ?_ _ | refine Below.setCell ?_ (by first | (simp; done) | omega | (simp; omega)) _)))).mono ?_); rintro e w1 ⟨rfl, hb1⟩; have hB1 := bthen (show Below w.heap.size w _ from (by repeat' (first | exact Below.refl _ _ | assumption | refine Below.drew ?_ | refine bdn ?_ _ | refine bal ?_ _ | refine Below.setCell ?_ (by first | (simp; done) | omega | (simp; omega)) _))) hb1; have hz1 := hb1.size; (try simp at hz1); obtain ⟨hc1, hf1⟩ := bcell hb1; first | (have hE1 := bthen2 hE (by repeat' (first | exact Below.refl _ _ | refine Below.drew ?_ | refine bdn ?_ _ | refine bal ?_ _ | refine Below.setCell ?_ (by first | (simp; done) | omega | (simp; omega)) _)) hb1; clear hE; have hE := hE1; clear hE1; obtain ⟨hd1, hg1⟩ := bcell hE) | (have hE := hb1)) | (go_at_call 96; (with_reducible refine (rf_knots_c _ T.Y _ (HT.out.y.below (by repeat' (first | exact Below.refl _ _ | assumption | refine Below.drew ?_ | refine bdn ?_ _ | refine bal ?_ _ | refine Below.setCell ?_ (by first | (simp; done) | omega | (simp; omega)) _)))).mono ?_); rintro e w1 ⟨rfl, hb1⟩; have hB1 := bthen (show Below w.heap.size w _ from (by repeat' (first | exact Below.refl _ _ | assumption | refine Below.drew ?_ | refine bdn ?_ _ | refine bal ?_ _ | refine Below.setCell ?_ (by first | (simp; done) | omega | (simp; omega)) _))) hb1; have hz1 := hb1.size; (try simp at hz1); obtain ⟨hc1, hf1⟩ := bcell hb1; first | (have hE1 := bthen2 hE (by repeat' (first | exact Below.refl _ _ | refine Below.drew ?_ | refine bdn ?_ _ | refine bal ?_ _ | refine Below.setCell ?_ (by first | (simp; done) | omega | (simp; omega)) _)) hb1; clear hE; have hE := hE1; clear hE1; obtain ⟨hd1, hg1⟩ := bcell hE) | (have hE := hb1)))
        have H1 := Lib.hid h1
        have H2 := Lib.hid h2
        have H3 := Lib.hid h3
        have HB0 := Lib.hid hB1
        have D0 := Lib.hid ((show Blk (w.alloc (.cells #[.slice xA T.X.length xc, .slice yA T.Y.length yc, .slice A T.V.length c] 25)) w.heap.size 25 #[.slice xA T.X.length xc, .slice yA T.Y.length yc, .slice A T.V.length c] from (by repeat (first | (refine Blk.newAt _ _ _ ?_; first | rfl | (simp; done)) | refine Blk.alloc ?_ _))).below hE)
        clear h1 h2 h3 hB1 hE hb1 hc1 hf1 hz1
        try clear hd1 hg1
        go_loopw [3] (fun s wr => ∃ i : Nat, i ≤ T.V.length ∧ s = .int .i64 i ∧ RowKit.Hid (Below w.heap.size w wr) ∧ RowKit.Hid (Blk wr w.heap.size 25 #[.slice xA T.X.length xc, .slice yA T.Y.length yc, .slice A T.V.length c]) ∧ RowKit.Hid (∀ j, j < i → rowBad T.Y.length (nthR T.V j) = false)) (fun i _ => T.V.length - (intOf i).toNat)
        case atStart => exact ⟨0, by omega, rfl, HB0.out, D0.out, fun j hj => absurd hj (by omega)⟩
        case round =>
          obtain ⟨i, hi, rfl, hB, hD, hF⟩ := hrel
          clear HB0 D0
          have t1 := hD.out.cell 1
          have t2 := hD.out.cell 2
          by_cases hlt : i < T.V.length
          · obtain ⟨bV, oV, rfl, hbV, hcV⟩ := HV3.out (by omega)
            have ck := (hB.out.cell (p := ⟨bV, oV + i, none⟩) hbV).trans (hcV i hlt)
            have hli : (i : Int) < (T.V.length : Int) := by omega
            obtain ⟨ra, rc, hre, s1, s2, -, hRA⟩ := HV4.out i hlt
            rw [hre] at ck
            generalize hrow : nthR T.V i = row at *
            have hrl : row.length ≤ 9223372036854775807 := by omega
            have HRow := Lib.hid hrow
            have HRA := Lib.hid hRA
            clear hre hcV hrow hRA
            cases h4 : ((row.length : Int) != (T.Y.length : Int))
            · have H4 := Lib.hid h4
              go_wp2
              go_quiet (fail)
              go_wp2
              have HBq := Lib.hid (bdn hB.out nq)
              have HDq := Lib.hid (Blk.below hD.out (bdn (Below.refl wr.heap.size wr) nq))
              have ckq := Lib.hid (show (wr.drewN nq).cell? ⟨bV, oV + i, none⟩ = some (.slice ra row.length rc) from ck)
              obtain ⟨wo, hwo⟩ : ∃ wo : World, wo = wr.drewN nq := ⟨_, rfl⟩
              rw [← hwo] at HBq HDq ckq ⊢
              clear ck t1 t2 hB hD hwo h4
              have t1 := HDq.out.cell 1
              have t2 := HDq.out.cell 2
              have ck := ckq.out
              go_loop [4] (fun s => ∃ k : Nat, k ≤ row.length ∧ s = .int .i64 k ∧ RowKit.Hid (∀ j, j < k → inB (nth row j) (-1000000) 1000000 = true)) (fun s => row.length - (intOf s).toNat)
              case atStart => exact ⟨0, by omega, rfl, fun j hj => absurd hj (by omega)⟩
              case round =>
                obtain ⟨k, hk, rfl, hG⟩ := hrel
                by_cases hkt : k < row.length
                · obtain ⟨br, or, rfl, hbr, hcr⟩ := HRA.out (by omega)
                  have cr := (HBq.out.cell (p := ⟨br, or + k, none⟩) hbr).trans (hcr k hkt)
                  clear hcr
                  cases h5 : inB (nth row k) (-1000000) 1000000
                  · go_wp2_with (first | (go_at_call 75; (with_reducible refine (rf_From_c _ _ _ _).mono ?_); rintro e w1 ⟨rfl, rfl⟩))
                    go_ret
                    exact ⟨ret_int (by rw [tblB_row_no hlt (by rw [HRow.out]; exact rowBad_out hkt h5)]; rfl), HBq.out⟩
                  · go_wp2_with (first | (go_at_call 75; (with_reducible refine (rf_From_c _ _ _ _).mono ?_); rintro e w1 ⟨rfl, rfl⟩))
                    go_round
                    case rel => exact ⟨k + 1, by omega, by go_num, fun j hj => by
                      by_cases e : j = k
                      · subst e; exact h5
                      · exact hG.out j (by omega)⟩
                    case measure => simp [intOf]; omega
                · obtain rfl : k = row.length := by omega
                  go_wp2
                  go_roundw
                  case rel => exact ⟨i + 1, by omega, by go_num, HBq.out, HDq.out, fun j hj => by
                    by_cases e : j = i
                    · subst e; rw [HRow.out]; exact rowBad_ok H4.out hG.out
                    · exact hF.out j (by omega)⟩
                  case measure => simp [intOf]; omega
            · go_wp2
              go_quiet (fail)
              go_wp2
              go_ret
              exact ⟨ret_int (by rw [tblB_row_no hlt (by rw [HRow.out]; exact rowBad_len h4)]; rfl), bdn hB.out _⟩
          · obtain rfl : i = T.V.length := by omega
            go_wp2
            go_ret
            exact ⟨ret_int (by rw [tblB_yes H1.out H2.out H3.out hF.out]; rfl), hB.out⟩
      · go_enter Tryz.func69, Tryz.ntmps69
        go_wp2_with (first | (go_at_call 96; (with_reducible refine (rf_knots_c _ T.X _ (HT.out.x.below (by repeat' (first | exact Below.refl _ _ | assumption | refine Below.drew ?_ | refine bdn ?_ _ | refine bal ?_ _ | refine Below.setCell ?_ (by first | (simp; done) | omega | (simp; omega)) _)))).mono ?_); rintro e w1 ⟨rfl, hb1⟩; have hB1 := bthen (show Below w.heap.size w _ from (by repeat' (first | exact Below.refl _ _ | assumption | refine Below.drew ?_ | refine bdn ?_ _ | refine bal ?_ _ | refine Below.setCell ?_ (by first | (simp; done) | omega | (simp; omega)) _))) hb1; have hz1 := hb1.size; (try simp at hz1); obtain ⟨hc1, hf1⟩ := bcell hb1; first | (have hE1 := bthen2 hE (by repeat' (first | exact Below.refl _ _ | refine Below.drew ?_ | refine bdn ?_ _ | refine bal ?_ _ | refine Below.setCell ?_ (by first | (simp; done) | omega | (simp; omega)) _)) hb1; clear hE; have hE := hE1; clear hE1; obtain ⟨hd1, hg1⟩ := bcell hE) | (have hE := hb1)) | (go_at_call 96; (with_reducible refine (rf_knots_c _ T.Y _ (HT.out.y.below (by repeat' (first | exact Below.refl _ _ | assumption | refine Below.drew ?_ | refine bdn ?_ _ | refine bal ?_ _ | refine Below.setCell ?_ (by first | (simp; done) | omega | (simp; omega)) _)))).mono ?_); rintro e w1 ⟨rfl, hb1⟩; have hB1 := bthen (show Below w.heap.size w _ from (by repeat' (first | exact Below.refl _ _ | assumption | refine Below.drew ?_ | refine bdn ?_ _ | refine bal ?_ _ | refine Below.setCell ?_ (by first | (simp; done) | omega | (simp; omega)) _))) hb1; have hz1 := hb1.size; (try simp at hz1); obtain ⟨hc1, hf1⟩ := bcell hb1; first | (have hE1 := bthen2 hE (by repeat' (first | exact Below.refl _ _ | refine Below.drew ?_ | refine bdn ?_ _ | refine bal ?_ _ | refine Below.setCell ?_ (by first | (simp; done) | omega | (simp; omega)) _)) hb1; clear hE; have hE := hE1; clear hE1; obtain ⟨hd1, hg1⟩ := bcell hE) | (have hE := hb1)))
        go_ret
        exact ⟨ret_int (by simp [tblB, h1, h2, h3, tblE]), (by repeat' (first | exact Below.refl _ _ | assumption | refine Below.drew ?_ | refine bdn ?_ _ | refine bal ?_ _ | refine Below.setCell ?_ (by first | (simp; done) | omega | (simp; omega)) _))⟩
end Go.Proofs.YtechkkgmdjgddaaGreat

/- Contracts: filled of the reference. -/
namespace Go.Proofs.YtechkkgmdjgddaaGreat
open Go Go.RowKit Go.Proofs
set_option maxRecDepth 100000
set_option maxHeartbeats 4000000

theorem right_off {T : Tbl} {lo hi : Int} (ht : tblB T = true) {i k : Nat} (hi' : i < T.X.length) (hk : k < T.Y.length) (h : inB (nth (nthR T.V i) k) lo hi = false) : rightB T lo hi = false := by
  have lV := tblB_len ht
  have lr := (tblB_row ht (show i < T.V.length by omega)).1
  have : offB lo hi T.V = true := by
    unfold offB; rw [List.any_eq_true]; refine ⟨i, List.mem_range.2 (by omega), ?_⟩
    unfold rowOff; rw [List.any_eq_true]; exact ⟨k, List.mem_range.2 (by omega), by simp [h]⟩
  simp [rightB, this]
theorem right_yes {T : Tbl} {lo hi : Int} (ht : tblB T = true) (h : ∀ i, i < T.X.length → ∀ k, k < T.Y.length → inB (nth (nthR T.V i) k) lo hi = true) : rightB T lo hi = true := by
  have lV := tblB_len ht
  have : offB lo hi T.V = false := by
    unfold offB; rw [List.any_eq_false]; intro i hi'
    have hi' := List.mem_range.1 hi'
    have lr := (tblB_row ht hi').1
    simp only [Bool.not_eq_true]
    unfold rowOff; rw [List.any_eq_false]; intro k hk
    have hk := List.mem_range.1 hk
    simp [h i (by omega) k (by omega)]
  unfold rightB; rw [ht, this]; rfl

theorem rf_filled_c (x y v : Value) (T : Tbl) (lo hi : Int) (w : World) (hT : TblAt w x y v T) :
   Calls Tryz.prog 40 #[.agg #[x, y, v], .int .i64 lo, .int .i64 hi] w fun e w' => e = .returned (.bool (rightB T lo hi)) ∧ Below w.heap.size w w' := by
  have HT := Lib.hid hT
  have e1 := tblE_t
  have e2 := tblE_f
  obtain ⟨xA, xc, rfl, -⟩ := id hT.x
  obtain ⟨yA, yc, rfl, -⟩ := id hT.y
  obtain ⟨A, c, vs, rfl, hv1, hv2, hv3, hv4⟩ := id hT.v
  have HV3 := Lib.hid hv3
  have HV4 := Lib.hid hv4
  clear hT hv3 hv4
  cases ht : tblB T
  · go_enter Tryz.func40, Tryz.ntmps40
    go_wp2_with (first | (go_at_call 69; (with_reducible refine (rf_CheckTable_c _ _ _ T _ (HT.out.below (by repeat' (first | exact Below.refl _ _ | assumption | refine Below.drew ?_ | refine bdn ?_ _ | refine bal ?_ _ | refine Below.setCell ?_ (by first | (simp; done) | omega | (simp; omega)) _)))).mono ?_); rintro e w1 ⟨rfl, hb1⟩; have hB1 := bthen (show Below w.heap.size w _ from (by repeat' (first | exact Below.refl _ _ | assumption | refine Below.drew ?_ | refine bdn ?_ _ | refine bal ?_ _ | refine Below.setCell ?_ (by first | (simp; done) | omega | (simp; omega)) _))) hb1; have hz1 := hb1.size; (try simp at hz1); obtain ⟨hc1, hf1⟩ := bcell hb1; first | (have hE1 := bthen2 hE (by repeat' (first | exact Below.refl _ _ | refine Below.drew ?_ | refine bdn ?_ _ | refine bal ?_ _ | refine Below.setCell ?_ (by first | (simp; done) | omega | (simp; omega)) _)) hb1; clear hE; have hE := hE1; clear hE1; obtain ⟨hd1, hg1⟩ := bcell hE) | (have hE := hb1)))
    go_ret
    exact ⟨ret_bool (by simp [rightB, ht]), (by repeat' (first | exact Below.refl _ _ | assumption | refine Below.drew ?_ | refine bdn ?_ _ | refine bal ?_ _ | refine Below.setCell ?_ (by first | (simp; done) | omega | (simp; omega)) _))⟩
  · have lX := axisB_len (tblB_X ht)
    have lY := axisB_len (tblB_Y ht)
    have lV := tblB_len ht
    have Ht := Lib.hid ht
    have HlV := Lib.hid lV
    have lVi : T.V.length ≤ 12 := by omega
    clear lV
    go_enter Tryz.func40, Tryz.ntmps40
    go_wp2_with (first | (go_at_call 69; (with_reducible refine (rf_CheckTable_c _ _ _ T _ (HT.out.below (by repeat' (first | exact Below.refl _ _ | assumption | refine Below.drew ?_ | refine bdn ?_ _ | refine bal ?_ _ | refine Below.setCell ?_ (by first | (simp; done) | omega | (simp; omega)) _)))).mono ?_); rintro e w1 ⟨rfl, hb1⟩; have hB1 := bthen (show Below w.heap.size w _ from (by repeat' (first | exact Below.refl _ _ | assumption | refine Below.drew ?_ | refine bdn ?_ _ | refine bal ?_ _ | refine Below.setCell ?_ (by first | (simp; done) | omega | (simp; omega)) _))) hb1; have hz1 := hb1.size; (try simp at hz1); obtain ⟨hc1, hf1⟩ := bcell hb1; first | (have hE1 := bthen2 hE (by repeat' (first | exact Below.refl _ _ | refine Below.drew ?_ | refine bdn ?_ _ | refine bal ?_ _ | refine Below.setCell ?_ (by first | (simp; done) | omega | (simp; omega)) _)) hb1; clear hE; have hE := hE1; clear hE1; obtain ⟨hd1, hg1⟩ := bcell hE) | (have hE := hb1)))
    have HB := Lib.hid hB1
    have D0 := Lib.hid ((show Blk (w.alloc (.cells #[.slice xA T.X.length xc, .slice yA T.Y.length yc, .slice A T.V.length c] 25)) w.heap.size 25 #[.slice xA T.X.length xc, .slice yA T.Y.length yc, .slice A T.V.length c] from (by repeat (first | (refine Blk.newAt _ _ _ ?_; first | rfl | (simp; done)) | refine Blk.alloc ?_ _))).below hE)
    have t0 := D0.out.cell 0
    have t1 := D0.out.cell 1
    have t2 := D0.out.cell 2
    clear ht hB1 hE hb1 hc1 hf1 hz1
    try clear hd1 hg1
    go_loop [7, 8] (fun s _ => ∃ i : Nat, i ≤ T.X.length ∧ s = .int .i64 i ∧ RowKit.Hid (∀ j, j < i → ∀ k, k < T.Y.length → inB (nth (nthR T.V j) k) lo hi = true)) (fun i _ => T.X.length - (intOf i).toNat)
    case atStart => exact ⟨0, by omega, rfl, fun j hj => absurd hj (by omega)⟩
    case round =>
      obtain ⟨i, hi', rfl, hF⟩ := hrel
      by_cases hlt : i < T.X.length
      · have hiV : i < T.V.length := by have := HlV.out; omega
        obtain ⟨bV, oV, rfl, hbV, hcV⟩ := HV3.out (by omega)
        have ck := (HB.out.cell (p := ⟨bV, oV + i, none⟩) hbV).trans (hcV i hiV)
        obtain ⟨ra, rc, hre, s1, s2, -, hRA⟩ := HV4.out i hiV
        rw [hre] at ck
        have lr := (tblB_row Ht.out hiV).1
        rw [lr] at ck hRA
        have HRA := Lib.hid hRA
        clear hre hcV hRA s1 lr
        go_wp2
        go_loop [8] (fun s => ∃ k : Nat, k ≤ T.Y.length ∧ s = .int .i64 k ∧ RowKit.Hid (∀ j, j < k → inB (nth (nthR T.V i) j) lo hi = true)) (fun s => T.Y.length - (intOf s).toNat)
        case atStart => exact ⟨0, by omega, rfl, fun j hj => absurd hj (by omega)⟩
        case round =>
          obtain ⟨k, hk, rfl, hG⟩ := hrel
          by_cases hkt : k < T.Y.length
          · obtain ⟨br, or, rfl, hbr, hcr⟩ := HRA.out (by omega)
            have cr := (HB.out.cell (p := ⟨br, or + k, none⟩) hbr).trans (hcr k hkt)
            clear hcr
            cases h5 : inB (nth (nthR T.V i) k) lo hi
            · go_wp2_with (first | (go_at_call 42; (with_reducible refine (rf_from_c _ _ _ _).mono ?_); rintro e w1 ⟨rfl, rfl⟩))
              go_ret
              exact ⟨ret_bool (by rw [right_off Ht.out hlt hkt h5]), HB.out⟩
            · go_wp2_with (first | (go_at_call 42; (with_reducible refine (rf_from_c _ _ _ _).mono ?_); rintro e w1 ⟨rfl, rfl⟩))
              go_round
              case rel => exact ⟨k + 1, by omega, by go_num, fun j hj => by
                by_cases e : j = k
                · subst e; exact h5
                · exact hG.out j (by omega)⟩
              case measure => simp [intOf]; omega
          · obtain rfl : k = T.Y.length := by omega
            go_wp2
            go_round
            case rel => exact ⟨i + 1, by omega, by go_num, fun j hj k hk => by
              by_cases e : j = i
              · subst e; exact hG.out k hk
              · exact hF.out j (by omega) k hk⟩
            case measure => simp [intOf]; omega
      · obtain rfl : i = T.X.length := by omega
        go_wp2
        go_ret
        exact ⟨ret_bool (by rw [right_yes Ht.out hF.out]), HB.out⟩
end Go.Proofs.YtechkkgmdjgddaaGreat

/- Contracts: part of the references. -/
namespace Go.Proofs.YtechkkgmdjgddaaGreat
open Go Go.RowKit Go.Proofs
set_option maxRecDepth 100000
set_option maxHeartbeats 4000000

theorem rf_part_c (v : Value) (xs : List Int) (x : Int) (w : World) (hv : Ints w v xs) (h2 : 2 ≤ xs.length) :
   Calls Tryz.prog 107 #[v, .int .i64 x] w fun e w' => e = .returned (.int .i64 (cellP xs (x + 1))) ∧ w = w' := by
  obtain ⟨A, c, rfl, hc1, hc2, _, hA⟩ := hv
  obtain ⟨b, off, rfl, hb, hc⟩ := hA (by omega)
  have s : cellP xs (x + 1) ≤ xs.length - 1 - 1 ∧ (∀ j, j < cellP xs (x + 1) → nth xs (j + 1) < x + 1) ∧ (cellP xs (x + 1) < xs.length - 1 - 1 → x + 1 ≤ nth xs (cellP xs (x + 1) + 1)) := lowIx_spec (fun k => nth xs (k + 1)) (xs.length - 1 - 1) (x + 1)
  generalize cellP xs (x + 1) = L at *
  obtain ⟨s1, s2, s3⟩ := s
  have S2 := Lib.hid s2
  have S3 := Lib.hid s3
  have HC := Lib.hid hc
  clear s2 s3 hc hA
  go_enter Tryz.func107, Tryz.ntmps107
  go_wp2
  go_loop [5] (fun s => ∃ i : Nat, i ≤ L ∧ s = .int .i64 i) (fun i => L - (intOf i).toNat)
  case atStart => exact ⟨0, by omega, rfl⟩
  case round =>
    obtain ⟨i, hi, rfl⟩ := hrel
    by_cases hlt : i < L
    · have c1 := HC.out (i + 1) (by omega)
      have g1 := S2.out i hlt
      have g2 : (i : Int) + 2 < (xs.length : Int) := by omega
      have g3 : nth xs (i + 1) ≤ x := by omega
      go_wp2
      go_round
      case rel => exact ⟨i + 1, by omega, by go_num⟩
      case measure => simp [intOf]; omega
    · obtain rfl : i = L := by omega
      by_cases hn : i < xs.length - 1 - 1
      · have c1 := HC.out (i + 1) (by omega)
        have g1 := S3.out hn
        have g2 : (i : Int) + 2 < (xs.length : Int) := by omega
        have g3 : ¬ nth xs (i + 1) ≤ x := by omega
        go_wp2
        go_ret
        exact ⟨rfl, rfl⟩
      · have g2 : ¬ (i : Int) + 2 < (xs.length : Int) := by omega
        go_wp2
        go_ret
        exact ⟨rfl, rfl⟩
end Go.Proofs.YtechkkgmdjgddaaGreat
