/- Contracts: filled of the reference. -/
import Derived.Test.YtoembbcddhlokaaRfB
set_option linter.all false
namespace Go.Proofs.Ytoembbcddhlokaa
open Go Go.RowKit Go.Proofs
set_option maxRecDepth 100000
set_option maxHeartbeats 4000000

theorem right_off {T : Tbl} {lo hi : Int} (ht : tblB T = true) {i k : Nat} (hi' : i < T.X.length) (hk : k < T.Y.length) (h : inB (nth (nthR T.V i) k) lo hi = false) : rightB T lo hi = false := by
  have lV := tblB_len ht
  have lr := (tblB_row ht (show i < T.V.length by omega)).1
  have : offB lo hi T.V = true := by
    unfold offB; rw [List.any_eq_true]; refine ⟨i, List.mem_range.2 (by omega), ?_⟩
    unfold rowOff; rw [List.any_eq_true]; exact ⟨k, List.mem_range.2 (by omega), by simp [h]⟩
  simp [rightB, this]
theorem right_yes {T : Tbl} {lo hi : Int} (ht : tblB T = true) (h : ∀ i, i < T.X.length → ∀ k, k < T.Y.length → inB (nth (nthR T.V i) k) lo hi = true) : rightB T lo hi = true := by
  have lV := tblB_len ht
  have : offB lo hi T.V = false := by
    unfold offB; rw [List.any_eq_false]; intro i hi'
    have hi' := List.mem_range.1 hi'
    have lr := (tblB_row ht hi').1
    simp only [Bool.not_eq_true]
    unfold rowOff; rw [List.any_eq_false]; intro k hk
    have hk := List.mem_range.1 hk
    simp [h i (by omega) k (by omega)]
  unfold rightB; rw [ht, this]; rfl

theorem rf_filled_c (x y v : Value) (T : Tbl) (lo hi : Int) (w : World) (hT : TblAt w x y v T) :
   Calls Try.prog 55 #[.agg #[x, y, v], .int .i64 lo, .int .i64 hi] w fun e w' => e = .returned (.bool (rightB T lo hi)) ∧ Below w.heap.size w w' := by
  have HT := Lib.hid hT
  have e1 := tblE_t
  have e2 := tblE_f
  obtain ⟨xA, xc, rfl, -⟩ := id hT.x
  obtain ⟨yA, yc, rfl, -⟩ := id hT.y
  obtain ⟨A, c, vs, rfl, hv1, hv2, hv3, hv4⟩ := id hT.v
  have HV3 := Lib.hid hv3
  have HV4 := Lib.hid hv4
  clear hT hv3 hv4
  cases ht : tblB T
  · go_enter Try.func55, Try.ntmps55
    go_wp2_with (first | (go_at_call 108; (with_reducible refine (rf_CheckTable_c _ _ _ T _ (HT.out.below (by repeat' (first | exact Below.refl _ _ | assumption | refine Below.drew ?_ | refine bdn ?_ _ | refine bal ?_ _ | refine Below.setCell ?_ (by first | (simp; done) | omega | (simp; omega)) _)))).mono ?_); rintro e w1 ⟨rfl, hb1⟩; have hB1 := bthen (show Below w.heap.size w _ from (by repeat' (first | exact Below.refl _ _ | assumption | refine Below.drew ?_ | refine bdn ?_ _ | refine bal ?_ _ | refine Below.setCell ?_ (by first | (simp; done) | omega | (simp; omega)) _))) hb1; have hz1 := hb1.size; (try simp at hz1); obtain ⟨hc1, hf1⟩ := bcell hb1; first | (have hE1 := bthen2 hE (by repeat' (first | exact Below.refl _ _ | refine Below.drew ?_ | refine bdn ?_ _ | refine bal ?_ _ | refine Below.setCell ?_ (by first | (simp; done) | omega | (simp; omega)) _)) hb1; clear hE; have hE := hE1; clear hE1; obtain ⟨hd1, hg1⟩ := bcell hE) | (have hE := hb1)))
    go_ret
    exact ⟨ret_bool (by simp [rightB, ht]), (by repeat' (first | exact Below.refl _ _ | assumption | refine Below.drew ?_ | refine bdn ?_ _ | refine bal ?_ _ | refine Below.setCell ?_ (by first | (simp; done) | omega | (simp; omega)) _))⟩
  · have lX := axisB_len (tblB_X ht)
    have lY := axisB_len (tblB_Y ht)
    have lV := tblB_len ht
    have Ht := Lib.hid ht
    have HlV := Lib.hid lV
    have lVi : T.V.length ≤ 12 := by omega
    clear lV
    go_enter Try.func55, Try.ntmps55
    go_wp2_with (first | (go_at_call 108; (with_reducible refine (rf_CheckTable_c _ _ _ T _ (HT.out.below (by repeat' (first | exact Below.refl _ _ | assumption | refine Below.drew ?_ | refine bdn ?_ _ | refine bal ?_ _ | refine Below.setCell ?_ (by first | (simp; done) | omega | (simp; omega)) _)))).mono ?_); rintro e w1 ⟨rfl, hb1⟩; have hB1 := bthen (show Below w.heap.size w _ from (by repeat' (first | exact Below.refl _ _ | assumption | refine Below.drew ?_ | refine bdn ?_ _ | refine bal ?_ _ | refine Below.setCell ?_ (by first | (simp; done) | omega | (simp; omega)) _))) hb1; have hz1 := hb1.size; (try simp at hz1); obtain ⟨hc1, hf1⟩ := bcell hb1; first | (have hE1 := bthen2 hE (by repeat' (first | exact Below.refl _ _ | refine Below.drew ?_ | refine bdn ?_ _ | refine bal ?_ _ | refine Below.setCell ?_ (by first | (simp; done) | omega | (simp; omega)) _)) hb1; clear hE; have hE := hE1; clear hE1; obtain ⟨hd1, hg1⟩ := bcell hE) | (have hE := hb1)))
    have HB := Lib.hid hB1
    have D0 := Lib.hid ((show Blk (w.alloc (.cells #[.slice xA T.X.length xc, .slice yA T.Y.length yc, .slice A T.V.length c] 25)) w.heap.size 25 #[.slice xA T.X.length xc, .slice yA T.Y.length yc, .slice A T.V.length c] from (by repeat (first | (refine Blk.newAt _ _ _ ?_; first | rfl | (simp; done)) | refine Blk.alloc ?_ _))).below hE)
    have t0 := D0.out.cell 0
    have t1 := D0.out.cell 1
    have t2 := D0.out.cell 2
    clear ht hB1 hE hb1 hc1 hf1 hz1
    try clear hd1 hg1
    go_loop [7, 8] (fun s _ => ∃ i : Nat, i ≤ T.X.length ∧ s = .int .i64 i ∧ RowKit.Hid (∀ j, j < i → ∀ k, k < T.Y.length → inB (nth (nthR T.V j) k) lo hi = true)) (fun i _ => T.X.length - (intOf i).toNat)
    case atStart => exact ⟨0, by omega, rfl, fun j hj => absurd hj (by omega)⟩
    case round =>
      obtain ⟨i, hi', rfl, hF⟩ := hrel
      by_cases hlt : i < T.X.length
      · have hiV : i < T.V.length := by have := HlV.out; omega
        obtain ⟨bV, oV, rfl, hbV, hcV⟩ := HV3.out (by omega)
        have ck := (HB.out.cell (p := ⟨bV, oV + i, none⟩) hbV).trans (hcV i hiV)
        obtain ⟨ra, rc, hre, s1, s2, -, hRA⟩ := HV4.out i hiV
        rw [hre] at ck
        have lr := (tblB_row Ht.out hiV).1
        rw [lr] at ck hRA
        have HRA := Lib.hid hRA
        clear hre hcV hRA s1 lr
        go_wp2
        go_loop [8] (fun s => ∃ k : Nat, k ≤ T.Y.length ∧ s = .int .i64 k ∧ RowKit.Hid (∀ j, j < k → inB (nth (nthR T.V i) j) lo hi = true)) (fun s => T.Y.length - (intOf s).toNat)
        case atStart => exact ⟨0, by omega, rfl, fun j hj => absurd hj (by omega)⟩
        case round =>
          obtain ⟨k, hk, rfl, hG⟩ := hrel
          by_cases hkt : k < T.Y.length
          · obtain ⟨br, or, rfl, hbr, hcr⟩ := HRA.out (by omega)
            have cr := (HB.out.cell (p := ⟨br, or + k, none⟩) hbr).trans (hcr k hkt)
            clear hcr
            cases h5 : inB (nth (nthR T.V i) k) lo hi
            · go_wp2_with (first | (go_at_call 57; (with_reducible refine (rf_from_c _ _ _ _).mono ?_); rintro e w1 ⟨rfl, rfl⟩))
              go_ret
              exact ⟨ret_bool (by rw [right_off Ht.out hlt hkt h5]), HB.out⟩
            · go_wp2_with (first | (go_at_call 57; (with_reducible refine (rf_from_c _ _ _ _).mono ?_); rintro e w1 ⟨rfl, rfl⟩))
              go_round
              case rel => exact ⟨k + 1, by omega, by go_num, fun j hj => by
                by_cases e : j = k
                · subst e; exact h5
                · exact hG.out j (by omega)⟩
              case measure => simp [intOf]; omega
          · obtain rfl : k = T.Y.length := by omega
            go_wp2
            go_round
            case rel => exact ⟨i + 1, by omega, by go_num, fun j hj k hk => by
              by_cases e : j = i
              · subst e; exact hG.out k hk
              · exact hF.out j (by omega) k hk⟩
            case measure => simp [intOf]; omega
      · obtain rfl : i = T.X.length := by omega
        go_wp2
        go_ret
        exact ⟨ret_bool (by rw [right_yes Ht.out hF.out]), HB.out⟩
end Go.Proofs.Ytoembbcddhlokaa
