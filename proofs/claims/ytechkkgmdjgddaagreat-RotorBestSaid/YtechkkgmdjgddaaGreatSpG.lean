/- Contracts: cmp.Or, compare, up, made, stops of package spans. -/
import Derived.Test.YtechkkgmdjgddaaGreatSpF
import Derived.Test.YtechkkgmdjgddaaGreatBas
set_option linter.all false
namespace Go.Proofs.YtechkkgmdjgddaaGreat
open Go Go.RowKit Go.Proofs

set_option maxHeartbeats 800000 in
theorem or2_c (b c : Nat) (x y : Int) (w : World) (h0 : w.cell? ⟨b, 0, none⟩ = some (.int .i64 x)) (h1 : w.cell? ⟨b, 1, none⟩ = some (.int .i64 y)) :
   Calls Tryz.prog 95 #[.slice (some ⟨b, 0, none⟩) 2 c] w fun e w' => e = .returned (.int .i64 (orV x y)) ∧ w = w' := by
  go_enter Tryz.func95, Tryz.ntmps95
  go_wp2
  go_loop [5, 8] (fun _ s => ∃ k : Nat, k ≤ 2 ∧ s = .int .i64 k ∧ (0 < k → x = 0) ∧ (1 < k → y = 0)) (fun _ i => 2 - (intOf i).toNat)
  case atStart => exact ⟨0, by omega, rfl, fun h => absurd h (by omega), fun h => absurd h (by omega)⟩
  case round =>
    obtain ⟨k, hk, rfl, hx, hy⟩ := hrel
    rcases (show k = 0 ∨ k = 1 ∨ k = 2 by omega) with rfl | rfl | rfl
    · clear hx hy
      by_cases hz : x = 0
      · have hz2 : (x != 0) = false := by simp [hz]
        have HZ := Lib.hid hz
        clear hz
        go_wp2
        go_round
        case rel => exact ⟨1, by omega, by go_num, fun _ => HZ.out, fun h => absurd h (by omega)⟩
        case measure => simp [intOf]
      · have hz2 : (x != 0) = true := by simp [hz]
        have HZ := Lib.hid hz
        clear hz
        go_wp2
        go_ret
        exact ⟨ret_int (orV_ne HZ.out).symm, rfl⟩
    · have HX := Lib.hid (hx (by omega))
      clear hx hy
      by_cases hz : y = 0
      · have hz2 : (y != 0) = false := by simp [hz]
        have HZ := Lib.hid hz
        clear hz
        go_wp2
        go_round
        case rel => exact ⟨2, by omega, by go_num, fun _ => HX.out, fun _ => HZ.out⟩
        case measure => simp [intOf]
      · have hz2 : (y != 0) = true := by simp [hz]
        have HZ := Lib.hid hz
        clear hz
        go_wp2
        go_ret
        exact ⟨ret_int (by rw [HX.out, orV_zero]), rfl⟩
    · have HX := Lib.hid (hx (by omega))
      have HY := Lib.hid (hy (by omega))
      clear hx hy
      go_wp2
      go_ret
      exact ⟨ret_int (by rw [HX.out, HY.out, orV_zero]), rfl⟩

theorem up_c (n d : Int) (w : World) (h0 : -4000000000000000000 ≤ n) (h1 : n ≤ 4000000000000000000) (h2 : 1 ≤ d) (h3 : d ≤ 4000000000000000000) :
   Calls Tryz.prog 39 #[.agg #[.int .i64 n, .int .i64 d]] w fun e w' => e = .returned (.int .i64 (cdiv n d)) ∧ Below w.heap.size w w' := by
  go_enter Tryz.func39, Tryz.ntmps39
  go_wp2_with (first | (go_at_call 68; (with_reducible refine (ceil_c _ _ _ h0 h1 h2 h3).mono ?_); rintro e w1 ⟨rfl, rfl⟩))
  go_ret
  exact ⟨rfl, (by repeat' (first | exact Below.refl _ _ | assumption | refine Below.drew ?_ | refine bdn ?_ _ | refine bal ?_ _ | refine Below.setCell ?_ (by first | (simp; done) | omega | (simp; omega)) _))⟩

theorem sub_div {n d : Int} (hd : 1 ≤ d) : 0 ≤ n - n / d * d ∧ n - n / d * d < d := by
  have h1 := Int.emod_nonneg n (show d ≠ 0 by omega)
  have h2 := Int.emod_lt_of_pos n (show 0 < d by omega)
  have h3 := Int.emod_add_mul_ediv n d
  rw [Int.mul_comm] at h3
  omega

set_option maxHeartbeats 1600000 in
theorem compare_c (n1 d1 n2 d2 : Int) (w : World) (h1 : -400000000000000 ≤ n1 ∧ n1 ≤ 400000000000000) (h2 : 1 ≤ d1 ∧ d1 ≤ 400000000) (h3 : -400000000000000 ≤ n2 ∧ n2 ≤ 400000000000000) (h4 : 1 ≤ d2 ∧ d2 ≤ 400000000) :
   Calls Tryz.prog 67 #[.agg #[.int .i64 n1, .int .i64 d1], .agg #[.int .i64 n2, .int .i64 d2]] w fun e w' => e = .returned (.int .i64 (cmpV n1 d1 n2 d2)) ∧ Below w.heap.size w w' := by
  have b1 := ediv_bound (a := n1) (b := d1) (m := 400000000000000) h2.1 (by omega) h1.1 h1.2
  have b2 := ediv_bound (a := n2) (b := d2) (m := 400000000000000) h4.1 (by omega) h3.1 h3.2
  have s1 := sub_div (n := n1) h2.1
  have s2 := sub_div (n := n2) h4.1
  have f1 := fun w => floor_c n1 d1 w (by omega) (by omega) h2.1 (by omega)
  have f2 := fun w => floor_c n2 d2 w (by omega) (by omega) h4.1 (by omega)
  unfold cmpV
  generalize n1 / d1 = a at *
  generalize n2 / d2 = b at *
  have e1 := mul_bd (a := n1 - a * d1) (b := d2) (A := 400000000) (B := 400000000) (by omega) (by omega) (by omega) (by omega)
  have e2 := mul_bd (a := n2 - b * d2) (b := d1) (A := 400000000) (B := 400000000) (by omega) (by omega) (by omega) (by omega)
  have F1 := Lib.hid f1
  have F2 := Lib.hid f2
  clear f1 f2
  go_enter Tryz.func67, Tryz.ntmps67
  go_wp2
  go_quiet (first | (go_at_call 38; (with_reducible refine qsame (F1.out _))) | (go_at_call 38; (with_reducible refine qsame (F2.out _))))
  go_wp2_with (first | (go_at_call 95; go_loud (refine (or2_c _ _ (a - b) ((n1 - a * d1) * d2 - (n2 - b * d2) * d1) _ (by first | (simp; done) | (rw [cell_new_at _ _ _ _ _ (by simp)]; first | rfl | (simp; done))) (by first | (simp; done) | (rw [cell_new_at _ _ _ _ _ (by simp)]; first | rfl | (simp; done)))).mono ?_); rintro e w1 ⟨rfl, rfl⟩))
  go_ret
  exact ⟨rfl, (by repeat' (first | exact Below.refl _ _ | assumption | refine Below.drew ?_ | refine bdn ?_ _ | refine bal ?_ _ | refine Below.setCell ?_ (by first | (simp; done) | omega | (simp; omega)) _))⟩

/-- The ends of a span, and the knots within it. -/
def stopsF (xs : List Int) (lo hi : Int) (k : Nat) : List Int := lo :: (xs.take k).filter fun x => decide (lo < x) && decide (x < hi)
def stopsL (xs : List Int) (lo hi : Int) : List Int := stopsF xs lo hi xs.length ++ if lo < hi then [hi] else []
theorem stopsF_zero (xs : List Int) (lo hi : Int) : stopsF xs lo hi 0 = [lo] := by simp [stopsF]
theorem take_snoc (xs : List Int) (k : Nat) (h : k < xs.length) : xs.take (k + 1) = xs.take k ++ [nth xs k] := by
  rw [List.take_succ_eq_append_getElem h, nth_getElem xs k h]
theorem stopsF_keep (xs : List Int) (lo hi : Int) (k : Nat) (hk : k < xs.length) (h : (decide (lo < nth xs k) && decide (nth xs k < hi)) = true) : stopsF xs lo hi (k + 1) = stopsF xs lo hi k ++ [nth xs k] := by
  unfold stopsF; rw [take_snoc xs k hk, List.filter_append]; simp only [List.filter_cons, h]; simp
theorem stopsF_drop (xs : List Int) (lo hi : Int) (k : Nat) (hk : k < xs.length) (h : (decide (lo < nth xs k) && decide (nth xs k < hi)) = false) : stopsF xs lo hi (k + 1) = stopsF xs lo hi k := by
  unfold stopsF; rw [take_snoc xs k hk, List.filter_append]; simp only [List.filter_cons, h]; simp
theorem stopsF_len (xs : List Int) (lo hi : Int) (k : Nat) : (stopsF xs lo hi k).length ≤ k + 1 := by
  unfold stopsF
  have h1 := List.length_filter_le (fun x => decide (lo < x) && decide (x < hi)) (xs.take k)
  have h2 := List.length_take_le k xs
  simp only [List.length_cons]; omega

theorem one_new (w : World) (u : Value) (t : TypeId) : ∀ j x, [u][j]? = some x → (w.alloc (.cells #[u] t)).cell? ((⟨w.heap.size, 0, none⟩ : Addr).add j) = some x := by
  intro j x h
  match j, h with
  | 0, h => simp at h; subst h; simp [Addr.add]

theorem Tryz.infoInt : (Tryz.prog.info? 3).map (fun i => (i.zero, i.size, i.bytes)) = some (some (.int .i64 0), 1, 8) := by kernel_rfl
theorem Tryz.undInts : Tryz.prog.underlying 22 = some (.slice 3) := by kernel_rfl

set_option maxRecDepth 100000 in
set_option maxHeartbeats 1600000 in
theorem stops_c (v : Value) (xs : List Int) (lo hi : Int) (w : World) (hv : Ints w v xs) (hn : xs.length ≤ 1000) :
   Calls Tryz.prog 93 #[v, .agg #[.int .i64 lo, .int .i64 hi]] w fun e w' =>
     ∃ r, e = .returned r ∧ w'.ownsRow (w.heap.size + 1) 3 1 r (stopsL xs lo hi).length ((stopsL xs lo hi).map (Value.int .i64)) ∧ Below w.heap.size w w' := by
  obtain ⟨A, c, rfl, hc1, hc2, _, hA⟩ := hv
  obtain ⟨i0, hi0, hz0, hz1, hz2⟩ := info_parts Tryz.infoInt
  generalize hL : xs.length = n at *
  have HL := Lib.hid hL
  clear hL
  go_enter Tryz.func93, Tryz.ntmps93
  go_wp2
  go_loopw [5, 7, 13] (fun s5 _ s13 wr => ∃ k : Nat, k ≤ n ∧ s13 = .int .i64 k ∧ wr.ownsRow (w.heap.size + 1) 3 1 s5 (stopsF xs lo hi k).length ((stopsF xs lo hi k).map (Value.int .i64)) ∧ Hid (Below w.heap.size w wr)
      ∧ wr.cell? ⟨w.heap.size, 0, none⟩ = some (.int .i64 lo) ∧ wr.cell? ⟨w.heap.size, 1, none⟩ = some (.int .i64 hi)) (fun _ _ i _ => n - (intOf i).toNat)
  case atStart =>
    refine ⟨0, by omega, rfl, ?_, ?_, ?_, ?_⟩
    · rw [stopsF_zero]
      have h := World.ownsRow_lit (base := w.heap.size + 1) (e := 3) (size := 1) (w.alloc (.cells #[.int .i64 lo, .int .i64 hi] 29)) #[.int .i64 lo] 1 (by simp) (by decide) (by simp)
      simpa using h
    · exact (by repeat' (first | exact Below.refl _ _ | assumption | refine Below.drew ?_ | refine bdn ?_ _ | refine bal ?_ _ | refine Below.setCell ?_ (by first | (simp; done) | omega | (simp; omega)) _))
    · simp
    · simp
  case round =>
    obtain ⟨k, hk, rfl, hown, hB, hl, hh⟩ := hrel
    have hsz := hB.out.size
    by_cases hlt : k < n
    · obtain ⟨b, off, rfl, hb, hc⟩ := hA (by omega)
      have hck := (hB.out.cell (p := ⟨b, off + k, none⟩) hb).trans (hc k hlt)
      clear hc hA
      have hll := stopsF_len xs lo hi k
      cases h1 : decide (lo < nth xs k)
      · have hd : Hid (stopsF xs lo hi (k + 1) = stopsF xs lo hi k) := stopsF_drop xs lo hi k (by rw [HL.out]; exact hlt) (by simp [h1])
        go_wp2
        go_roundw
        case rel => exact ⟨k + 1, by omega, by go_num, by rw [hd.out]; exact hown, hB, hl, hh⟩
        case measure => simp [intOf]; omega
      · cases h2 : decide (nth xs k < hi)
        · have hd : Hid (stopsF xs lo hi (k + 1) = stopsF xs lo hi k) := stopsF_drop xs lo hi k (by rw [HL.out]; exact hlt) (by simp [h2])
          go_wp2
          go_roundw
          case rel => exact ⟨k + 1, by omega, by go_num, by rw [hd.out]; exact hown, hB, hl, hh⟩
          case measure => simp [intOf]; omega
        · have hd : Hid (stopsF xs lo hi (k + 1) = stopsF xs lo hi k ++ [nth xs k]) := stopsF_keep xs lo hi k (by rw [HL.out]; exact hlt) (by simp [h1, h2])
          go_wp2_with (at_builtin; go_loud (refine wpList_append_own _ rfl _ _ 22 rfl (w.heap.size + 1) 3 i0 (.int .i64 0) 1 8 Tryz.undInts hi0 hz0 hz1 hz2 rfl (by decide) _ _ _ rfl (hown.alloc _) ⟨wr.heap.size, 0, none⟩ 1 1 [.int .i64 (nth xs k)] rfl rfl ?c1 ?c2 ?c3 ?c4 ?c5 ?_))
          case c2 => rfl
          case c3 => unfold maxLen; omega
          case c4 => omega
          · intro v' w1 hown' hgrow _
            have hlt' := hown.lt
            have hB1 : Hid (Below w.heap.size w w1) := ((bal hB.out _).grown hgrow (by simp; omega) (fun g hg => by have := (hown.lt g hg).1; omega))
            have hl1 : w1.cell? ⟨w.heap.size, 0, none⟩ = some (.int .i64 lo) := hgrow.cell (by rw [World.cell?_alloc_lt _ _ _ (blk_lt hl)]; exact hl) (fun e => by have h9 := (hown.lt _ e.symm).1; dsimp only at h9; omega)
            have hh1 : w1.cell? ⟨w.heap.size, 1, none⟩ = some (.int .i64 hi) := hgrow.cell (by rw [World.cell?_alloc_lt _ _ _ (blk_lt hh)]; exact hh) (fun e => by have h9 := (hown.lt _ e.symm).1; dsimp only at h9; omega)
            clear hl hh hown hlt'
            go_wp2
            go_roundw
            case rel => exact ⟨k + 1, by omega, by go_num, by rw [hd.out]; simpa using hown', hB1, hl1, hh1⟩
            case measure => simp [intOf]; omega
    · obtain rfl : k = n := by omega
      clear hA
      have hll := stopsF_len xs lo hi k
      have hf : Hid (stopsL xs lo hi = stopsF xs lo hi k ++ if lo < hi then [hi] else []) := by show stopsL xs lo hi = _; unfold stopsL; rw [HL.out]
      by_cases hlh : lo < hi
      · go_wp2_with (at_builtin; go_loud (refine wpList_append_own _ rfl _ _ 22 rfl (w.heap.size + 1) 3 i0 (.int .i64 0) 1 8 Tryz.undInts hi0 hz0 hz1 hz2 rfl (by decide) _ _ _ rfl (hown.alloc _) ⟨wr.heap.size, 0, none⟩ 1 1 [.int .i64 hi] rfl rfl ?d1 ?d2 ?d3 ?d4 ?d5 ?_))
        case d1 => exact one_new _ _ _
        case d2 => intro u hu; simp at hu; subst hu; rfl
        case d3 => unfold maxLen; omega
        case d4 => omega
        case d5 => simp; omega
        · intro v' w1 hown' hgrow _
          have hB1 : Hid (Below w.heap.size w w1) := ((bal hB.out _).grown hgrow (by simp; omega) (fun g hg => by have := (hown.lt g hg).1; omega))
          clear hl hh hown
          go_wp2
          go_ret
          refine ⟨_, rfl, ?_, hB1.out⟩
          rw [hf.out, if_pos hlh]; simpa using hown'
      · have HLH := Lib.hid hlh
        go_wp2
        go_ret
        refine ⟨_, rfl, ?_, hB.out⟩
        rw [hf.out, if_neg (by have := HLH.out; omega)]; simpa using hown
end Go.Proofs.YtechkkgmdjgddaaGreat
