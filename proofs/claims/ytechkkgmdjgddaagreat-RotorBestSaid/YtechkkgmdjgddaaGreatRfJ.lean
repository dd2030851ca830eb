/- Contracts: corners of the references. -/
import Derived.Test.YtechkkgmdjgddaaGreatRfI
import Derived.Test.YtechkkgmdjgddaaGreatSpG
import Derived.Test.YtechkkgmdjgddaaGreatBas
set_option linter.all false
namespace Go.Proofs.YtechkkgmdjgddaaGreat
open Go Go.RowKit Go.Proofs

set_option maxRecDepth 100000 in
set_option maxHeartbeats 1600000 in
theorem rf_corners_c (v : Value) (xs : List Int) (lo hi : Int) (w : World) (hv : Ints w v xs) (hn : xs.length ≤ 1000) :
   Calls Tryz.prog 98 #[v, .agg #[.int .i64 lo, .int .i64 hi]] w fun e w' =>
     ∃ r, e = .returned r ∧ w'.ownsRow (w.heap.size + 1) 3 1 r (stopsL xs lo hi).length ((stopsL xs lo hi).map (Value.int .i64)) ∧ Below w.heap.size w w' := by
  obtain ⟨A, c, rfl, hc1, hc2, _, hA⟩ := hv
  obtain ⟨i0, hi0, hz0, hz1, hz2⟩ := info_parts Tryz.infoInt
  generalize hL : xs.length = n at *
  have HL := Lib.hid hL
  clear hL
  go_enter Tryz.func98, Tryz.ntmps98
  go_wp2
  go_loopw [5, 6] (fun s5 s13 wr => ∃ k : Nat, k ≤ n ∧ s13 = .int .i64 k ∧ wr.ownsRow (w.heap.size + 1) 3 1 s5 (stopsF xs lo hi k).length ((stopsF xs lo hi k).map (Value.int .i64)) ∧ Hid (Below w.heap.size w wr)
      ∧ wr.cell? ⟨w.heap.size, 0, none⟩ = some (.int .i64 lo) ∧ wr.cell? ⟨w.heap.size, 1, none⟩ = some (.int .i64 hi)) (fun _ i _ => n - (intOf i).toNat)
  case atStart =>
    refine ⟨0, by omega, rfl, ?_, ?_, ?_, ?_⟩
    · rw [stopsF_zero]
      have h := World.ownsRow_lit (base := w.heap.size + 1) (e := 3) (size := 1) (w.alloc (.cells #[.int .i64 lo, .int .i64 hi] 29)) #[.int .i64 lo] 1 (by simp) (by decide) (by simp)
      simpa using h
    · exact (by repeat' (first | exact Below.refl _ _ | assumption | refine Below.drew ?_ | refine bdn ?_ _ | refine bal ?_ _ | refine Below.setCell ?_ (by first | (simp; done) | omega | (simp; omega)) _))
    · simp
    · simp
  case round =>
    obtain ⟨k, hk, rfl, hown, hB, hl, hh⟩ := hrel
    have hsz := hB.out.size
    by_cases hlt : k < n
    · obtain ⟨b, off, rfl, hb, hc⟩ := hA (by omega)
      have hck := (hB.out.cell (p := ⟨b, off + k, none⟩) hb).trans (hc k hlt)
      clear hc hA
      have hll := stopsF_len xs lo hi k
      cases h1 : decide (lo < nth xs k)
      · have hd : Hid (stopsF xs lo hi (k + 1) = stopsF xs lo hi k) := stopsF_drop xs lo hi k (by rw [HL.out]; exact hlt) (by simp [h1])
        go_wp2
        go_quiet (fail)
        have hown2 := ownsRow_below hown (bdn (Below.refl wr.heap.size wr) nq)
        have hB2 : Hid (Below w.heap.size w (wr.drewN nq)) := bdn hB.out nq
        have hl2 : (wr.drewN nq).cell? ⟨w.heap.size, 0, none⟩ = some (.int .i64 lo) := hl
        have hh2 : (wr.drewN nq).cell? ⟨w.heap.size, 1, none⟩ = some (.int .i64 hi) := hh
        have hck2 : (wr.drewN nq).cell? ⟨b, off + k, none⟩ = _ := hck
        have hsz2 : w.heap.size ≤ (wr.drewN nq).heap.size := hsz
        have hb2 : b < (wr.drewN nq).heap.size := Nat.lt_of_lt_of_le hb hsz2
        clear hown hB hl hh hck hsz
        generalize wr.drewN nq = wq at *
        go_wp2
        go_roundw
        case rel => exact ⟨k + 1, by omega, by go_num, by rw [hd.out]; exact hown2, hB2, hl2, hh2⟩
        case measure => simp [intOf]; omega
      · cases h2 : decide (nth xs k < hi)
        · have hd : Hid (stopsF xs lo hi (k + 1) = stopsF xs lo hi k) := stopsF_drop xs lo hi k (by rw [HL.out]; exact hlt) (by simp [h2])
          go_wp2
          go_quiet (fail)
          have hown2 := ownsRow_below hown (bdn (Below.refl wr.heap.size wr) nq)
          have hB2 : Hid (Below w.heap.size w (wr.drewN nq)) := bdn hB.out nq
          have hl2 : (wr.drewN nq).cell? ⟨w.heap.size, 0, none⟩ = some (.int .i64 lo) := hl
          have hh2 : (wr.drewN nq).cell? ⟨w.heap.size, 1, none⟩ = some (.int .i64 hi) := hh
          have hck2 : (wr.drewN nq).cell? ⟨b, off + k, none⟩ = _ := hck
          have hsz2 : w.heap.size ≤ (wr.drewN nq).heap.size := hsz
          have hb2 : b < (wr.drewN nq).heap.size := Nat.lt_of_lt_of_le hb hsz2
          clear hown hB hl hh hck hsz
          generalize wr.drewN nq = wq at *
          go_wp2
          go_roundw
          case rel => exact ⟨k + 1, by omega, by go_num, by rw [hd.out]; exact hown2, hB2, hl2, hh2⟩
          case measure => simp [intOf]; omega
        · have hd : Hid (stopsF xs lo hi (k + 1) = stopsF xs lo hi k ++ [nth xs k]) := stopsF_keep xs lo hi k (by rw [HL.out]; exact hlt) (by simp [h1, h2])
          go_wp2
          go_quiet (fail)
          have hown2 := ownsRow_below hown (bdn (Below.refl wr.heap.size wr) nq)
          have hB2 : Hid (Below w.heap.size w (wr.drewN nq)) := bdn hB.out nq
          have hl2 : (wr.drewN nq).cell? ⟨w.heap.size, 0, none⟩ = some (.int .i64 lo) := hl
          have hh2 : (wr.drewN nq).cell? ⟨w.heap.size, 1, none⟩ = some (.int .i64 hi) := hh
          have hck2 : (wr.drewN nq).cell? ⟨b, off + k, none⟩ = _ := hck
          have hsz2 : w.heap.size ≤ (wr.drewN nq).heap.size := hsz
          have hb2 : b < (wr.drewN nq).heap.size := Nat.lt_of_lt_of_le hb hsz2
          clear hown hB hl hh hck hsz
          generalize wr.drewN nq = wq at *
          go_wp2_with (at_builtin; go_loud (refine wpList_append_own _ rfl _ _ 22 rfl (w.heap.size + 1) 3 i0 (.int .i64 0) 1 8 Tryz.undInts hi0 hz0 hz1 hz2 rfl (by decide) _ _ _ rfl (hown2.alloc _) ⟨wq.heap.size, 0, none⟩ 1 1 [.int .i64 (nth xs k)] rfl rfl ?c1 ?c2 ?c3 ?c4 ?c5 ?_))
          case c1 => exact one_new _ _ _
          case c2 => intro u hu; simp at hu; subst hu; rfl
          case c3 => unfold maxLen; omega
          case c4 => omega
          case c5 => simp; omega
          · intro v' w1 hown' hgrow _
            have hlt' := hown2.lt
            have hB1 : Hid (Below w.heap.size w w1) := ((bal hB2.out _).grown hgrow (by simp; omega) (fun g hg => by have := (hown2.lt g hg).1; omega))
            have hl1 : w1.cell? ⟨w.heap.size, 0, none⟩ = some (.int .i64 lo) := hgrow.cell (by rw [World.cell?_alloc_lt _ _ _ (blk_lt hl2)]; exact hl2) (fun e => by have h9 := (hown2.lt _ e.symm).1; dsimp only at h9; omega)
            have hh1 : w1.cell? ⟨w.heap.size, 1, none⟩ = some (.int .i64 hi) := hgrow.cell (by rw [World.cell?_alloc_lt _ _ _ (blk_lt hh2)]; exact hh2) (fun e => by have h9 := (hown2.lt _ e.symm).1; dsimp only at h9; omega)
            clear hl2 hh2 hown2 hlt'
            go_wp2
            go_roundw
            case rel => exact ⟨k + 1, by omega, by go_num, by rw [hd.out]; simpa using hown', hB1, hl1, hh1⟩
            case measure => simp [intOf]; omega
    · obtain rfl : k = n := by omega
      clear hA
      have hll := stopsF_len xs lo hi k
      have hf : Hid (stopsL xs lo hi = stopsF xs lo hi k ++ if lo < hi then [hi] else []) := by show stopsL xs lo hi = _; unfold stopsL; rw [HL.out]
      by_cases hlh : lo < hi
      · go_wp2_with (at_builtin; go_loud (refine wpList_append_own _ rfl _ _ 22 rfl (w.heap.size + 1) 3 i0 (.int .i64 0) 1 8 Tryz.undInts hi0 hz0 hz1 hz2 rfl (by decide) _ _ _ rfl (hown.alloc _) ⟨wr.heap.size, 0, none⟩ 1 1 [.int .i64 hi] rfl rfl ?d1 ?d2 ?d3 ?d4 ?d5 ?_))
        case d1 => exact one_new _ _ _
        case d2 => intro u hu; simp at hu; subst hu; rfl
        case d3 => unfold maxLen; omega
        case d4 => omega
        case d5 => simp; omega
        · intro v' w1 hown' hgrow _
          have hB1 : Hid (Below w.heap.size w w1) := ((bal hB.out _).grown hgrow (by simp; omega) (fun g hg => by have := (hown.lt g hg).1; omega))
          clear hl hh hown
          go_wp2
          go_ret
          refine ⟨_, rfl, ?_, hB1.out⟩
          rw [hf.out, if_pos hlh]; simpa using hown'
      · have HLH := Lib.hid hlh
        go_wp2
        go_ret
        refine ⟨_, rfl, ?_, hB.out⟩
        rw [hf.out, if_neg (by have := HLH.out; omega)]; simpa using hown
end Go.Proofs.YtechkkgmdjgddaaGreat
