/- Contracts: limit, manned, stretches, quiet of package deck. -/
import Derived.Test.YtafkifjebimdaaaGreatJAJ
import Derived.Test.YtafkifjebimdaaaGreatJAK
set_option linter.all false
namespace Go.Proofs.YtafkifjebimdaaaGreat
open Go Go.RowKit Go.Proofs
set_option maxRecDepth 100000
set_option maxHeartbeats 8000000
/-- What a loop keeps: one block. -/
structure OneK (w : World) (t : TypeId) (cs : Array Value) (wr : World) : Prop where
  b : Below w.heap.size w wr
  m : Blk wr w.heap.size t cs
theorem OneK.grow {w : World} {t : TypeId} {cs : Array Value} {wr w2 : World} (h : OneK w t cs wr) (hb : Below wr.heap.size wr w2) : OneK w t cs w2 := ⟨bthen h.b hb, h.m.below hb⟩
structure TwoK (w : World) (t : TypeId) (cs : Array Value) (t2 : TypeId) (cs2 : Array Value) (wr : World) : Prop where
  b : Below w.heap.size w wr
  m : Blk wr w.heap.size t cs
  s : Blk wr (w.heap.size + 1) t2 cs2
theorem TwoK.grow {w : World} {t : TypeId} {cs : Array Value} {t2 : TypeId} {cs2 : Array Value} {wr w2 : World} (h : TwoK w t cs t2 cs2 wr) (hb : Below wr.heap.size wr w2) : TwoK w t cs t2 cs2 w2 := ⟨bthen h.b hb, h.m.below hb, h.s.below hb⟩
theorem dmanned_c (D : DekD) (vA vB vC : Value) (t : Int) (w : World) (hO : D.Ok) (hD : DekAt w vA vB vC D) :
   Calls Tryz.prog 47 #[.agg #[.int .i64 D.size, .int .i64 D.load, .int .i64 D.wind, vA, .int .i64 D.pitch, .int .i64 D.roll, .int .i64 D.heave, .int .i64 D.fire, vB, vC], .int .i64 t] w fun e w' => e = .returned (.bool (manB D t)) ∧ Below w.heap.size w w' := by
  have HD := Lib.hid hD
  obtain ⟨A, c, rfl, hc1, hc2, -⟩ := hD.h.e
  have HO := Lib.hid hO
  clear hO hD
  unfold manB
  obtain ⟨R, hR⟩ : ∃ q, q = manR D t D.nh 0 0 := ⟨_, rfl⟩
  rw [← hR]
  have HR := Lib.hid hR
  clear hR
  go_enter Tryz.func47, Tryz.ntmps47
  go_wp2_with (fail)
  have bHX : Blk (w.alloc (.cells #[.int .i64 D.size, .int .i64 D.load, .int .i64 D.wind, vA, .int .i64 D.pitch, .int .i64 D.roll, .int .i64 D.heave, .int .i64 D.fire, .slice A D.nh c, vC] 26)) (w.heap.size) 26 #[.int .i64 D.size, .int .i64 D.load, .int .i64 D.wind, vA, .int .i64 D.pitch, .int .i64 D.roll, .int .i64 D.heave, .int .i64 D.fire, .slice A D.nh c, vC] := (by repeat (first | (refine Blk.newAt _ _ _ ?_; first | rfl | (simp; done)) | refine Blk.alloc ?_ _))
  have bHB : Below w.heap.size w (w.alloc (.cells #[.int .i64 D.size, .int .i64 D.load, .int .i64 D.wind, vA, .int .i64 D.pitch, .int .i64 D.roll, .int .i64 D.heave, .int .i64 D.fire, .slice A D.nh c, vC] 26)) := (by repeat' (first | exact Below.refl _ _ | assumption | refine Below.drew ?_ | refine bdn ?_ _ | refine bal ?_ _ | refine Below.setCell ?_ (by first | (simp; done) | omega | (simp; omega)) _))
  generalize (w.alloc (.cells #[.int .i64 D.size, .int .i64 D.load, .int .i64 D.wind, vA, .int .i64 D.pitch, .int .i64 D.roll, .int .i64 D.heave, .int .i64 D.fire, .slice A D.nh c, vC] 26)) = W at *
  have zW := bHX.lt
  have HX := Lib.hid bHX
  have HB := Lib.hid bHB
  clear bHX bHB
  have zHX := HX.out.lt
  have cHX8 := HX.out.cell 8
  go_wp2_with (fail)
  have K0 := Lib.hid (show OneK w _ _ W from ⟨HB.out, HX.out⟩)
  clear HX HB
  go_loopg [5, 11] D.nh (fun gx p i wr => ∃ (k : Nat) (q : Int), i = .int .i64 k ∧ p = .int .i64 q ∧ k ≤ D.nh ∧ D.nh - k ≤ gx ∧ 0 ≤ q ∧ q ≤ 100 * k ∧ Hid (OneK w 26 #[.int .i64 D.size, .int .i64 D.load, .int .i64 D.wind, vA, .int .i64 D.pitch, .int .i64 D.roll, .int .i64 D.heave, .int .i64 D.fire, .slice A D.nh c, vC] wr) ∧ Hid (manR D t (D.nh - k) k q = R))
  case atStart => exact ⟨0, 0, rfl, rfl, Nat.zero_le _, Nat.le_refl _, Int.le_refl _, by omega, K0, HR.out.symm⟩
  case round =>
    clear K0
    obtain ⟨k, q, rfl, rfl, hk, hgx, hq0, hq1, K0, HE⟩ := hrel
    have hnh := HO.out.nh
    by_cases hlt : k < D.nh
    · have hltz : (k : Int) < (D.nh : Int) := by omega
      obtain ⟨A', c', hA', -, -, hrec⟩ := HD.out.h.e
      simp only [Value.slice.injEq] at hA'
      obtain ⟨rfl, -, rfl⟩ := hA'
      obtain ⟨bs, off, rfl, hbs, hcell⟩ := hrec (by omega)
      have c0 : wr.cell? ⟨bs, off + k * 3, none⟩ = some (.int .i64 (D.H k 0)) := (K0.out.b.cell (p := ⟨bs, off + k * 3 + 0, none⟩) hbs).trans (hcell k hlt 0 (by omega))
      have c1 : wr.cell? ⟨bs, off + k * 3 + 1, none⟩ = some (.int .i64 (D.H k 1)) := (K0.out.b.cell (p := ⟨bs, off + k * 3 + 1, none⟩) hbs).trans (hcell k hlt 1 (by omega))
      have c2 : wr.cell? ⟨bs, off + k * 3 + 2, none⟩ = some (.int .i64 (D.H k 2)) := (K0.out.b.cell (p := ⟨bs, off + k * 3 + 2, none⟩) hbs).trans (hcell k hlt 2 (by omega))
      clear hcell
      have hE := HE.out
      rw [show D.nh - k = (D.nh - (k + 1)) + 1 by omega] at hE
      unfold manR at hE
      have hh := HO.out.h k hlt
      have hwi := fun w1 => dwithin_c t (D.H k 0) (wrap64 (D.H k 1 - 1)) w1
      have K2 := Lib.hid (K0.out.grow (bal (Below.refl _ _) (.cells #[.int .i64 (D.H k 0), .int .i64 (D.H k 1), .int .i64 (D.H k 2)] 131)))
      cases hb : inB t (D.H k 0) (wrap64 (D.H k 1 - 1))
      · rw [hb] at hE hwi
        have HW := Lib.hid hwi
        have HE2 := Lib.hid (show manR D t (D.nh - (k + 1)) (k + 1) q = R from hE)
        clear hE HE hb hwi K0
        go_wp2_with (first | (go_at_call 33; (with_reducible refine (HW.out _).mono ?_); rintro e w1 ⟨rfl, rfl⟩))
        go_roundg (D.nh - (k + 1))
        case measure => omega
        case rel => exact ⟨k + 1, q, by first | rfl | go_num | (congr 1; omega), rfl, by omega, Nat.le_refl _, hq0, by omega, K2, HE2⟩
      · rw [hb] at hE hwi
        have HW := Lib.hid hwi
        have HE2 := Lib.hid (show manR D t (D.nh - (k + 1)) (k + 1) (q + D.H k 2) = R from hE)
        clear hE HE hb hwi K0
        go_wp2_with (first | (go_at_call 33; (with_reducible refine (HW.out _).mono ?_); rintro e w1 ⟨rfl, rfl⟩))
        go_roundg (D.nh - (k + 1))
        case measure => omega
        case rel => exact ⟨k + 1, q + D.H k 2, by first | rfl | go_num | (congr 1; omega), by first | rfl | go_num | (congr 1; omega), by omega, Nat.le_refl _, by omega, by omega, K2, HE2⟩
    · obtain rfl : k = D.nh := by omega
      have hE := HE.out
      rw [Nat.sub_self] at hE
      have hq : q = R := hE
      subst hq
      have c7 := K0.out.m.cell 7
      simp only [List.getElem?_toArray, List.getElem?_cons_succ, List.getElem?_cons_zero] at c7
      go_wp2_with (fail)
      go_ret
      exact ⟨rfl, K0.out.b⟩
theorem dlimit_c (D : DekD) (vA vB vC : Value) (lo hi : Int) (w : World) (hO : D.Ok) (hD : DekAt w vA vB vC D) (h0 : 0 ≤ lo) (h1 : hi ≤ 719) :
   Calls Tryz.prog 38 #[.agg #[.int .i64 D.size, .int .i64 D.load, .int .i64 D.wind, vA, .int .i64 D.pitch, .int .i64 D.roll, .int .i64 D.heave, .int .i64 D.fire, vB, vC], .agg #[.int .i64 lo, .int .i64 hi]] w fun e w' => e = .returned (.int .i64 (limV D lo hi)) ∧ Below w.heap.size w w' := by
  have HD := Lib.hid hD
  obtain ⟨A, c, rfl, hc1, hc2, -⟩ := hD.s.e
  have HO := Lib.hid hO
  clear hO hD
  unfold limV
  obtain ⟨R, hR⟩ : ∃ q, q = limN D (hi + 1 - lo).toNat lo D.wind := ⟨_, rfl⟩
  rw [← hR]
  have HR := Lib.hid hR
  clear hR
  go_enter Tryz.func38, Tryz.ntmps38
  go_wp2_with (fail)
  have bHX : Blk ((w.alloc (.cells #[.int .i64 D.size, .int .i64 D.load, .int .i64 D.wind, .slice A D.ns c, .int .i64 D.pitch, .int .i64 D.roll, .int .i64 D.heave, .int .i64 D.fire, vB, vC] 26)).alloc (.cells #[.int .i64 lo, .int .i64 hi] 28)) (w.heap.size) 26 #[.int .i64 D.size, .int .i64 D.load, .int .i64 D.wind, .slice A D.ns c, .int .i64 D.pitch, .int .i64 D.roll, .int .i64 D.heave, .int .i64 D.fire, vB, vC] := (by repeat (first | (refine Blk.newAt _ _ _ ?_; first | rfl | (simp; done)) | refine Blk.alloc ?_ _))
  have bHY : Blk ((w.alloc (.cells #[.int .i64 D.size, .int .i64 D.load, .int .i64 D.wind, .slice A D.ns c, .int .i64 D.pitch, .int .i64 D.roll, .int .i64 D.heave, .int .i64 D.fire, vB, vC] 26)).alloc (.cells #[.int .i64 lo, .int .i64 hi] 28)) (w.heap.size + 1) 28 #[.int .i64 lo, .int .i64 hi] := (by repeat (first | (refine Blk.newAt _ _ _ ?_; first | rfl | (simp; done)) | refine Blk.alloc ?_ _))
  have bHB : Below w.heap.size w ((w.alloc (.cells #[.int .i64 D.size, .int .i64 D.load, .int .i64 D.wind, .slice A D.ns c, .int .i64 D.pitch, .int .i64 D.roll, .int .i64 D.heave, .int .i64 D.fire, vB, vC] 26)).alloc (.cells #[.int .i64 lo, .int .i64 hi] 28)) := (by repeat' (first | exact Below.refl _ _ | assumption | refine Below.drew ?_ | refine bdn ?_ _ | refine bal ?_ _ | refine Below.setCell ?_ (by first | (simp; done) | omega | (simp; omega)) _))
  generalize ((w.alloc (.cells #[.int .i64 D.size, .int .i64 D.load, .int .i64 D.wind, .slice A D.ns c, .int .i64 D.pitch, .int .i64 D.roll, .int .i64 D.heave, .int .i64 D.fire, vB, vC] 26)).alloc (.cells #[.int .i64 lo, .int .i64 hi] 28)) = W at *
  have zW := bHY.lt
  have HX := Lib.hid bHX
  have HY := Lib.hid bHY
  have HB := Lib.hid bHB
  clear bHX bHY bHB
  have zHX := HX.out.lt
  have cHX2 := HX.out.cell 2
  have zHY := HY.out.lt
  have cHY0 := HY.out.cell 0
  go_wp2_with (fail)
  have K0 := Lib.hid (show TwoK w _ _ _ _ W from ⟨HB.out, HX.out, HY.out⟩)
  clear HX HY HB
  go_loopg [5, 6] (hi + 1 - lo).toNat (fun gx l i wr => ∃ (ll nn : Int), l = .int .i64 ll ∧ i = .int .i64 nn ∧ 0 ≤ nn ∧ (hi + 1 - nn).toNat ≤ gx ∧ Hid (TwoK w 26 #[.int .i64 D.size, .int .i64 D.load, .int .i64 D.wind, .slice A D.ns c, .int .i64 D.pitch, .int .i64 D.roll, .int .i64 D.heave, .int .i64 D.fire, vB, vC] 28 #[.int .i64 lo, .int .i64 hi] wr) ∧ Hid (limN D (hi + 1 - nn).toNat nn ll = R))
  case atStart => exact ⟨D.wind, lo, rfl, rfl, h0, Nat.le_refl _, K0, HR.out.symm⟩
  case round =>
    clear K0
    obtain ⟨ll, nn, rfl, rfl, hn0, hgx, K0, HE⟩ := hrel
    have m3 := K0.out.m.cell 3
    have s1 := K0.out.s.cell 1
    simp only [List.getElem?_toArray, List.getElem?_cons_succ, List.getElem?_cons_zero] at m3 s1
    by_cases hle : nn ≤ hi
    · have hE := HE.out
      rw [show (hi + 1 - nn).toNat = (hi + 1 - (nn + 1)).toNat + 1 by omega] at hE
      unfold limN at hE
      obtain ⟨L, hL⟩ : ∃ q, q = limS D (nn % 360) D.ns 0 ll := ⟨_, rfl⟩
      rw [← hL] at hE
      have HL := Lib.hid hL
      have HE2 := Lib.hid hE
      have hns := HO.out.ns
      have hrem : Int.tmod nn 360 = nn % 360 := Int.tmod_eq_emod_of_nonneg hn0
      clear hL hE HE
      go_wp2_with (fail)
      clear m3 s1
      go_loopg [5, 22] D.ns (fun gy l i wr2 => ∃ (k : Nat) (q : Int), i = .int .i64 k ∧ l = .int .i64 q ∧ k ≤ D.ns ∧ D.ns - k ≤ gy ∧ Hid (TwoK w 26 #[.int .i64 D.size, .int .i64 D.load, .int .i64 D.wind, .slice A D.ns c, .int .i64 D.pitch, .int .i64 D.roll, .int .i64 D.heave, .int .i64 D.fire, vB, vC] 28 #[.int .i64 lo, .int .i64 hi] wr2) ∧ Hid (limS D (nn % 360) (D.ns - k) k q = L))
      case atStart => exact ⟨0, ll, rfl, rfl, Nat.zero_le _, Nat.le_refl _, K0, HL.out.symm⟩
      case round =>
        clear K0
        obtain ⟨k, q, rfl, rfl, hk, hgy, K0, HF⟩ := hrel
        by_cases hlt : k < D.ns
        · have hltz : (k : Int) < (D.ns : Int) := by omega
          obtain ⟨A', c', hA', -, -, hrec⟩ := HD.out.s.e
          simp only [Value.slice.injEq] at hA'
          obtain ⟨rfl, -, rfl⟩ := hA'
          obtain ⟨bs, off, rfl, hbs, hcell⟩ := hrec (by omega)
          have c0 : wr.cell? ⟨bs, off + k * 3, none⟩ = some (.int .i64 (D.S k 0)) := (K0.out.b.cell (p := ⟨bs, off + k * 3 + 0, none⟩) hbs).trans (hcell k hlt 0 (by omega))
          have c1 : wr.cell? ⟨bs, off + k * 3 + 1, none⟩ = some (.int .i64 (D.S k 1)) := (K0.out.b.cell (p := ⟨bs, off + k * 3 + 1, none⟩) hbs).trans (hcell k hlt 1 (by omega))
          have c2 : wr.cell? ⟨bs, off + k * 3 + 2, none⟩ = some (.int .i64 (D.S k 2)) := (K0.out.b.cell (p := ⟨bs, off + k * 3 + 2, none⟩) hbs).trans (hcell k hlt 2 (by omega))
          clear hcell
          have hF := HF.out
          rw [show D.ns - k = (D.ns - (k + 1)) + 1 by omega] at hF
          unfold limS at hF
          have hli := fun w1 => dlies_c (D.S k 0) (D.S k 1) (D.S k 2) (nn % 360) w1
          cases hb : secB (D.S k 0) (D.S k 1) (nn % 360)
          · rw [hb] at hF hli
            have HW := Lib.hid hli
            have HF2 := Lib.hid (show limS D (nn % 360) (D.ns - (k + 1)) (k + 1) q = L from hF)
            clear hF HF hb hli
            go_wp2_with (go_at_call 74; refine (HW.out _).mono ?_; rintro e w2 ⟨rfl, hb2⟩)
            go_roundg (D.ns - (k + 1))
            case measure => omega
            case rel => exact ⟨k + 1, q, by first | rfl | go_num | (congr 1; omega), rfl, by omega, Nat.le_refl _, Lib.hid (K0.out.grow (bthen (bal (Below.refl _ _) _) hb2)), HF2⟩
          · rw [hb] at hF hli
            have HW := Lib.hid hli
            have HF2 := Lib.hid (show limS D (nn % 360) (D.ns - (k + 1)) (k + 1) (min q (D.S k 2)) = L from hF)
            clear hF HF hb hli
            go_wp2_with (go_at_call 74; refine (HW.out _).mono ?_; rintro e w2 ⟨rfl, hb2⟩; have ct := ((Blk.new wr 79 #[.int .i64 (D.S k 0), .int .i64 (D.S k 1), .int .i64 (D.S k 2)]).below hb2).cell 2; simp only [List.getElem?_toArray, List.getElem?_cons_succ, List.getElem?_cons_zero] at ct)
            go_roundg (D.ns - (k + 1))
            case measure => omega
            case rel => exact ⟨k + 1, min q (D.S k 2), by first | rfl | go_num | (congr 1; omega), by first | rfl | go_num | (congr 1; omega), by omega, Nat.le_refl _, Lib.hid (K0.out.grow (bthen (bal (Below.refl _ _) _) hb2)), HF2⟩
        · obtain rfl : k = D.ns := by omega
          have hF := HF.out
          rw [Nat.sub_self] at hF
          have hq : q = L := hF
          subst hq
          go_wp2_with (fail)
          go_roundg (hi + 1 - (nn + 1)).toNat
          case measure => omega
          case rel => exact ⟨q, nn + 1, rfl, by first | rfl | go_num | (congr 1; omega), by omega, Nat.le_refl _, K0, HE2⟩
    · have hE := HE.out
      rw [show (hi + 1 - nn).toNat = 0 by omega] at hE
      have hq : ll = R := hE
      subst hq
      go_wp2_with (fail)
      go_ret
      exact ⟨rfl, K0.out.b⟩
end Go.Proofs.YtafkifjebimdaaaGreat
