/- Texts joined: JAP. -/
import Derived.Test.YtafkifjebimdaaaGreatJAO
import Derived.Test.YtafkifjebimdaaaGreatDkS
import Derived.Test.YtafkifjebimdaaaGreatJAN
set_option linter.all false
namespace Go.Proofs.YtafkifjebimdaaaGreat
open Go Go.RowKit Go.Proofs
set_option maxRecDepth 100000
set_option maxHeartbeats 8000000
def DekV (D : DekD) (n0 : Nat) (v : Value) (w : World) : Prop := ∃ vA vB vC, v = .agg #[.int .i64 D.size, .int .i64 D.load, .int .i64 D.wind, vA, .int .i64 D.pitch, .int .i64 D.roll, .int .i64 D.heave, .int .i64 D.fire, vB, vC] ∧ SlN n0 w vA D.ns 3 (iV D.S) ∧ SlN n0 w vB D.nh 3 (iV D.H) ∧ SlN n0 w vC D.nu 2 (iV D.U)
theorem DekV.below {D : DekD} {n0 : Nat} {v : Value} {w w' : World} (h : DekV D n0 v w) (hb : Below w.heap.size w w') : DekV D n0 v w' := by
  obtain ⟨vA, vB, vC, e, h1, h2, h3⟩ := h
  exact ⟨vA, vB, vC, e, h1.below hb, h2.below hb, h3.below hb⟩
def MetV2 (M : MetD) (n0 : Nat) (v : Value) (w : World) : Prop := ∃ vF vS, v = .agg #[.int .i64 M.places, .int .i64 M.any.a0, .int .i64 M.any.a1, .int .i64 M.any.a2, .int .i64 M.any.a3, .int .i64 M.any.a4, .int .i64 M.any.a5, .bool M.any.i, .bool M.any.s, .int .i64 M.mw, .int .i64 M.ms, .int .i64 M.mc, vF, vS] ∧ MetAt w vF vS M ∧ (∀ b, some b = vF.ownBlock → n0 ≤ b) ∧ ∀ b, some b = vS.ownBlock → n0 ≤ b
theorem MetV2.below {M : MetD} {n0 : Nat} {v : Value} {w w' : World} (h : MetV2 M n0 v w) (hb : Below w.heap.size w w') : MetV2 M n0 v w' := by
  obtain ⟨vF, vS, e, h1, h2, h3⟩ := h
  exact ⟨vF, vS, e, h1.below hb, h2, h3⟩
def MovV (Mo : MovD) (n0 : Nat) (v : Value) (w : World) : Prop := ∃ vP vR vV, v = .agg #[vP, vR, vV] ∧ SlN n0 w vP Mo.np 1 (lV Mo.P) ∧ SlN n0 w vR Mo.nr 1 (lV Mo.R) ∧ SlN n0 w vV Mo.nv 1 (lV Mo.V)
theorem MovV.below {Mo : MovD} {n0 : Nat} {v : Value} {w w' : World} (h : MovV Mo n0 v w) (hb : Below w.heap.size w w') : MovV Mo n0 v w' := by
  obtain ⟨vP, vR, vV, e, h1, h2, h3⟩ := h
  exact ⟨vP, vR, vV, e, h1.below hb, h2.below hb, h3.below hb⟩
def owR (w0 g : Nat) (rD rM rO : Value) (D : DekD) (M : MetD) (Mo : MovD) : Nat → Value → World → Prop
  | 0, v, _ => v = .pointer (some ⟨g, 0, none⟩)
  | 1, v, _ => v = rD
  | 2, v, w => DekV D w0 v w
  | 3, v, _ => v = .pointer (some ⟨g, 10, none⟩)
  | 4, v, _ => v = rM
  | 5, v, w => MetV2 M w0 v w
  | 6, v, _ => v = .pointer (some ⟨g, 24, none⟩)
  | 7, v, _ => v = rO
  | 8, v, w => MovV Mo w0 v w
  | _, _, _ => True
theorem owR_below {w0 g : Nat} {rD rM rO : Value} {D : DekD} {M : MetD} {Mo : MovD} (k : Nat) (v : Value) (w w' : World) (hb : Below w.heap.size w w') (h : owR w0 g rD rM rO D M Mo k v w) : owR w0 g rD rM rO D M Mo k v w' := by
  unfold owR at *
  split at h <;> first | exact h | exact DekV.below h hb | exact MetV2.below h hb | exact MovV.below h hb
def farP (D : DekD) (M : MetD) (Mo : MovD) : Bool := decide (12 < D.ns) || (decide (20 < D.nh) || (decide (20 < D.nu) || (M.far || (decide (200 < Mo.np) || (decide (200 < Mo.nr) || decide (200 < Mo.nv))))))
theorem Tryz.sizePl : (Tryz.prog.info? 39).map (·.size) = some 27 := by kernel_rfl
theorem Tryz.rowPl : RowTy Tryz.prog 39 27 := ⟨by kernel_rfl, by kernel_rfl⟩
theorem down_c (D : DekD) (vA vB vC : Value) (M : MetD) (vF vS : Value) (Mo : MovD) (vP vR vV : Value) (w : World) (hD : DekAt w vA vB vC D) (hA : MetAt w vF vS M) (hV : MovAt w vP vR vV Mo) (hn : farP D M Mo = false) :
   Calls Tryz.prog 10 #[.agg #[.int .i64 D.size, .int .i64 D.load, .int .i64 D.wind, vA, .int .i64 D.pitch, .int .i64 D.roll, .int .i64 D.heave, .int .i64 D.fire, vB, vC, .int .i64 M.places, .int .i64 M.any.a0, .int .i64 M.any.a1, .int .i64 M.any.a2, .int .i64 M.any.a3, .int .i64 M.any.a4, .int .i64 M.any.a5, .bool M.any.i, .bool M.any.s, .int .i64 M.mw, .int .i64 M.ms, .int .i64 M.mc, vF, vS, vP, vR, vV]] w fun e w' => ∃ A1 A2 A3 A4 A5 A6 A7 A8 k1 k2 k3 k4 k5 k6 k7 k8, e = .returned (.agg #[.int .i64 D.size, .int .i64 D.load, .int .i64 D.wind, .slice A1 D.ns k1, .int .i64 D.pitch, .int .i64 D.roll, .int .i64 D.heave, .int .i64 D.fire, .slice A2 D.nh k2, .slice A3 D.nu k3, .int .i64 M.places, .int .i64 M.any.a0, .int .i64 M.any.a1, .int .i64 M.any.a2, .int .i64 M.any.a3, .int .i64 M.any.a4, .int .i64 M.any.a5, .bool M.any.i, .bool M.any.s, .int .i64 M.mw, .int .i64 M.ms, .int .i64 M.mc, .slice A4 M.n k4, .slice A5 M.m k5, .slice A6 Mo.np k6, .slice A7 Mo.nr k7, .slice A8 Mo.nv k8]) ∧ Below w.heap.size w w' ∧ DekAt w' (.slice A1 D.ns k1) (.slice A2 D.nh k2) (.slice A3 D.nu k3) D ∧ MetAt w' (.slice A4 M.n k4) (.slice A5 M.m k5) M ∧ MovAt w' (.slice A6 Mo.np k6) (.slice A7 Mo.nr k7) (.slice A8 Mo.nv k8) Mo := by
  unfold farP at hn
  simp only [Bool.or_eq_false_iff, decide_eq_false_iff_not] at hn
  obtain ⟨n1, n2, n3, n4, n5, n6, n7⟩ := hn
  have HD := Lib.hid hD
  have HA := Lib.hid hA
  have HV := Lib.hid hV
  have HC1 := Lib.hid (fun w1 h => dCopy_c D vA vB vC w1 h (by omega) (by omega) (by omega))
  have HC2 := Lib.hid (fun w1 h => wCopy_c M vF vS w1 h n4)
  have HC3 := Lib.hid (fun w1 h => dCopyMotion_c Mo vP vR vV w1 h (by omega) (by omega) (by omega))
  clear hD hA hV n1 n2 n3 n4 n5 n6 n7
  go_enter Tryz.func10, Tryz.ntmps10
  go_wp2_with (fail)
  have bHX : Blk ((w.alloc (.cells #[.int .i64 D.size, .int .i64 D.load, .int .i64 D.wind, vA, .int .i64 D.pitch, .int .i64 D.roll, .int .i64 D.heave, .int .i64 D.fire, vB, vC, .int .i64 M.places, .int .i64 M.any.a0, .int .i64 M.any.a1, .int .i64 M.any.a2, .int .i64 M.any.a3, .int .i64 M.any.a4, .int .i64 M.any.a5, .bool M.any.i, .bool M.any.s, .int .i64 M.mw, .int .i64 M.ms, .int .i64 M.mc, vF, vS, vP, vR, vV] 39)).alloc (.cells #[.int .i64 0, .int .i64 0, .int .i64 0, .slice none 0 0, .int .i64 0, .int .i64 0, .int .i64 0, .int .i64 0, .slice none 0 0, .slice none 0 0, .int .i64 0, .int .i64 0, .int .i64 0, .int .i64 0, .int .i64 0, .int .i64 0, .int .i64 0, .bool false, .bool false, .int .i64 0, .int .i64 0, .int .i64 0, .slice none 0 0, .slice none 0 0, .slice none 0 0, .slice none 0 0, .slice none 0 0] 39)) (w.heap.size) 39 #[.int .i64 D.size, .int .i64 D.load, .int .i64 D.wind, vA, .int .i64 D.pitch, .int .i64 D.roll, .int .i64 D.heave, .int .i64 D.fire, vB, vC, .int .i64 M.places, .int .i64 M.any.a0, .int .i64 M.any.a1, .int .i64 M.any.a2, .int .i64 M.any.a3, .int .i64 M.any.a4, .int .i64 M.any.a5, .bool M.any.i, .bool M.any.s, .int .i64 M.mw, .int .i64 M.ms, .int .i64 M.mc, vF, vS, vP, vR, vV] := (by repeat (first | (refine Blk.newAt _ _ _ ?_; first | rfl | (simp; done)) | refine Blk.alloc ?_ _))
  have bHR : Blk ((w.alloc (.cells #[.int .i64 D.size, .int .i64 D.load, .int .i64 D.wind, vA, .int .i64 D.pitch, .int .i64 D.roll, .int .i64 D.heave, .int .i64 D.fire, vB, vC, .int .i64 M.places, .int .i64 M.any.a0, .int .i64 M.any.a1, .int .i64 M.any.a2, .int .i64 M.any.a3, .int .i64 M.any.a4, .int .i64 M.any.a5, .bool M.any.i, .bool M.any.s, .int .i64 M.mw, .int .i64 M.ms, .int .i64 M.mc, vF, vS, vP, vR, vV] 39)).alloc (.cells #[.int .i64 0, .int .i64 0, .int .i64 0, .slice none 0 0, .int .i64 0, .int .i64 0, .int .i64 0, .int .i64 0, .slice none 0 0, .slice none 0 0, .int .i64 0, .int .i64 0, .int .i64 0, .int .i64 0, .int .i64 0, .int .i64 0, .int .i64 0, .bool false, .bool false, .int .i64 0, .int .i64 0, .int .i64 0, .slice none 0 0, .slice none 0 0, .slice none 0 0, .slice none 0 0, .slice none 0 0] 39)) (w.heap.size + 1) 39 #[.int .i64 0, .int .i64 0, .int .i64 0, .slice none 0 0, .int .i64 0, .int .i64 0, .int .i64 0, .int .i64 0, .slice none 0 0, .slice none 0 0, .int .i64 0, .int .i64 0, .int .i64 0, .int .i64 0, .int .i64 0, .int .i64 0, .int .i64 0, .bool false, .bool false, .int .i64 0, .int .i64 0, .int .i64 0, .slice none 0 0, .slice none 0 0, .slice none 0 0, .slice none 0 0, .slice none 0 0] := (by repeat (first | (refine Blk.newAt _ _ _ ?_; first | rfl | (simp; done)) | refine Blk.alloc ?_ _))
  have bHB : Below w.heap.size w ((w.alloc (.cells #[.int .i64 D.size, .int .i64 D.load, .int .i64 D.wind, vA, .int .i64 D.pitch, .int .i64 D.roll, .int .i64 D.heave, .int .i64 D.fire, vB, vC, .int .i64 M.places, .int .i64 M.any.a0, .int .i64 M.any.a1, .int .i64 M.any.a2, .int .i64 M.any.a3, .int .i64 M.any.a4, .int .i64 M.any.a5, .bool M.any.i, .bool M.any.s, .int .i64 M.mw, .int .i64 M.ms, .int .i64 M.mc, vF, vS, vP, vR, vV] 39)).alloc (.cells #[.int .i64 0, .int .i64 0, .int .i64 0, .slice none 0 0, .int .i64 0, .int .i64 0, .int .i64 0, .int .i64 0, .slice none 0 0, .slice none 0 0, .int .i64 0, .int .i64 0, .int .i64 0, .int .i64 0, .int .i64 0, .int .i64 0, .int .i64 0, .bool false, .bool false, .int .i64 0, .int .i64 0, .int .i64 0, .slice none 0 0, .slice none 0 0, .slice none 0 0, .slice none 0 0, .slice none 0 0] 39)) := (by repeat' (first | exact Below.refl _ _ | assumption | refine Below.drew ?_ | refine bdn ?_ _ | refine bal ?_ _ | refine Below.setCell ?_ (by first | (simp; done) | omega | (simp; omega)) _))
  generalize ((w.alloc (.cells #[.int .i64 D.size, .int .i64 D.load, .int .i64 D.wind, vA, .int .i64 D.pitch, .int .i64 D.roll, .int .i64 D.heave, .int .i64 D.fire, vB, vC, .int .i64 M.places, .int .i64 M.any.a0, .int .i64 M.any.a1, .int .i64 M.any.a2, .int .i64 M.any.a3, .int .i64 M.any.a4, .int .i64 M.any.a5, .bool M.any.i, .bool M.any.s, .int .i64 M.mw, .int .i64 M.ms, .int .i64 M.mc, vF, vS, vP, vR, vV] 39)).alloc (.cells #[.int .i64 0, .int .i64 0, .int .i64 0, .slice none 0 0, .int .i64 0, .int .i64 0, .int .i64 0, .int .i64 0, .slice none 0 0, .slice none 0 0, .int .i64 0, .int .i64 0, .int .i64 0, .int .i64 0, .int .i64 0, .int .i64 0, .int .i64 0, .bool false, .bool false, .int .i64 0, .int .i64 0, .int .i64 0, .slice none 0 0, .slice none 0 0, .slice none 0 0, .slice none 0 0, .slice none 0 0] 39)) = W at *
  have zW := bHR.lt
  have HX := Lib.hid bHX
  have HR := Lib.hid bHR
  have HB := Lib.hid bHB
  clear bHX bHR bHB
  refine wp_region_spec 9 (owR W.heap.size w.heap.size (.agg #[.int .i64 D.size, .int .i64 D.load, .int .i64 D.wind, vA, .int .i64 D.pitch, .int .i64 D.roll, .int .i64 D.heave, .int .i64 D.fire, vB, vC]) (.agg #[.int .i64 M.places, .int .i64 M.any.a0, .int .i64 M.any.a1, .int .i64 M.any.a2, .int .i64 M.any.a3, .int .i64 M.any.a4, .int .i64 M.any.a5, .bool M.any.i, .bool M.any.s, .int .i64 M.mw, .int .i64 M.ms, .int .i64 M.mc, vF, vS]) (.agg #[vP, vR, vV]) D M Mo) (fun i => false) (by kernel_rfl) (by kernel_rfl) owR_below ?hop1 ?htail1
  case hop1 =>
    simp only [List.take_succ_cons, List.take_zero, allOps]
    refine ⟨?_, ?_, ?_, ?_, ?_, ?_, ?_, ?_, ?_, trivial⟩
    all_goals intro u A w1 hA hb hd
    all_goals simp only [putAll, dstOf, List.getElem?_toArray, List.getElem?_cons_succ, List.getElem?_cons_zero, Option.bind_some, Option.bind, Act.put, List.setIfInBounds_toArray, List.set_cons_succ, List.set_cons_zero] at hA; subst hA
    all_goals have HB1 := Lib.hid hb
    · clear hb hd
      go_wp2
      exact ⟨_, rfl, Below.refl _ _, rfl, fun h => absurd h (by decide)⟩
    · have d0 : u 0 = _ := hd 0 (by omega) (by kernel_rfl)
      clear hb hd
      rw [d0]
      clear d0
      go_wp2_with (refine wpl_mid rfl 26 _ rfl w.heap.size 0 rfl 39 #[.int .i64 D.size, .int .i64 D.load, .int .i64 D.wind, vA, .int .i64 D.pitch, .int .i64 D.roll, .int .i64 D.heave, .int .i64 D.fire, vB, vC, .int .i64 M.places, .int .i64 M.any.a0, .int .i64 M.any.a1, .int .i64 M.any.a2, .int .i64 M.any.a3, .int .i64 M.any.a4, .int .i64 M.any.a5, .bool M.any.i, .bool M.any.s, .int .i64 M.mw, .int .i64 M.ms, .int .i64 M.mc, vF, vS, vP, vR, vV] #[.int .i64 D.size, .int .i64 D.load, .int .i64 D.wind, vA, .int .i64 D.pitch, .int .i64 D.roll, .int .i64 D.heave, .int .i64 D.fire, vB, vC] 10 (HX.out.below HB1.out) Tryz.rowDek [] [.int .i64 M.places, .int .i64 M.any.a0, .int .i64 M.any.a1, .int .i64 M.any.a2, .int .i64 M.any.a3, .int .i64 M.any.a4, .int .i64 M.any.a5, .bool M.any.i, .bool M.any.s, .int .i64 M.mw, .int .i64 M.ms, .int .i64 M.mc, vF, vS, vP, vR, vV] rfl rfl rfl ?_; simp only [Act.put])
      exact ⟨_, rfl, Below.refl _ _, rfl, fun h => absurd h (by decide)⟩
    · have d1 : u 1 = _ := hd 1 (by omega) (by kernel_rfl)
      clear hb hd
      rw [d1]
      clear d1
      go_wp2_with (go_at_call 29; refine (HC1.out _ ((HD.out.below HB.out).below HB1.out)).mono ?_; rintro e w2 ⟨xA, xB, xC, rfl, hb2, m1, m2, m3⟩)
      exact ⟨_, rfl, hb2, ⟨xA, xB, xC, rfl, ⟨m1.1, fun b hb => Nat.le_trans HB1.out.size (m1.2 b hb)⟩, ⟨m2.1, fun b hb => Nat.le_trans HB1.out.size (m2.2 b hb)⟩, ⟨m3.1, fun b hb => Nat.le_trans HB1.out.size (m3.2 b hb)⟩⟩, fun h => absurd h (by decide)⟩
    · clear hb hd
      go_wp2
      exact ⟨_, rfl, Below.refl _ _, rfl, fun h => absurd h (by decide)⟩
    · have d3 : u 3 = _ := hd 3 (by omega) (by kernel_rfl)
      clear hb hd
      rw [d3]
      clear d3
      go_wp2_with (refine wpl_mid rfl 34 _ rfl w.heap.size 10 rfl 39 #[.int .i64 D.size, .int .i64 D.load, .int .i64 D.wind, vA, .int .i64 D.pitch, .int .i64 D.roll, .int .i64 D.heave, .int .i64 D.fire, vB, vC, .int .i64 M.places, .int .i64 M.any.a0, .int .i64 M.any.a1, .int .i64 M.any.a2, .int .i64 M.any.a3, .int .i64 M.any.a4, .int .i64 M.any.a5, .bool M.any.i, .bool M.any.s, .int .i64 M.mw, .int .i64 M.ms, .int .i64 M.mc, vF, vS, vP, vR, vV] #[.int .i64 M.places, .int .i64 M.any.a0, .int .i64 M.any.a1, .int .i64 M.any.a2, .int .i64 M.any.a3, .int .i64 M.any.a4, .int .i64 M.any.a5, .bool M.any.i, .bool M.any.s, .int .i64 M.mw, .int .i64 M.ms, .int .i64 M.mc, vF, vS] 14 (HX.out.below HB1.out) Tryz.rowMet [.int .i64 D.size, .int .i64 D.load, .int .i64 D.wind, vA, .int .i64 D.pitch, .int .i64 D.roll, .int .i64 D.heave, .int .i64 D.fire, vB, vC] [vP, vR, vV] rfl rfl rfl ?_; simp only [Act.put])
      exact ⟨_, rfl, Below.refl _ _, rfl, fun h => absurd h (by decide)⟩
    · have d2 := hd 2 (by omega) (by kernel_rfl)
      have d4 : u 4 = _ := hd 4 (by omega) (by kernel_rfl)
      clear hb hd
      rw [d4]
      clear d4
      go_wp2_with (go_at_call 30; refine (HC2.out _ ((HA.out.below HB.out).below HB1.out)).mono ?_; rintro e w2 ⟨xF, xS, rfl, hb2, m1, m2, m3⟩)
      exact ⟨_, rfl, hb2, ⟨xF, xS, rfl, m1, fun b hb => Nat.le_trans HB1.out.size (m2 b hb), fun b hb => Nat.le_trans HB1.out.size (m3 b hb)⟩, fun h => absurd h (by decide)⟩
    · clear hb hd
      go_wp2
      exact ⟨_, rfl, Below.refl _ _, rfl, fun h => absurd h (by decide)⟩
    · have d6 : u 6 = _ := hd 6 (by omega) (by kernel_rfl)
      clear hb hd
      rw [d6]
      clear d6
      go_wp2_with (refine wpl_mid rfl 37 _ rfl w.heap.size 24 rfl 39 #[.int .i64 D.size, .int .i64 D.load, .int .i64 D.wind, vA, .int .i64 D.pitch, .int .i64 D.roll, .int .i64 D.heave, .int .i64 D.fire, vB, vC, .int .i64 M.places, .int .i64 M.any.a0, .int .i64 M.any.a1, .int .i64 M.any.a2, .int .i64 M.any.a3, .int .i64 M.any.a4, .int .i64 M.any.a5, .bool M.any.i, .bool M.any.s, .int .i64 M.mw, .int .i64 M.ms, .int .i64 M.mc, vF, vS, vP, vR, vV] #[vP, vR, vV] 3 (HX.out.below HB1.out) Tryz.rowMov [.int .i64 D.size, .int .i64 D.load, .int .i64 D.wind, vA, .int .i64 D.pitch, .int .i64 D.roll, .int .i64 D.heave, .int .i64 D.fire, vB, vC, .int .i64 M.places, .int .i64 M.any.a0, .int .i64 M.any.a1, .int .i64 M.any.a2, .int .i64 M.any.a3, .int .i64 M.any.a4, .int .i64 M.any.a5, .bool M.any.i, .bool M.any.s, .int .i64 M.mw, .int .i64 M.ms, .int .i64 M.mc, vF, vS] [] rfl rfl rfl ?_; simp only [Act.put])
      exact ⟨_, rfl, Below.refl _ _, rfl, fun h => absurd h (by decide)⟩
    · have d5 := hd 5 (by omega) (by kernel_rfl)
      have d7 : u 7 = _ := hd 7 (by omega) (by kernel_rfl)
      clear hb hd
      rw [d7]
      clear d7
      go_wp2_with (go_at_call 31; refine (HC3.out _ ((HV.out.below HB.out).below HB1.out)).mono ?_; rintro e w2 ⟨xA, xB, xC, rfl, hb2, m1, m2, m3⟩)
      exact ⟨_, rfl, hb2, ⟨xA, xB, xC, rfl, ⟨m1.1, fun b hb => Nat.le_trans HB1.out.size (m1.2 b hb)⟩, ⟨m2.1, fun b hb => Nat.le_trans HB1.out.size (m2.2 b hb)⟩, ⟨m3.1, fun b hb => Nat.le_trans HB1.out.size (m3.2 b hb)⟩⟩, fun h => absurd h (by decide)⟩
  case htail1 =>
    intro u A w1 hA hb hd hf
    simp only [putAll, dstOf, List.getElem?_toArray, List.getElem?_cons_succ, List.getElem?_cons_zero, Option.bind_some, Option.bind, Act.put, List.setIfInBounds_toArray, List.set_cons_succ, List.set_cons_zero] at hA; subst hA
    have e0 : u 0 = _ := hd 0 (by omega)
    have e1 : u 1 = _ := hd 1 (by omega)
    have p2 := hd 2 (by omega)
    have e3 : u 3 = _ := hd 3 (by omega)
    have e4 : u 4 = _ := hd 4 (by omega)
    have p5 := hd 5 (by omega)
    have e6 : u 6 = _ := hd 6 (by omega)
    have e7 : u 7 = _ := hd 7 (by omega)
    have p8 := hd 8 (by omega)
    first | rw [e0, e1, e3, e4, e6, e7] | simp only [e0, e1, e3, e4, e6, e7]
    clear e0 e1 e3 e4 e6 e7
    clear hd hf
    have t2 : DekV D W.heap.size (u 2) w1 := p2
    have t5 : MetV2 M W.heap.size (u 5) w1 := p5
    have t8 : MovV Mo W.heap.size (u 8) w1 := p8
    have hW := HR.out.lt
    have HR1 := Lib.hid (HR.out.below hb)
    have HB2 := Lib.hid (bthen HB.out hb)
    have hs := hb.size
    generalize u 2 = x2 at *
    generalize u 5 = x5 at *
    generalize u 8 = x8 at *
    obtain ⟨xA, xB, xC, rfl, a1, a2, a3⟩ := t2
    obtain ⟨xF, xS, rfl, b1, b2, b3⟩ := t5
    obtain ⟨xP, xR, xV, rfl, d1, d2, d3⟩ := t8
    have SA := Lib.hid a1
    have SB := Lib.hid a2
    have SC := Lib.hid a3
    have SM := Lib.hid (And.intro b1 (And.intro b2 b3))
    have SP := Lib.hid d1
    have SR := Lib.hid d2
    have SV := Lib.hid d3
    obtain ⟨A1, k1, rfl, -, -, -⟩ := a1.1.e
    obtain ⟨A2, k2, rfl, -, -, -⟩ := a2.1.e
    obtain ⟨A3, k3, rfl, -, -, -⟩ := a3.1.e
    obtain ⟨⟨A4, k4, rfl, -, -, -⟩, ⟨A5, k5, rfl, -, -, -⟩⟩ := b1
    obtain ⟨A6, k6, rfl, -, -, -⟩ := d1.1.e
    obtain ⟨A7, k7, rfl, -, -, -⟩ := d2.1.e
    obtain ⟨A8, k8, rfl, -, -, -⟩ := d3.1.e
    clear p2 p5 p8 a1 a2 a3 b2 b3 d1 d2 d3 hb HX HR HB HC1 HC2 HC3
    refine wpl_buildw rfl 39 _ rfl #[.int .i64 D.size, .int .i64 D.load, .int .i64 D.wind, .slice A1 D.ns k1, .int .i64 D.pitch, .int .i64 D.roll, .int .i64 D.heave, .int .i64 D.fire, .slice A2 D.nh k2, .slice A3 D.nu k3, .int .i64 M.places, .int .i64 M.any.a0, .int .i64 M.any.a1, .int .i64 M.any.a2, .int .i64 M.any.a3, .int .i64 M.any.a4, .int .i64 M.any.a5, .bool M.any.i, .bool M.any.s, .int .i64 M.mw, .int .i64 M.ms, .int .i64 M.mc, .slice A4 M.n k4, .slice A5 M.m k5, .slice A6 Mo.np k6, .slice A7 Mo.nr k7, .slice A8 Mo.nv k8] (by kernel_rfl) ?_
    simp only [Act.put]
    refine wpList_store_row rfl 39 _ _ rfl (w.heap.size + 1) #[.int .i64 D.size, .int .i64 D.load, .int .i64 D.wind, .slice A1 D.ns k1, .int .i64 D.pitch, .int .i64 D.roll, .int .i64 D.heave, .int .i64 D.fire, .slice A2 D.nh k2, .slice A3 D.nu k3, .int .i64 M.places, .int .i64 M.any.a0, .int .i64 M.any.a1, .int .i64 M.any.a2, .int .i64 M.any.a3, .int .i64 M.any.a4, .int .i64 M.any.a5, .bool M.any.i, .bool M.any.s, .int .i64 M.mw, .int .i64 M.ms, .int .i64 M.mc, .slice A4 M.n k4, .slice A5 M.m k5, .slice A6 Mo.np k6, .slice A7 Mo.nr k7, .slice A8 Mo.nv k8] rfl rfl 39 #[.int .i64 0, .int .i64 0, .int .i64 0, .slice none 0 0, .int .i64 0, .int .i64 0, .int .i64 0, .int .i64 0, .slice none 0 0, .slice none 0 0, .int .i64 0, .int .i64 0, .int .i64 0, .int .i64 0, .int .i64 0, .int .i64 0, .int .i64 0, .bool false, .bool false, .int .i64 0, .int .i64 0, .int .i64 0, .slice none 0 0, .slice none 0 0, .slice none 0 0, .slice none 0 0, .slice none 0 0] HR1.out Tryz.sizePl rfl (oneScn D M Mo _ _ _ _ _ _ _ _ _ _ _ _ _ _ _ _) ?_
    simp only [Act.put]
    go_wp2_with (fail)
    try dsimp only [NoPanic]
    try go_wp2_with (fail)
    have fr : ∀ b, W.heap.size ≤ b → (w1.setRow (w.heap.size + 1) #[.int .i64 D.size, .int .i64 D.load, .int .i64 D.wind, .slice A1 D.ns k1, .int .i64 D.pitch, .int .i64 D.roll, .int .i64 D.heave, .int .i64 D.fire, .slice A2 D.nh k2, .slice A3 D.nu k3, .int .i64 M.places, .int .i64 M.any.a0, .int .i64 M.any.a1, .int .i64 M.any.a2, .int .i64 M.any.a3, .int .i64 M.any.a4, .int .i64 M.any.a5, .bool M.any.i, .bool M.any.s, .int .i64 M.mw, .int .i64 M.ms, .int .i64 M.mc, .slice A4 M.n k4, .slice A5 M.m k5, .slice A6 Mo.np k6, .slice A7 Mo.nr k7, .slice A8 Mo.nv k8]).heap[b]? = w1.heap[b]? := fun b hb => setRow_other _ _ _ _ (by omega)
    refine bodyPost_ret (res_c rfl _ _ _ 27 rfl (setRow_heap _ _ _ _ _ _ HR1.out) Tryz.rowPl rfl) rfl ⟨A1, A2, A3, A4, A5, A6, A7, A8, k1, k2, k3, k4, k5, k6, k7, k8, rfl, rowBelow HB2.out (by omega) _, ⟨SA.out.1.frame (by simp [World.setRow]) (fun b hb => fr b (SA.out.2 b hb)), SB.out.1.frame (by simp [World.setRow]) (fun b hb => fr b (SB.out.2 b hb)), SC.out.1.frame (by simp [World.setRow]) (fun b hb => fr b (SC.out.2 b hb))⟩, ?_, ⟨SP.out.1.frame (by simp [World.setRow]) (fun b hb => fr b (SP.out.2 b hb)), SR.out.1.frame (by simp [World.setRow]) (fun b hb => fr b (SR.out.2 b hb)), SV.out.1.frame (by simp [World.setRow]) (fun b hb => fr b (SV.out.2 b hb))⟩⟩
    exact SM.out.1.setRow (fun b hb => by have := SM.out.2.1 b hb; omega) (fun b hb => by have := SM.out.2.2 b hb; omega) _
end Go.Proofs.YtafkifjebimdaaaGreat

namespace Go.Proofs.YtafkifjebimdaaaGreat
open Go Go.RowKit Go.Proofs
set_option maxRecDepth 100000
set_option maxHeartbeats 8000000
theorem wblk_setRow {w : World} {g : Nat} {t : TypeId} {old cs : Array Value} (h : Blk w g t old) : Blk (w.setRow g cs) g t cs := setRow_heap w g old cs t (0, 0) h
theorem wblk_setRow_ne {w : World} {g k : Nat} {t : TypeId} {cs us : Array Value} (h : Blk w k t cs) (hne : k ≠ g) : Blk (w.setRow g us) k t cs := (setRow_other w g k us hne).trans h
end Go.Proofs.YtafkifjebimdaaaGreat
