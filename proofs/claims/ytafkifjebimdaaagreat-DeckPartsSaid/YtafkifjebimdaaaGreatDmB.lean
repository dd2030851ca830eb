/- The law DeckParts: Limit for directions is the least one of Limit for two parts of them, which spans.Hull puts together. -/
import Derived.Test.YtafkifjebimdaaaGreatDmA
import Derived.Test.YtafkifjebimdaaaGreatJAQ
import Derived.Test.YtafkifjebimdaaaGreatDkY
import Derived.Test.YtafkifjebimdaaaGreatJAR
set_option linter.all false
namespace Go.Proofs.YtafkifjebimdaaaGreat
open Go Go.RowKit Go.Proofs
set_option maxRecDepth 100000
set_option maxHeartbeats 8000000
theorem Tryz.sizeSp : (Tryz.prog.info? 28).map (·.size) = some 2 := by kernel_rfl
def AnyBlk (B : Nat) (v : Value) (w : World) : Prop := ∃ (g : Nat) (c : Array Value), v = .pointer (some ⟨g, 0, none⟩) ∧ B ≤ g ∧ c.size = 2 ∧ Blk w g 28 c
theorem AnyBlk.below {B : Nat} {v : Value} {w w' : World} (h : AnyBlk B v w) (hb : RowKit.Below w.heap.size w w') : AnyBlk B v w' := by
  obtain ⟨g, c, h1, h2, h3, h4⟩ := h
  exact ⟨g, c, h1, h2, h3, h4.below hb⟩
theorem AnyBlk.put {B g : Nat} {v : Value} {w : World} {c : Array Value} (h : AnyBlk B v w) (hc : c.size = 2) : AnyBlk B v (w.setRow g c) := by
  obtain ⟨k, d, h1, h2, h3, h4⟩ := h
  by_cases e : k = g
  · subst e; exact ⟨k, c, h1, h2, hc, wblk_setRow h4⟩
  · exact ⟨k, d, h1, h2, h3, wblk_setRow_ne h4 e⟩
def dpR (B gw : Nat) (lo hi x : Int) : Nat → (Nat → Value) → World → Prop
  | 0, u, _ => u 0 = .pointer (some ⟨gw, 0, none⟩)
  | 1, u, _ => u 1 = .int .i64 lo
  | 2, u, _ => u 2 = .int .i64 x
  | 3, u, _ => u 3 = .agg #[.int .i64 lo, .int .i64 x]
  | 4, u, _ => u 4 = .int .i64 x
  | 5, u, _ => u 5 = .pointer (some ⟨gw, 1, none⟩)
  | 6, u, _ => u 6 = .int .i64 hi
  | 7, u, _ => u 7 = .agg #[.int .i64 x, .int .i64 hi]
  | 8, u, w => AnyBlk B (u 8) w
  | 9, u, w => AnyBlk B (u 9) w
  | 10, u, w => ∃ g : Nat, u 8 = .pointer (some ⟨g, 0, none⟩) ∧ B ≤ g ∧ Blk w g 28 #[.int .i64 lo, .int .i64 x]
  | _, _, _ => True
def dpG (B : Nat) (i : Nat) (a b : World) : Prop := if i = 10 then ∃ (g : Nat) (c : Array Value), B ≤ g ∧ c.size = 2 ∧ b = a.setRow g c else RowKit.Below a.heap.size a b
theorem dpG_size {B : Nat} (i : Nat) (a b : World) (h : dpG B i a b) : a.heap.size ≤ b.heap.size := by
  unfold dpG at h
  split at h
  · obtain ⟨g, c, -, -, rfl⟩ := h; simp [World.setRow]
  · exact h.size
theorem dpG_J {W : World} (i : Nat) (a b : World) (h : dpG W.heap.size i a b) (j : RowKit.Below W.heap.size W a) : RowKit.Below W.heap.size W b := by
  unfold dpG at h
  split at h
  · obtain ⟨g, c, h1, -, rfl⟩ := h; exact below_row j h1 c
  · exact bthen j h
theorem dpG_R {B gw : Nat} {lo hi x : Int} (k j : Nat) (u : Nat → Value) (a b : World) (hkj : k ≠ j) (h : dpG B j a b) (r : dpR B gw lo hi x k u a) : dpR B gw lo hi x k u b := by
  unfold dpG at h
  split at h
  · obtain ⟨g, c, h1, h2, rfl⟩ := h
    rename_i ej
    unfold dpR at *
    split at r <;> first | exact r | exact AnyBlk.put r h2 | exact absurd ej.symm hkj
  · unfold dpR at *
    split at r <;> first | exact r | exact AnyBlk.below r h | (obtain ⟨g, q1, q2, q3⟩ := r; exact ⟨g, q1, q2, q3.below h⟩)
theorem dpG_U {ops : Array Oper} (h8 : 8 ∈ depsOf ops 10) {B gw : Nat} {lo hi x : Int} (k : Nat) (u u2 : Nat → Value) (w : World) (h : ∀ j, j = k ∨ j ∈ depsOf ops k → u j = u2 j) (r : dpR B gw lo hi x k u w) : dpR B gw lo hi x k u2 w := by
  unfold dpR at *
  split at r <;> first | exact (h _ (Or.inl rfl)) ▸ r | trivial | (have e := h 8 (Or.inr h8); rw [e] at r; exact r)
theorem DeckParts_c (D : DekD) (vA vB vC : Value) (M : MetD) (vF vS : Value) (Mo : MovD) (vP vR vV : Value) (lo hi c : Int) (w : World) (hD : DekAt w vA vB vC D) (hA : MetAt w vF vS M) (hV : MovAt w vP vR vV Mo) (hc : I64 c) :
   Calls Tryz.prog 4 #[.agg #[.int .i64 D.size, .int .i64 D.load, .int .i64 D.wind, vA, .int .i64 D.pitch, .int .i64 D.roll, .int .i64 D.heave, .int .i64 D.fire, vB, vC, .int .i64 M.places, .int .i64 M.any.a0, .int .i64 M.any.a1, .int .i64 M.any.a2, .int .i64 M.any.a3, .int .i64 M.any.a4, .int .i64 M.any.a5, .bool M.any.i, .bool M.any.s, .int .i64 M.mw, .int .i64 M.ms, .int .i64 M.mc, vF, vS, vP, vR, vV], .agg #[.int .i64 lo, .int .i64 hi], .int .i64 c] w fun e w' => e = .returned (.bool true) ∧ RowKit.Below w.heap.size w w' := by
  have HD := Lib.hid hD
  have HA := Lib.hid hA
  have HV := Lib.hid hV
  have HFR := Lib.hid (fun w1 h1 h2 h3 => dFar_c D vA vB vC M vF vS Mo vP vR vV w1 h1 h2 h3)
  have HOW := Lib.hid (fun w1 h1 h2 h3 hn => down_c D vA vB vC M vF vS Mo vP vR vV w1 h1 h2 h3 hn)
  clear hD hA hV
  cases hf : farP D M Mo
  · rw [hf] at HFR
    have HFF := Lib.hid hf
    clear hf
    by_cases he : limE D lo hi = 0
    · have he' := he
      unfold limE at he'
      split at he' <;> rename_i hx
      rotate_left
      · exact absurd he' hx
      split at he' <;> rename_i hi2
      rotate_left
      · cases he'
      have hb : 0 ≤ lo ∧ lo ≤ hi ∧ hi ≤ 719 := by
        have q := insB_iff.1 hi2
        have q2 := vspan_iff'.1 q.1
        omega
      have he2 : D.err = 0 := hx
      have hsp : ∀ p q : Int, lo ≤ p → p ≤ q → q ≤ hi → limE D p q = 0 ∧ limO D p q = limV D p q := fun p q a1 a2 a3 => by
        have : limE D p q = 0 := by
          unfold limE
          rw [if_pos he2, if_pos (insB_iff.2 ⟨vspan_iff'.2 ⟨by omega, a2, by omega⟩, by omega, by omega, by omega⟩)]
        exact ⟨this, by unfold limO; rw [if_pos this]⟩
      obtain ⟨K, hK, k0, k1⟩ : ∃ K, c.tmod (hi - lo + 1) % (hi - lo + 1) = K ∧ 0 ≤ K ∧ K ≤ hi - lo := ⟨_, rfl, Int.emod_nonneg _ (by omega), by
        have := Int.emod_lt_of_pos (c.tmod (hi - lo + 1)) (show 0 < hi - lo + 1 by omega)
        omega⟩
      have HE := Lib.hid hK
      have a1 := Int.tmod_lt_of_pos c (show 0 < hi - lo + 1 by omega)
      have a2 := Int.lt_tmod_of_pos c (show 0 < hi - lo + 1 by omega)
      have hcut := limV_cut (D := D) (lo := lo) (hi := hi) (at1 := lo + K) (by omega) (by omega)
      have hlw := limV_le D lo hi
      have h1 := fun w1 vA vB vC h => dLimit_c D vA vB vC lo hi w1 h
      have h2 := fun w1 vA vB vC h => dLimit_c D vA vB vC lo (lo + K) w1 h
      have h3 := fun w1 vA vB vC h => dLimit_c D vA vB vC (lo + K) hi w1 h
      have hv := fun w1 => rf_Valid_c lo hi w1
      have HH := Lib.hid (fun w1 => Hull_c lo (lo + K) hi w1 (by omega) (by omega) (by omega) (by omega))
      obtain ⟨e1, o1⟩ := hsp lo hi (by omega) (by omega) (by omega)
      obtain ⟨e2, o2⟩ := hsp lo (lo + K) (by omega) (by omega) (by omega)
      obtain ⟨e3, o3⟩ := hsp (lo + K) hi (by omega) (by omega) (by omega)
      rw [e1, o1] at h1
      rw [e2, o2] at h2
      rw [e3, o3] at h3
      rw [vspan_iff'.2 ⟨by omega, by omega, by omega⟩] at hv
      clear e1 e2 e3 o1 o2 o3 hsp he he' he2 hx hi2
      generalize limV D lo hi = V0 at *
      generalize limV D lo (lo + K) = V1 at *
      generalize limV D (lo + K) hi = V2 at *
      have H1 := Lib.hid h1
      have H2 := Lib.hid h2
      have H3 := Lib.hid h3
      have HV1 := Lib.hid hv
      clear h1 h2 h3 hv
      go_enter Tryz.func4, Tryz.ntmps4
      go_wp2_with (first | (refine wpl_row rfl 39 _ rfl _ rfl #[.int .i64 D.size, .int .i64 D.load, .int .i64 D.wind, vA, .int .i64 D.pitch, .int .i64 D.roll, .int .i64 D.heave, .int .i64 D.fire, vB, vC, .int .i64 M.places, .int .i64 M.any.a0, .int .i64 M.any.a1, .int .i64 M.any.a2, .int .i64 M.any.a3, .int .i64 M.any.a4, .int .i64 M.any.a5, .bool M.any.i, .bool M.any.s, .int .i64 M.mw, .int .i64 M.ms, .int .i64 M.mc, vF, vS, vP, vR, vV] 27 ?_ Tryz.rowPl rfl ?_; (focus exact (by repeat (first | (refine Blk.newAt _ _ _ ?_; first | rfl | (simp; done)) | refine Blk.alloc ?_ _))); simp only [Act.put]))
      have bHX : Blk ((w.alloc (.cells #[.int .i64 D.size, .int .i64 D.load, .int .i64 D.wind, vA, .int .i64 D.pitch, .int .i64 D.roll, .int .i64 D.heave, .int .i64 D.fire, vB, vC, .int .i64 M.places, .int .i64 M.any.a0, .int .i64 M.any.a1, .int .i64 M.any.a2, .int .i64 M.any.a3, .int .i64 M.any.a4, .int .i64 M.any.a5, .bool M.any.i, .bool M.any.s, .int .i64 M.mw, .int .i64 M.ms, .int .i64 M.mc, vF, vS, vP, vR, vV] 39)).alloc (.cells #[.int .i64 lo, .int .i64 hi] 28)) (w.heap.size) 39 #[.int .i64 D.size, .int .i64 D.load, .int .i64 D.wind, vA, .int .i64 D.pitch, .int .i64 D.roll, .int .i64 D.heave, .int .i64 D.fire, vB, vC, .int .i64 M.places, .int .i64 M.any.a0, .int .i64 M.any.a1, .int .i64 M.any.a2, .int .i64 M.any.a3, .int .i64 M.any.a4, .int .i64 M.any.a5, .bool M.any.i, .bool M.any.s, .int .i64 M.mw, .int .i64 M.ms, .int .i64 M.mc, vF, vS, vP, vR, vV] := (by repeat (first | (refine Blk.newAt _ _ _ ?_; first | rfl | (simp; done)) | refine Blk.alloc ?_ _))
      have bHW : Blk ((w.alloc (.cells #[.int .i64 D.size, .int .i64 D.load, .int .i64 D.wind, vA, .int .i64 D.pitch, .int .i64 D.roll, .int .i64 D.heave, .int .i64 D.fire, vB, vC, .int .i64 M.places, .int .i64 M.any.a0, .int .i64 M.any.a1, .int .i64 M.any.a2, .int .i64 M.any.a3, .int .i64 M.any.a4, .int .i64 M.any.a5, .bool M.any.i, .bool M.any.s, .int .i64 M.mw, .int .i64 M.ms, .int .i64 M.mc, vF, vS, vP, vR, vV] 39)).alloc (.cells #[.int .i64 lo, .int .i64 hi] 28)) (w.heap.size + 1) 28 #[.int .i64 lo, .int .i64 hi] := (by repeat (first | (refine Blk.newAt _ _ _ ?_; first | rfl | (simp; done)) | refine Blk.alloc ?_ _))
      have bHB : Below w.heap.size w ((w.alloc (.cells #[.int .i64 D.size, .int .i64 D.load, .int .i64 D.wind, vA, .int .i64 D.pitch, .int .i64 D.roll, .int .i64 D.heave, .int .i64 D.fire, vB, vC, .int .i64 M.places, .int .i64 M.any.a0, .int .i64 M.any.a1, .int .i64 M.any.a2, .int .i64 M.any.a3, .int .i64 M.any.a4, .int .i64 M.any.a5, .bool M.any.i, .bool M.any.s, .int .i64 M.mw, .int .i64 M.ms, .int .i64 M.mc, vF, vS, vP, vR, vV] 39)).alloc (.cells #[.int .i64 lo, .int .i64 hi] 28)) := (by repeat' (first | exact Below.refl _ _ | assumption | refine Below.drew ?_ | refine bdn ?_ _ | refine bal ?_ _ | refine Below.setCell ?_ (by first | (simp; done) | omega | (simp; omega)) _))
      generalize ((w.alloc (.cells #[.int .i64 D.size, .int .i64 D.load, .int .i64 D.wind, vA, .int .i64 D.pitch, .int .i64 D.roll, .int .i64 D.heave, .int .i64 D.fire, vB, vC, .int .i64 M.places, .int .i64 M.any.a0, .int .i64 M.any.a1, .int .i64 M.any.a2, .int .i64 M.any.a3, .int .i64 M.any.a4, .int .i64 M.any.a5, .bool M.any.i, .bool M.any.s, .int .i64 M.mw, .int .i64 M.ms, .int .i64 M.mc, vF, vS, vP, vR, vV] 39)).alloc (.cells #[.int .i64 lo, .int .i64 hi] 28)) = W at *
      have zW := bHW.lt
      have HX := Lib.hid bHX
      have HW := Lib.hid bHW
      have HB := Lib.hid bHB
      clear bHX bHW bHB
      go_wp2_with (first | (refine wpl_row rfl 39 _ rfl _ rfl #[.int .i64 D.size, .int .i64 D.load, .int .i64 D.wind, vA, .int .i64 D.pitch, .int .i64 D.roll, .int .i64 D.heave, .int .i64 D.fire, vB, vC, .int .i64 M.places, .int .i64 M.any.a0, .int .i64 M.any.a1, .int .i64 M.any.a2, .int .i64 M.any.a3, .int .i64 M.any.a4, .int .i64 M.any.a5, .bool M.any.i, .bool M.any.s, .int .i64 M.mw, .int .i64 M.ms, .int .i64 M.mc, vF, vS, vP, vR, vV] 27 HX.out Tryz.rowPl rfl ?_; simp only [Act.put]) | (go_at_call 8; (with_reducible refine (HFR.out _ (HD.out.below HB.out) (HA.out.below HB.out) (HV.out.below HB.out)).mono ?_); rintro e w1 ⟨rfl, hb1⟩; have nHX := Lib.hid (HX.out.below hb1); have nHW := Lib.hid (HW.out.below hb1); have nHB := Lib.hid (bthen HB.out hb1); have zz1 := hb1.size; clear HX HW HB hb1; have HX := nHX; have HW := nHW; have HB := nHB; clear nHX nHW nHB) | (go_at_call 9; (with_reducible refine (dworks_c _).mono ?_); rintro e w1 ⟨rfl, hb1⟩; have nHX := Lib.hid (HX.out.below hb1); have nHW := Lib.hid (HW.out.below hb1); have nHB := Lib.hid (bthen HB.out hb1); have zz1 := hb1.size; clear HX HW HB hb1; have HX := nHX; have HW := nHW; have HB := nHB; clear nHX nHW nHB))
      refine (HOW.out _ (HD.out.below HB.out) (HA.out.below HB.out) (HV.out.below HB.out) HFF.out).mono ?_
      rintro e w1 ⟨A1, A2, A3, A4, A5, A6, A7, A8, k1, k2, k3, k4, k5, k6, k7, k8, rfl, hb1, q1, q2, q3⟩
      have HD1 := Lib.hid q1
      clear q1 q2 q3
      have nHX := Lib.hid (HX.out.below hb1)
      have nHW := Lib.hid (HW.out.below hb1)
      have nHB := Lib.hid (bthen HB.out hb1)
      clear HX HW HB hb1
      have HX := nHX
      have HW := nHW
      have HB := nHB
      clear nHX nHW nHB
      have tok : True := trivial
      go_wp2_with (first | (have _t := tok; refine wpl_store_newW rfl 39 _ _ rfl #[.int .i64 D.size, .int .i64 D.load, .int .i64 D.wind, .slice A1 D.ns k1, .int .i64 D.pitch, .int .i64 D.roll, .int .i64 D.heave, .int .i64 D.fire, .slice A2 D.nh k2, .slice A3 D.nu k3, .int .i64 M.places, .int .i64 M.any.a0, .int .i64 M.any.a1, .int .i64 M.any.a2, .int .i64 M.any.a3, .int .i64 M.any.a4, .int .i64 M.any.a5, .bool M.any.i, .bool M.any.s, .int .i64 M.mw, .int .i64 M.ms, .int .i64 M.mc, .slice A4 M.n k4, .slice A5 M.m k5, .slice A6 Mo.np k6, .slice A7 Mo.nr k7, .slice A8 Mo.nv k8] _ _ rfl ?_ rfl Tryz.sizePl rfl (oneP D M Mo _ _ _ _ _ _ _ _ _ _ _ _ _ _ _ _) ?_; (focus (simp; done)); simp only [Act.put]; clear tok) | (refine wpl_mid rfl 26 _ rfl _ 0 rfl 39 #[.int .i64 D.size, .int .i64 D.load, .int .i64 D.wind, .slice A1 D.ns k1, .int .i64 D.pitch, .int .i64 D.roll, .int .i64 D.heave, .int .i64 D.fire, .slice A2 D.nh k2, .slice A3 D.nu k3, .int .i64 M.places, .int .i64 M.any.a0, .int .i64 M.any.a1, .int .i64 M.any.a2, .int .i64 M.any.a3, .int .i64 M.any.a4, .int .i64 M.any.a5, .bool M.any.i, .bool M.any.s, .int .i64 M.mw, .int .i64 M.ms, .int .i64 M.mc, .slice A4 M.n k4, .slice A5 M.m k5, .slice A6 Mo.np k6, .slice A7 Mo.nr k7, .slice A8 Mo.nv k8] #[.int .i64 D.size, .int .i64 D.load, .int .i64 D.wind, .slice A1 D.ns k1, .int .i64 D.pitch, .int .i64 D.roll, .int .i64 D.heave, .int .i64 D.fire, .slice A2 D.nh k2, .slice A3 D.nu k3] 10 (Blk.new _ _ _) Tryz.rowDek [] [.int .i64 M.places, .int .i64 M.any.a0, .int .i64 M.any.a1, .int .i64 M.any.a2, .int .i64 M.any.a3, .int .i64 M.any.a4, .int .i64 M.any.a5, .bool M.any.i, .bool M.any.s, .int .i64 M.mw, .int .i64 M.ms, .int .i64 M.mc, .slice A4 M.n k4, .slice A5 M.m k5, .slice A6 Mo.np k6, .slice A7 Mo.nr k7, .slice A8 Mo.nv k8] rfl rfl rfl ?_; simp only [Act.put]) | (refine wpl_row rfl 28 _ rfl _ rfl #[.int .i64 lo, .int .i64 hi] 2 (HW.out.alloc _) Tryz.rowSpan rfl ?_; simp only [Act.put]))
      have bHQ := Blk.new w1 39 #[.int .i64 D.size, .int .i64 D.load, .int .i64 D.wind, .slice A1 D.ns k1, .int .i64 D.pitch, .int .i64 D.roll, .int .i64 D.heave, .int .i64 D.fire, .slice A2 D.nh k2, .slice A3 D.nu k3, .int .i64 M.places, .int .i64 M.any.a0, .int .i64 M.any.a1, .int .i64 M.any.a2, .int .i64 M.any.a3, .int .i64 M.any.a4, .int .i64 M.any.a5, .bool M.any.i, .bool M.any.s, .int .i64 M.mw, .int .i64 M.ms, .int .i64 M.mc, .slice A4 M.n k4, .slice A5 M.m k5, .slice A6 Mo.np k6, .slice A7 Mo.nr k7, .slice A8 Mo.nv k8]
      have nHX := Lib.hid (HX.out.alloc (.cells #[.int .i64 D.size, .int .i64 D.load, .int .i64 D.wind, .slice A1 D.ns k1, .int .i64 D.pitch, .int .i64 D.roll, .int .i64 D.heave, .int .i64 D.fire, .slice A2 D.nh k2, .slice A3 D.nu k3, .int .i64 M.places, .int .i64 M.any.a0, .int .i64 M.any.a1, .int .i64 M.any.a2, .int .i64 M.any.a3, .int .i64 M.any.a4, .int .i64 M.any.a5, .bool M.any.i, .bool M.any.s, .int .i64 M.mw, .int .i64 M.ms, .int .i64 M.mc, .slice A4 M.n k4, .slice A5 M.m k5, .slice A6 Mo.np k6, .slice A7 Mo.nr k7, .slice A8 Mo.nv k8] 39))
      have nHW := Lib.hid (HW.out.alloc (.cells #[.int .i64 D.size, .int .i64 D.load, .int .i64 D.wind, .slice A1 D.ns k1, .int .i64 D.pitch, .int .i64 D.roll, .int .i64 D.heave, .int .i64 D.fire, .slice A2 D.nh k2, .slice A3 D.nu k3, .int .i64 M.places, .int .i64 M.any.a0, .int .i64 M.any.a1, .int .i64 M.any.a2, .int .i64 M.any.a3, .int .i64 M.any.a4, .int .i64 M.any.a5, .bool M.any.i, .bool M.any.s, .int .i64 M.mw, .int .i64 M.ms, .int .i64 M.mc, .slice A4 M.n k4, .slice A5 M.m k5, .slice A6 Mo.np k6, .slice A7 Mo.nr k7, .slice A8 Mo.nv k8] 39))
      have nHD1 := Lib.hid (HD1.out.alloc (.cells #[.int .i64 D.size, .int .i64 D.load, .int .i64 D.wind, .slice A1 D.ns k1, .int .i64 D.pitch, .int .i64 D.roll, .int .i64 D.heave, .int .i64 D.fire, .slice A2 D.nh k2, .slice A3 D.nu k3, .int .i64 M.places, .int .i64 M.any.a0, .int .i64 M.any.a1, .int .i64 M.any.a2, .int .i64 M.any.a3, .int .i64 M.any.a4, .int .i64 M.any.a5, .bool M.any.i, .bool M.any.s, .int .i64 M.mw, .int .i64 M.ms, .int .i64 M.mc, .slice A4 M.n k4, .slice A5 M.m k5, .slice A6 Mo.np k6, .slice A7 Mo.nr k7, .slice A8 Mo.nv k8] 39))
      have nHB := Lib.hid (bal HB.out (.cells #[.int .i64 D.size, .int .i64 D.load, .int .i64 D.wind, .slice A1 D.ns k1, .int .i64 D.pitch, .int .i64 D.roll, .int .i64 D.heave, .int .i64 D.fire, .slice A2 D.nh k2, .slice A3 D.nu k3, .int .i64 M.places, .int .i64 M.any.a0, .int .i64 M.any.a1, .int .i64 M.any.a2, .int .i64 M.any.a3, .int .i64 M.any.a4, .int .i64 M.any.a5, .bool M.any.i, .bool M.any.s, .int .i64 M.mw, .int .i64 M.ms, .int .i64 M.mc, .slice A4 M.n k4, .slice A5 M.m k5, .slice A6 Mo.np k6, .slice A7 Mo.nr k7, .slice A8 Mo.nv k8] 39))
      clear HX HW HD1 HB
      have HX := nHX
      have HW := nHW
      have HD1 := nHD1
      have HB := nHB
      clear nHX nHW nHD1 nHB
      generalize w1.alloc (.cells #[.int .i64 D.size, .int .i64 D.load, .int .i64 D.wind, .slice A1 D.ns k1, .int .i64 D.pitch, .int .i64 D.roll, .int .i64 D.heave, .int .i64 D.fire, .slice A2 D.nh k2, .slice A3 D.nu k3, .int .i64 M.places, .int .i64 M.any.a0, .int .i64 M.any.a1, .int .i64 M.any.a2, .int .i64 M.any.a3, .int .i64 M.any.a4, .int .i64 M.any.a5, .bool M.any.i, .bool M.any.s, .int .i64 M.mw, .int .i64 M.ms, .int .i64 M.mc, .slice A4 M.n k4, .slice A5 M.m k5, .slice A6 Mo.np k6, .slice A7 Mo.nr k7, .slice A8 Mo.nv k8] 39) = W2 at *
      generalize w1.heap.size = gHQ at *
      have HQ := Lib.hid bHQ
      clear bHQ
      refine (H1.out _ _ _ _ HD1.out).mono ?_
      rintro e w1 ⟨rfl, hb1⟩
      have nHX := Lib.hid (HX.out.below hb1)
      have nHW := Lib.hid (HW.out.below hb1)
      have nHD1 := Lib.hid (HD1.out.below hb1)
      have nHQ := Lib.hid (HQ.out.below hb1)
      have nHB := Lib.hid (bthen HB.out hb1)
      clear HX HW HD1 HQ HB hb1
      have HX := nHX
      have HW := nHW
      have HD1 := nHD1
      have HQ := nHQ
      have HB := nHB
      clear nHX nHW nHD1 nHQ nHB
      go_wp2_with (first | (refine wpl_row rfl 28 (.tmp 4) rfl _ rfl #[.int .i64 lo, .int .i64 hi] 2 HW.out Tryz.rowSpan rfl ?_; simp only [Act.put]) | (go_at_call 12; refine (HV1.out _).mono ?_; rintro e w2 ⟨rfl, hb2⟩; have nHX := Lib.hid (HX.out.below hb2); have nHW := Lib.hid (HW.out.below hb2); have nHD1 := Lib.hid (HD1.out.below hb2); have nHQ := Lib.hid (HQ.out.below hb2); have nHB := Lib.hid (bthen HB.out hb2); clear HX HW HD1 HQ HB hb2; have HX := nHX; have HW := nHW; have HD1 := nHD1; have HQ := nHQ; have HB := nHB; clear nHX nHW nHD1 nHQ nHB; have cW0 := HW.out.cell 0; have cW1 := HW.out.cell 1; simp only [List.getElem?_toArray, List.getElem?_cons_succ, List.getElem?_cons_zero] at cW0 cW1))
      (refine wp_region_drawnt 10 (by kernel_rfl) (by kernel_rfl) ?_; simp only [List.take_succ_cons, List.take_zero, List.drop_succ_cons, List.drop_zero]; (repeat (go_big_quiet_step ( fail))); refine wpQuiet_nil ?_; rintro _ ⟨nq, rfl⟩)
      go_wp2_with (fail)
      clear hK
      have nW := Lib.hid (show Blk (w2.drewN nq) _ _ _ from HW.out)
      have nX := Lib.hid (show Blk (w2.drewN nq) _ _ _ from HX.out)
      have nD := Lib.hid (HD1.out.below (bdn (RowKit.Below.refl _ w2) nq))
      have nQ := Lib.hid (show Blk (w2.drewN nq) _ _ _ from HQ.out)
      have nB := Lib.hid (bdn HB.out nq)
      clear HW HX HD1 HQ HB cW0 cW1
      generalize w2.drewN nq = w3 at *
      have zW := nW.out.lt
      have hJW := Lib.hid (fun (b : World) (h : RowKit.Below w3.heap.size w3.drew b) => (show Blk b (w.heap.size + 1) 28 #[.int .i64 lo, .int .i64 hi] from Blk.under (W := w3.drew) nW.out h zW))
      have h8 : True := trivial
      refine wp_region_specU (dpG w3.drew.heap.size) (fun b => RowKit.Below w3.drew.heap.size w3.drew b) dpG_size dpG_J (RowKit.Below.refl _ _) 11 (dpR w3.drew.heap.size (w.heap.size + 1) lo hi (lo + K)) (fun i => decide (i = 8) || decide (i = 9)) (by kernel_rfl) (by kernel_rfl) dpG_R (dpG_U (List.contains_iff_mem.1 (by kernel_rfl))) ?hopu183 ?htailu183
      case hopu183 =>
        simp only [List.take_succ_cons, List.take_zero, allOps]
        refine ⟨?_, ?_, ?_, ?_, ?_, ?_, ?_, ?_, ?_, ?_, ?_, trivial⟩
        all_goals intro u A w1 hA hj hd
        all_goals simp only [putAll, dstOf, List.getElem?_toArray, List.getElem?_cons_succ, List.getElem?_cons_zero, Option.bind_some, Option.bind, Act.put, List.setIfInBounds_toArray, List.set_cons_succ, List.set_cons_zero] at hA; subst hA
        · clear hd
          go_wp2
          exact ⟨_, rfl, (RowKit.Below.refl _ _), rfl, fun h => absurd h (by decide)⟩
        · have d0 : u 0 = _ := hd 0 (by omega) (by kernel_rfl)
          clear hd
          try simp only [d0]
          try clear d0
          have cW0 := (hJW.out _ hj).cell 0
          go_wp2
          exact ⟨_, rfl, (RowKit.Below.refl _ _), rfl, fun h => absurd h (by decide)⟩
        · clear hd
          go_wp2
          exact ⟨_, rfl, (RowKit.Below.refl _ _), rfl, fun h => absurd h (by decide)⟩
        · have d1 : u 1 = _ := hd 1 (by omega) (by kernel_rfl)
          have d2 : u 2 = _ := hd 2 (by omega) (by kernel_rfl)
          clear hd
          try simp only [d1, d2]
          try clear d1 d2
          go_wp2
          exact ⟨_, rfl, (RowKit.Below.refl _ _), rfl, fun h => absurd h (by decide)⟩
        · clear hd
          go_wp2
          exact ⟨_, rfl, (RowKit.Below.refl _ _), rfl, fun h => absurd h (by decide)⟩
        · clear hd
          go_wp2
          exact ⟨_, rfl, (RowKit.Below.refl _ _), rfl, fun h => absurd h (by decide)⟩
        · have d5 : u 5 = _ := hd 5 (by omega) (by kernel_rfl)
          clear hd
          try simp only [d5]
          try clear d5
          have cW1 := (hJW.out _ hj).cell 1
          go_wp2
          exact ⟨_, rfl, (RowKit.Below.refl _ _), rfl, fun h => absurd h (by decide)⟩
        · have d4 : u 4 = _ := hd 4 (by omega) (by kernel_rfl)
          have d6 : u 6 = _ := hd 6 (by omega) (by kernel_rfl)
          clear hd
          try simp only [d4, d6]
          try clear d4 d6
          go_wp2
          exact ⟨_, rfl, (RowKit.Below.refl _ _), rfl, fun h => absurd h (by decide)⟩
        · clear hd
          go_wp2
          exact ⟨_, rfl, bal (RowKit.Below.refl _ _) _, ⟨_, _, rfl, hj.size, rfl, Blk.new _ _ _⟩, fun _ => ⟨_, rfl, Nat.le_refl _, by simp⟩⟩
        · clear hd
          go_wp2
          exact ⟨_, rfl, bal (RowKit.Below.refl _ _) _, ⟨_, _, rfl, hj.size, rfl, Blk.new _ _ _⟩, fun _ => ⟨_, rfl, Nat.le_refl _, by simp⟩⟩
        · have d0 : u 0 = _ := hd 0 (by omega) (by kernel_rfl)
          have d1 : u 1 = _ := hd 1 (by omega) (by kernel_rfl)
          have d2 : u 2 = _ := hd 2 (by omega) (by kernel_rfl)
          have d3 : u 3 = _ := hd 3 (by omega) (by kernel_rfl)
          have d8 := hd 8 (by omega) (by kernel_rfl)
          have d9 := hd 9 (by omega) (by kernel_rfl)
          clear hd
          try simp only [d0, d1, d2, d3]
          try clear d0 d1 d2 d3
          obtain ⟨g, c8, e8, z8, s8, b8⟩ := d8
          rw [e8]
          refine wpList_store_row rfl 28 _ _ rfl g #[.int .i64 lo, .int .i64 (lo + K)] rfl rfl 28 c8 b8 Tryz.sizeSp s8 (by simp [Value.oneCell']) ?_
          exact ⟨_, rfl, ⟨g, _, z8, rfl, rfl⟩, ⟨g, e8, z8, wblk_setRow b8⟩, fun h => absurd h (by decide)⟩
      case htailu183 =>
        intro u A w1 hA hj hd hf
        simp only [putAll, dstOf, List.getElem?_toArray, List.getElem?_cons_succ, List.getElem?_cons_zero, Option.bind_some, Option.bind, Act.put, List.setIfInBounds_toArray, List.set_cons_succ, List.set_cons_zero] at hA; subst hA
        have e0 : u 0 = _ := hd 0 (by omega)
        have e1 : u 1 = _ := hd 1 (by omega)
        have e2 : u 2 = _ := hd 2 (by omega)
        have e3 : u 3 = _ := hd 3 (by omega)
        have e4 : u 4 = _ := hd 4 (by omega)
        have e5 : u 5 = _ := hd 5 (by omega)
        have e6 : u 6 = _ := hd 6 (by omega)
        have e7 : u 7 = _ := hd 7 (by omega)
        have p8 := hd 8 (by omega)
        have p9 := hd 9 (by omega)
        have p10 := hd 10 (by omega)
        have ne8_9 := hf 8 9 (by omega) (by omega) (by omega) rfl rfl
        try simp only [e0, e1, e2, e3, e4, e5, e6, e7]
        try clear e0 e1 e2 e3 e4 e5 e6 e7
        clear hd hf
        obtain ⟨gL, eL, zL, bL⟩ := p10
        obtain ⟨gR, cR, eR, zR, sR, bR⟩ := p9
        have hne : gL ≠ gR := fun h => ne8_9 (by rw [eL, eR, h])
        simp only [eL, eR]
        clear p8 ne8_9 eL eR
        dsimp only [List.drop]
        refine wpList_store_row rfl 28 _ _ rfl gR #[.int .i64 (lo + K), .int .i64 hi] rfl rfl 28 cR bR Tryz.sizeSp sR (by simp [Value.oneCell']) ?_
        have H4 := Lib.hid (bthen (RowKit.Below.drew (RowKit.Below.refl _ w3)) (below_row hj zR #[.int .i64 (lo + K), .int .i64 hi]))
        have HL := Lib.hid (show Blk (w1.setRow gR #[.int .i64 (lo + K), .int .i64 hi]) gL 28 #[.int .i64 lo, .int .i64 (lo + K)] from wblk_setRow_ne bL hne)
        have HR := Lib.hid (show Blk (w1.setRow gR #[.int .i64 (lo + K), .int .i64 hi]) gR 28 #[.int .i64 (lo + K), .int .i64 hi] from wblk_setRow bR)
        clear zL zR sR bL bR hne hJW zW
        generalize w1.setRow gR #[.int .i64 (lo + K), .int .i64 hi] = w4 at *
        have HW := Lib.hid (nW.out.below H4.out)
        have HX := Lib.hid (nX.out.below H4.out)
        have HQ := Lib.hid (nQ.out.below H4.out)
        have HD1 := Lib.hid (nD.out.below H4.out)
        have HB := Lib.hid (bthen nB.out H4.out)
        clear nW nX nQ nD nB H4 hj
        have tok2 : True := trivial
        go_wp2_with (first | (refine wpl_mid rfl 26 _ rfl _ 0 rfl 39 #[.int .i64 D.size, .int .i64 D.load, .int .i64 D.wind, .slice A1 D.ns k1, .int .i64 D.pitch, .int .i64 D.roll, .int .i64 D.heave, .int .i64 D.fire, .slice A2 D.nh k2, .slice A3 D.nu k3, .int .i64 M.places, .int .i64 M.any.a0, .int .i64 M.any.a1, .int .i64 M.any.a2, .int .i64 M.any.a3, .int .i64 M.any.a4, .int .i64 M.any.a5, .bool M.any.i, .bool M.any.s, .int .i64 M.mw, .int .i64 M.ms, .int .i64 M.mc, .slice A4 M.n k4, .slice A5 M.m k5, .slice A6 Mo.np k6, .slice A7 Mo.nr k7, .slice A8 Mo.nv k8] #[.int .i64 D.size, .int .i64 D.load, .int .i64 D.wind, .slice A1 D.ns k1, .int .i64 D.pitch, .int .i64 D.roll, .int .i64 D.heave, .int .i64 D.fire, .slice A2 D.nh k2, .slice A3 D.nu k3] 10 HQ.out Tryz.rowDek [] [.int .i64 M.places, .int .i64 M.any.a0, .int .i64 M.any.a1, .int .i64 M.any.a2, .int .i64 M.any.a3, .int .i64 M.any.a4, .int .i64 M.any.a5, .bool M.any.i, .bool M.any.s, .int .i64 M.mw, .int .i64 M.ms, .int .i64 M.mc, .slice A4 M.n k4, .slice A5 M.m k5, .slice A6 Mo.np k6, .slice A7 Mo.nr k7, .slice A8 Mo.nv k8] rfl rfl rfl ?_; simp only [Act.put]) | (refine wpl_row rfl 28 (.tmp 12) rfl _ rfl #[.int .i64 lo, .int .i64 (lo + K)] 2 HL.out Tryz.rowSpan rfl ?_; simp only [Act.put]) | (refine wpl_row rfl 28 (.tmp 13) rfl _ rfl #[.int .i64 (lo + K), .int .i64 hi] 2 HR.out Tryz.rowSpan rfl ?_; simp only [Act.put]) | (go_at_call 13; (with_reducible refine (H2.out _ _ _ _ HD1.out).mono ?_); rintro e w1 ⟨rfl, hb1⟩; have nHX := Lib.hid (HX.out.below hb1); have nHW := Lib.hid (HW.out.below hb1); have nHD1 := Lib.hid (HD1.out.below hb1); have nHQ := Lib.hid (HQ.out.below hb1); have nHL := Lib.hid (HL.out.below hb1); have nHR := Lib.hid (HR.out.below hb1); have nHB := Lib.hid (bthen HB.out hb1); have zz1 := hb1.size; clear HX HW HD1 HQ HL HR HB hb1; have HX := nHX; have HW := nHW; have HD1 := nHD1; have HQ := nHQ; have HL := nHL; have HR := nHR; have HB := nHB; clear nHX nHW nHD1 nHQ nHL nHR nHB) | (go_at_call 13; (with_reducible refine (H3.out _ _ _ _ HD1.out).mono ?_); rintro e w1 ⟨rfl, hb1⟩; have nHX := Lib.hid (HX.out.below hb1); have nHW := Lib.hid (HW.out.below hb1); have nHD1 := Lib.hid (HD1.out.below hb1); have nHQ := Lib.hid (HQ.out.below hb1); have nHL := Lib.hid (HL.out.below hb1); have nHR := Lib.hid (HR.out.below hb1); have nHB := Lib.hid (bthen HB.out hb1); have zz1 := hb1.size; clear HX HW HD1 HQ HL HR HB hb1; have HX := nHX; have HW := nHW; have HD1 := nHD1; have HQ := nHQ; have HL := nHL; have HR := nHR; have HB := nHB; clear nHX nHW nHD1 nHQ nHL nHR nHB) | (go_at_call 14; (with_reducible refine (HH.out _).mono ?_); rintro e w1 ⟨rfl, hb1⟩; have nHX := Lib.hid (HX.out.below hb1); have nHW := Lib.hid (HW.out.below hb1); have nHD1 := Lib.hid (HD1.out.below hb1); have nHQ := Lib.hid (HQ.out.below hb1); have nHB := Lib.hid (bthen HB.out hb1); have zz1 := hb1.size; clear HX HW HD1 HQ HB hb1; have HX := nHX; have HW := nHW; have HD1 := nHD1; have HQ := nHQ; have HB := nHB; clear nHX nHW nHD1 nHQ nHB) | (have _t := tok2; refine wpl_store_newW rfl 28 (.tmp 18) _ rfl #[.int .i64 lo, .int .i64 hi] _ _ rfl ?_ rfl Tryz.sizeSp rfl (by simp [Value.oneCell']) ?_; (focus (simp; done)); simp only [Act.put]; clear tok2; have bHN := Blk.new w1 28 #[.int .i64 lo, .int .i64 hi]; have nHX := Lib.hid (HX.out.alloc (.cells #[.int .i64 lo, .int .i64 hi] 28)); have nHW := Lib.hid (HW.out.alloc (.cells #[.int .i64 lo, .int .i64 hi] 28)); have nHB := Lib.hid (bal HB.out (.cells #[.int .i64 lo, .int .i64 hi] 28)); clear HX HW HB; have HX := nHX; have HW := nHW; have HB := nHB; clear nHX nHW nHB; generalize w1.alloc (.cells #[.int .i64 lo, .int .i64 hi] 28) = W2 at *; generalize w1.heap.size = gHN at *; have HN := Lib.hid bHN; clear bHN; (try clear zHX); have zHX := HX.out.lt; (try clear cHX2); have cHX2 := HX.out.cell 2) | (refine wpl_row_g ?_ 28 (.tmp 18) rfl _ rfl #[.int .i64 lo, .int .i64 hi] 2 HN.out Tryz.rowSpan rfl ?_; (focus rfl); simp only [Act.put]) | (refine wpl_row_g ?_ 28 (.tmp 4) rfl _ rfl #[.int .i64 lo, .int .i64 hi] 2 HW.out Tryz.rowSpan rfl ?_; (focus rfl); simp only [Act.put]) | (go_at_call 9; (with_reducible refine (dworks_c _).mono ?_); rintro e w1 ⟨rfl, hb1⟩; have nHX := Lib.hid (HX.out.below hb1); have nHB := Lib.hid (bthen HB.out hb1); have zz1 := hb1.size; clear HX HB hb1; have HX := nHX; have HB := nHB; clear nHX nHB))
        go_ret
        exact ⟨rfl, HB.out⟩
    · have h2 : (limE D lo hi != 0) = true := by simpa using he
      have h1 := fun w1 vA vB vC h => dLimit_c D vA vB vC lo hi w1 h
      clear he
      generalize limE D lo hi = E at *
      generalize limO D lo hi = V at *
      have H1 := Lib.hid h1
      clear h1
      go_enter Tryz.func4, Tryz.ntmps4
      go_wp2_with (first | (refine wpl_row rfl 39 _ rfl _ rfl #[.int .i64 D.size, .int .i64 D.load, .int .i64 D.wind, vA, .int .i64 D.pitch, .int .i64 D.roll, .int .i64 D.heave, .int .i64 D.fire, vB, vC, .int .i64 M.places, .int .i64 M.any.a0, .int .i64 M.any.a1, .int .i64 M.any.a2, .int .i64 M.any.a3, .int .i64 M.any.a4, .int .i64 M.any.a5, .bool M.any.i, .bool M.any.s, .int .i64 M.mw, .int .i64 M.ms, .int .i64 M.mc, vF, vS, vP, vR, vV] 27 ?_ Tryz.rowPl rfl ?_; (focus exact (by repeat (first | (refine Blk.newAt _ _ _ ?_; first | rfl | (simp; done)) | refine Blk.alloc ?_ _))); simp only [Act.put]))
      have bHX : Blk ((w.alloc (.cells #[.int .i64 D.size, .int .i64 D.load, .int .i64 D.wind, vA, .int .i64 D.pitch, .int .i64 D.roll, .int .i64 D.heave, .int .i64 D.fire, vB, vC, .int .i64 M.places, .int .i64 M.any.a0, .int .i64 M.any.a1, .int .i64 M.any.a2, .int .i64 M.any.a3, .int .i64 M.any.a4, .int .i64 M.any.a5, .bool M.any.i, .bool M.any.s, .int .i64 M.mw, .int .i64 M.ms, .int .i64 M.mc, vF, vS, vP, vR, vV] 39)).alloc (.cells #[.int .i64 lo, .int .i64 hi] 28)) (w.heap.size) 39 #[.int .i64 D.size, .int .i64 D.load, .int .i64 D.wind, vA, .int .i64 D.pitch, .int .i64 D.roll, .int .i64 D.heave, .int .i64 D.fire, vB, vC, .int .i64 M.places, .int .i64 M.any.a0, .int .i64 M.any.a1, .int .i64 M.any.a2, .int .i64 M.any.a3, .int .i64 M.any.a4, .int .i64 M.any.a5, .bool M.any.i, .bool M.any.s, .int .i64 M.mw, .int .i64 M.ms, .int .i64 M.mc, vF, vS, vP, vR, vV] := (by repeat (first | (refine Blk.newAt _ _ _ ?_; first | rfl | (simp; done)) | refine Blk.alloc ?_ _))
      have bHW : Blk ((w.alloc (.cells #[.int .i64 D.size, .int .i64 D.load, .int .i64 D.wind, vA, .int .i64 D.pitch, .int .i64 D.roll, .int .i64 D.heave, .int .i64 D.fire, vB, vC, .int .i64 M.places, .int .i64 M.any.a0, .int .i64 M.any.a1, .int .i64 M.any.a2, .int .i64 M.any.a3, .int .i64 M.any.a4, .int .i64 M.any.a5, .bool M.any.i, .bool M.any.s, .int .i64 M.mw, .int .i64 M.ms, .int .i64 M.mc, vF, vS, vP, vR, vV] 39)).alloc (.cells #[.int .i64 lo, .int .i64 hi] 28)) (w.heap.size + 1) 28 #[.int .i64 lo, .int .i64 hi] := (by repeat (first | (refine Blk.newAt _ _ _ ?_; first | rfl | (simp; done)) | refine Blk.alloc ?_ _))
      have bHB : Below w.heap.size w ((w.alloc (.cells #[.int .i64 D.size, .int .i64 D.load, .int .i64 D.wind, vA, .int .i64 D.pitch, .int .i64 D.roll, .int .i64 D.heave, .int .i64 D.fire, vB, vC, .int .i64 M.places, .int .i64 M.any.a0, .int .i64 M.any.a1, .int .i64 M.any.a2, .int .i64 M.any.a3, .int .i64 M.any.a4, .int .i64 M.any.a5, .bool M.any.i, .bool M.any.s, .int .i64 M.mw, .int .i64 M.ms, .int .i64 M.mc, vF, vS, vP, vR, vV] 39)).alloc (.cells #[.int .i64 lo, .int .i64 hi] 28)) := (by repeat' (first | exact Below.refl _ _ | assumption | refine Below.drew ?_ | refine bdn ?_ _ | refine bal ?_ _ | refine Below.setCell ?_ (by first | (simp; done) | omega | (simp; omega)) _))
      generalize ((w.alloc (.cells #[.int .i64 D.size, .int .i64 D.load, .int .i64 D.wind, vA, .int .i64 D.pitch, .int .i64 D.roll, .int .i64 D.heave, .int .i64 D.fire, vB, vC, .int .i64 M.places, .int .i64 M.any.a0, .int .i64 M.any.a1, .int .i64 M.any.a2, .int .i64 M.any.a3, .int .i64 M.any.a4, .int .i64 M.any.a5, .bool M.any.i, .bool M.any.s, .int .i64 M.mw, .int .i64 M.ms, .int .i64 M.mc, vF, vS, vP, vR, vV] 39)).alloc (.cells #[.int .i64 lo, .int .i64 hi] 28)) = W at *
      have zW := bHW.lt
      have HX := Lib.hid bHX
      have HW := Lib.hid bHW
      have HB := Lib.hid bHB
      clear bHX bHW bHB
      go_wp2_with (first | (refine wpl_row rfl 39 _ rfl _ rfl #[.int .i64 D.size, .int .i64 D.load, .int .i64 D.wind, vA, .int .i64 D.pitch, .int .i64 D.roll, .int .i64 D.heave, .int .i64 D.fire, vB, vC, .int .i64 M.places, .int .i64 M.any.a0, .int .i64 M.any.a1, .int .i64 M.any.a2, .int .i64 M.any.a3, .int .i64 M.any.a4, .int .i64 M.any.a5, .bool M.any.i, .bool M.any.s, .int .i64 M.mw, .int .i64 M.ms, .int .i64 M.mc, vF, vS, vP, vR, vV] 27 HX.out Tryz.rowPl rfl ?_; simp only [Act.put]) | (go_at_call 8; (with_reducible refine (HFR.out _ (HD.out.below HB.out) (HA.out.below HB.out) (HV.out.below HB.out)).mono ?_); rintro e w1 ⟨rfl, hb1⟩; have nHX := Lib.hid (HX.out.below hb1); have nHW := Lib.hid (HW.out.below hb1); have nHB := Lib.hid (bthen HB.out hb1); have zz1 := hb1.size; clear HX HW HB hb1; have HX := nHX; have HW := nHW; have HB := nHB; clear nHX nHW nHB) | (go_at_call 9; (with_reducible refine (dworks_c _).mono ?_); rintro e w1 ⟨rfl, hb1⟩; have nHX := Lib.hid (HX.out.below hb1); have nHW := Lib.hid (HW.out.below hb1); have nHB := Lib.hid (bthen HB.out hb1); have zz1 := hb1.size; clear HX HW HB hb1; have HX := nHX; have HW := nHW; have HB := nHB; clear nHX nHW nHB))
      refine (HOW.out _ (HD.out.below HB.out) (HA.out.below HB.out) (HV.out.below HB.out) HFF.out).mono ?_
      rintro e w1 ⟨A1, A2, A3, A4, A5, A6, A7, A8, k1, k2, k3, k4, k5, k6, k7, k8, rfl, hb1, q1, q2, q3⟩
      have HD1 := Lib.hid q1
      clear q1 q2 q3
      have nHX := Lib.hid (HX.out.below hb1)
      have nHW := Lib.hid (HW.out.below hb1)
      have nHB := Lib.hid (bthen HB.out hb1)
      clear HX HW HB hb1
      have HX := nHX
      have HW := nHW
      have HB := nHB
      clear nHX nHW nHB
      have tok : True := trivial
      go_wp2_with (first | (have _t := tok; refine wpl_store_newW rfl 39 _ _ rfl #[.int .i64 D.size, .int .i64 D.load, .int .i64 D.wind, .slice A1 D.ns k1, .int .i64 D.pitch, .int .i64 D.roll, .int .i64 D.heave, .int .i64 D.fire, .slice A2 D.nh k2, .slice A3 D.nu k3, .int .i64 M.places, .int .i64 M.any.a0, .int .i64 M.any.a1, .int .i64 M.any.a2, .int .i64 M.any.a3, .int .i64 M.any.a4, .int .i64 M.any.a5, .bool M.any.i, .bool M.any.s, .int .i64 M.mw, .int .i64 M.ms, .int .i64 M.mc, .slice A4 M.n k4, .slice A5 M.m k5, .slice A6 Mo.np k6, .slice A7 Mo.nr k7, .slice A8 Mo.nv k8] _ _ rfl ?_ rfl Tryz.sizePl rfl (oneP D M Mo _ _ _ _ _ _ _ _ _ _ _ _ _ _ _ _) ?_; (focus (simp; done)); simp only [Act.put]; clear tok) | (refine wpl_mid rfl 26 _ rfl _ 0 rfl 39 #[.int .i64 D.size, .int .i64 D.load, .int .i64 D.wind, .slice A1 D.ns k1, .int .i64 D.pitch, .int .i64 D.roll, .int .i64 D.heave, .int .i64 D.fire, .slice A2 D.nh k2, .slice A3 D.nu k3, .int .i64 M.places, .int .i64 M.any.a0, .int .i64 M.any.a1, .int .i64 M.any.a2, .int .i64 M.any.a3, .int .i64 M.any.a4, .int .i64 M.any.a5, .bool M.any.i, .bool M.any.s, .int .i64 M.mw, .int .i64 M.ms, .int .i64 M.mc, .slice A4 M.n k4, .slice A5 M.m k5, .slice A6 Mo.np k6, .slice A7 Mo.nr k7, .slice A8 Mo.nv k8] #[.int .i64 D.size, .int .i64 D.load, .int .i64 D.wind, .slice A1 D.ns k1, .int .i64 D.pitch, .int .i64 D.roll, .int .i64 D.heave, .int .i64 D.fire, .slice A2 D.nh k2, .slice A3 D.nu k3] 10 (Blk.new _ _ _) Tryz.rowDek [] [.int .i64 M.places, .int .i64 M.any.a0, .int .i64 M.any.a1, .int .i64 M.any.a2, .int .i64 M.any.a3, .int .i64 M.any.a4, .int .i64 M.any.a5, .bool M.any.i, .bool M.any.s, .int .i64 M.mw, .int .i64 M.ms, .int .i64 M.mc, .slice A4 M.n k4, .slice A5 M.m k5, .slice A6 Mo.np k6, .slice A7 Mo.nr k7, .slice A8 Mo.nv k8] rfl rfl rfl ?_; simp only [Act.put]) | (refine wpl_row rfl 28 _ rfl _ rfl #[.int .i64 lo, .int .i64 hi] 2 (HW.out.alloc _) Tryz.rowSpan rfl ?_; simp only [Act.put]))
      have bHQ := Blk.new w1 39 #[.int .i64 D.size, .int .i64 D.load, .int .i64 D.wind, .slice A1 D.ns k1, .int .i64 D.pitch, .int .i64 D.roll, .int .i64 D.heave, .int .i64 D.fire, .slice A2 D.nh k2, .slice A3 D.nu k3, .int .i64 M.places, .int .i64 M.any.a0, .int .i64 M.any.a1, .int .i64 M.any.a2, .int .i64 M.any.a3, .int .i64 M.any.a4, .int .i64 M.any.a5, .bool M.any.i, .bool M.any.s, .int .i64 M.mw, .int .i64 M.ms, .int .i64 M.mc, .slice A4 M.n k4, .slice A5 M.m k5, .slice A6 Mo.np k6, .slice A7 Mo.nr k7, .slice A8 Mo.nv k8]
      have nHX := Lib.hid (HX.out.alloc (.cells #[.int .i64 D.size, .int .i64 D.load, .int .i64 D.wind, .slice A1 D.ns k1, .int .i64 D.pitch, .int .i64 D.roll, .int .i64 D.heave, .int .i64 D.fire, .slice A2 D.nh k2, .slice A3 D.nu k3, .int .i64 M.places, .int .i64 M.any.a0, .int .i64 M.any.a1, .int .i64 M.any.a2, .int .i64 M.any.a3, .int .i64 M.any.a4, .int .i64 M.any.a5, .bool M.any.i, .bool M.any.s, .int .i64 M.mw, .int .i64 M.ms, .int .i64 M.mc, .slice A4 M.n k4, .slice A5 M.m k5, .slice A6 Mo.np k6, .slice A7 Mo.nr k7, .slice A8 Mo.nv k8] 39))
      have nHW := Lib.hid (HW.out.alloc (.cells #[.int .i64 D.size, .int .i64 D.load, .int .i64 D.wind, .slice A1 D.ns k1, .int .i64 D.pitch, .int .i64 D.roll, .int .i64 D.heave, .int .i64 D.fire, .slice A2 D.nh k2, .slice A3 D.nu k3, .int .i64 M.places, .int .i64 M.any.a0, .int .i64 M.any.a1, .int .i64 M.any.a2, .int .i64 M.any.a3, .int .i64 M.any.a4, .int .i64 M.any.a5, .bool M.any.i, .bool M.any.s, .int .i64 M.mw, .int .i64 M.ms, .int .i64 M.mc, .slice A4 M.n k4, .slice A5 M.m k5, .slice A6 Mo.np k6, .slice A7 Mo.nr k7, .slice A8 Mo.nv k8] 39))
      have nHD1 := Lib.hid (HD1.out.alloc (.cells #[.int .i64 D.size, .int .i64 D.load, .int .i64 D.wind, .slice A1 D.ns k1, .int .i64 D.pitch, .int .i64 D.roll, .int .i64 D.heave, .int .i64 D.fire, .slice A2 D.nh k2, .slice A3 D.nu k3, .int .i64 M.places, .int .i64 M.any.a0, .int .i64 M.any.a1, .int .i64 M.any.a2, .int .i64 M.any.a3, .int .i64 M.any.a4, .int .i64 M.any.a5, .bool M.any.i, .bool M.any.s, .int .i64 M.mw, .int .i64 M.ms, .int .i64 M.mc, .slice A4 M.n k4, .slice A5 M.m k5, .slice A6 Mo.np k6, .slice A7 Mo.nr k7, .slice A8 Mo.nv k8] 39))
      have nHB := Lib.hid (bal HB.out (.cells #[.int .i64 D.size, .int .i64 D.load, .int .i64 D.wind, .slice A1 D.ns k1, .int .i64 D.pitch, .int .i64 D.roll, .int .i64 D.heave, .int .i64 D.fire, .slice A2 D.nh k2, .slice A3 D.nu k3, .int .i64 M.places, .int .i64 M.any.a0, .int .i64 M.any.a1, .int .i64 M.any.a2, .int .i64 M.any.a3, .int .i64 M.any.a4, .int .i64 M.any.a5, .bool M.any.i, .bool M.any.s, .int .i64 M.mw, .int .i64 M.ms, .int .i64 M.mc, .slice A4 M.n k4, .slice A5 M.m k5, .slice A6 Mo.np k6, .slice A7 Mo.nr k7, .slice A8 Mo.nv k8] 39))
      clear HX HW HD1 HB
      have HX := nHX
      have HW := nHW
      have HD1 := nHD1
      have HB := nHB
      clear nHX nHW nHD1 nHB
      generalize w1.alloc (.cells #[.int .i64 D.size, .int .i64 D.load, .int .i64 D.wind, .slice A1 D.ns k1, .int .i64 D.pitch, .int .i64 D.roll, .int .i64 D.heave, .int .i64 D.fire, .slice A2 D.nh k2, .slice A3 D.nu k3, .int .i64 M.places, .int .i64 M.any.a0, .int .i64 M.any.a1, .int .i64 M.any.a2, .int .i64 M.any.a3, .int .i64 M.any.a4, .int .i64 M.any.a5, .bool M.any.i, .bool M.any.s, .int .i64 M.mw, .int .i64 M.ms, .int .i64 M.mc, .slice A4 M.n k4, .slice A5 M.m k5, .slice A6 Mo.np k6, .slice A7 Mo.nr k7, .slice A8 Mo.nv k8] 39) = W2 at *
      generalize w1.heap.size = gHQ at *
      have HQ := Lib.hid bHQ
      clear bHQ
      refine (H1.out _ _ _ _ HD1.out).mono ?_
      rintro e w1 ⟨rfl, hb1⟩
      have nHX := Lib.hid (HX.out.below hb1)
      have nHW := Lib.hid (HW.out.below hb1)
      have nHD1 := Lib.hid (HD1.out.below hb1)
      have nHQ := Lib.hid (HQ.out.below hb1)
      have nHB := Lib.hid (bthen HB.out hb1)
      clear HX HW HD1 HQ HB hb1
      have HX := nHX
      have HW := nHW
      have HD1 := nHD1
      have HQ := nHQ
      have HB := nHB
      clear nHX nHW nHD1 nHQ nHB
      go_wp2_with (first | (go_at_call 9; (with_reducible refine (dworks_c _).mono ?_); rintro e w1 ⟨rfl, hb1⟩; have nHQ := Lib.hid (HQ.out.below hb1); have nHW := Lib.hid (HW.out.below hb1); have nHB := Lib.hid (bthen HB.out hb1); have zz1 := hb1.size; clear HQ HW HB hb1; have HQ := nHQ; have HW := nHW; have HB := nHB; clear nHQ nHW nHB))
      go_ret
      exact ⟨rfl, HB.out⟩
  · rw [hf] at HFR
    clear hf
    go_enter Tryz.func4, Tryz.ntmps4
    go_wp2_with (first | (refine wpl_row rfl 39 _ rfl _ rfl #[.int .i64 D.size, .int .i64 D.load, .int .i64 D.wind, vA, .int .i64 D.pitch, .int .i64 D.roll, .int .i64 D.heave, .int .i64 D.fire, vB, vC, .int .i64 M.places, .int .i64 M.any.a0, .int .i64 M.any.a1, .int .i64 M.any.a2, .int .i64 M.any.a3, .int .i64 M.any.a4, .int .i64 M.any.a5, .bool M.any.i, .bool M.any.s, .int .i64 M.mw, .int .i64 M.ms, .int .i64 M.mc, vF, vS, vP, vR, vV] 27 ?_ Tryz.rowPl rfl ?_; (focus exact (by repeat (first | (refine Blk.newAt _ _ _ ?_; first | rfl | (simp; done)) | refine Blk.alloc ?_ _))); simp only [Act.put]))
    have bHX : Blk ((w.alloc (.cells #[.int .i64 D.size, .int .i64 D.load, .int .i64 D.wind, vA, .int .i64 D.pitch, .int .i64 D.roll, .int .i64 D.heave, .int .i64 D.fire, vB, vC, .int .i64 M.places, .int .i64 M.any.a0, .int .i64 M.any.a1, .int .i64 M.any.a2, .int .i64 M.any.a3, .int .i64 M.any.a4, .int .i64 M.any.a5, .bool M.any.i, .bool M.any.s, .int .i64 M.mw, .int .i64 M.ms, .int .i64 M.mc, vF, vS, vP, vR, vV] 39)).alloc (.cells #[.int .i64 lo, .int .i64 hi] 28)) (w.heap.size) 39 #[.int .i64 D.size, .int .i64 D.load, .int .i64 D.wind, vA, .int .i64 D.pitch, .int .i64 D.roll, .int .i64 D.heave, .int .i64 D.fire, vB, vC, .int .i64 M.places, .int .i64 M.any.a0, .int .i64 M.any.a1, .int .i64 M.any.a2, .int .i64 M.any.a3, .int .i64 M.any.a4, .int .i64 M.any.a5, .bool M.any.i, .bool M.any.s, .int .i64 M.mw, .int .i64 M.ms, .int .i64 M.mc, vF, vS, vP, vR, vV] := (by repeat (first | (refine Blk.newAt _ _ _ ?_; first | rfl | (simp; done)) | refine Blk.alloc ?_ _))
    have bHW : Blk ((w.alloc (.cells #[.int .i64 D.size, .int .i64 D.load, .int .i64 D.wind, vA, .int .i64 D.pitch, .int .i64 D.roll, .int .i64 D.heave, .int .i64 D.fire, vB, vC, .int .i64 M.places, .int .i64 M.any.a0, .int .i64 M.any.a1, .int .i64 M.any.a2, .int .i64 M.any.a3, .int .i64 M.any.a4, .int .i64 M.any.a5, .bool M.any.i, .bool M.any.s, .int .i64 M.mw, .int .i64 M.ms, .int .i64 M.mc, vF, vS, vP, vR, vV] 39)).alloc (.cells #[.int .i64 lo, .int .i64 hi] 28)) (w.heap.size + 1) 28 #[.int .i64 lo, .int .i64 hi] := (by repeat (first | (refine Blk.newAt _ _ _ ?_; first | rfl | (simp; done)) | refine Blk.alloc ?_ _))
    have bHB : Below w.heap.size w ((w.alloc (.cells #[.int .i64 D.size, .int .i64 D.load, .int .i64 D.wind, vA, .int .i64 D.pitch, .int .i64 D.roll, .int .i64 D.heave, .int .i64 D.fire, vB, vC, .int .i64 M.places, .int .i64 M.any.a0, .int .i64 M.any.a1, .int .i64 M.any.a2, .int .i64 M.any.a3, .int .i64 M.any.a4, .int .i64 M.any.a5, .bool M.any.i, .bool M.any.s, .int .i64 M.mw, .int .i64 M.ms, .int .i64 M.mc, vF, vS, vP, vR, vV] 39)).alloc (.cells #[.int .i64 lo, .int .i64 hi] 28)) := (by repeat' (first | exact Below.refl _ _ | assumption | refine Below.drew ?_ | refine bdn ?_ _ | refine bal ?_ _ | refine Below.setCell ?_ (by first | (simp; done) | omega | (simp; omega)) _))
    generalize ((w.alloc (.cells #[.int .i64 D.size, .int .i64 D.load, .int .i64 D.wind, vA, .int .i64 D.pitch, .int .i64 D.roll, .int .i64 D.heave, .int .i64 D.fire, vB, vC, .int .i64 M.places, .int .i64 M.any.a0, .int .i64 M.any.a1, .int .i64 M.any.a2, .int .i64 M.any.a3, .int .i64 M.any.a4, .int .i64 M.any.a5, .bool M.any.i, .bool M.any.s, .int .i64 M.mw, .int .i64 M.ms, .int .i64 M.mc, vF, vS, vP, vR, vV] 39)).alloc (.cells #[.int .i64 lo, .int .i64 hi] 28)) = W at *
    have zW := bHW.lt
    have HX := Lib.hid bHX
    have HW := Lib.hid bHW
    have HB := Lib.hid bHB
    clear bHX bHW bHB
    go_wp2_with (first | (refine wpl_row rfl 39 _ rfl _ rfl #[.int .i64 D.size, .int .i64 D.load, .int .i64 D.wind, vA, .int .i64 D.pitch, .int .i64 D.roll, .int .i64 D.heave, .int .i64 D.fire, vB, vC, .int .i64 M.places, .int .i64 M.any.a0, .int .i64 M.any.a1, .int .i64 M.any.a2, .int .i64 M.any.a3, .int .i64 M.any.a4, .int .i64 M.any.a5, .bool M.any.i, .bool M.any.s, .int .i64 M.mw, .int .i64 M.ms, .int .i64 M.mc, vF, vS, vP, vR, vV] 27 HX.out Tryz.rowPl rfl ?_; simp only [Act.put]) | (go_at_call 8; (with_reducible refine (HFR.out _ (HD.out.below HB.out) (HA.out.below HB.out) (HV.out.below HB.out)).mono ?_); rintro e w1 ⟨rfl, hb1⟩; have nHX := Lib.hid (HX.out.below hb1); have nHW := Lib.hid (HW.out.below hb1); have nHB := Lib.hid (bthen HB.out hb1); have zz1 := hb1.size; clear HX HW HB hb1; have HX := nHX; have HW := nHW; have HB := nHB; clear nHX nHW nHB) | (go_at_call 9; (with_reducible refine (dworks_c _).mono ?_); rintro e w1 ⟨rfl, hb1⟩; have nHX := Lib.hid (HX.out.below hb1); have nHW := Lib.hid (HW.out.below hb1); have nHB := Lib.hid (bthen HB.out hb1); have zz1 := hb1.size; clear HX HW HB hb1; have HX := nHX; have HW := nHW; have HB := nHB; clear nHX nHW nHB))
    go_ret
    exact ⟨rfl, HB.out⟩
end Go.Proofs.YtafkifjebimdaaaGreat
