/- The law DeckEvery: if a deck is open in a tick, every weather that may be is flyable, and its wind is at most that of the deck and of each sector from which it may come. -/
import Derived.Test.YtafkifjebimdaaaGreatDlB
import Derived.Test.YtafkifjebimdaaaGreatDkY
import Derived.Test.YtafkifjebimdaaaGreatJAP
import Derived.Test.YtafkifjebimdaaaGreatRdC
import Derived.Test.YtafkifjebimdaaaGreatWhC
set_option linter.all false
namespace Go.Proofs.YtafkifjebimdaaaGreat
open Go Go.RowKit Go.Proofs
set_option maxRecDepth 100000
set_option maxHeartbeats 8000000
theorem dev_law {D : DekD} {M : MetD} {Mo : MovD} {a : AppD} {f : Int} {n : Nat} {G : Nat → Nat → Int} {H : Nat → Nat → Bool} (hs : scE D M Mo = 0) (ha : appE M a = 0) (hr : realE M a.place f n G = 0) (hv : (realV M a.place f n G H).2 = true) (k : Nat) (hk : k < n) :
    whyE D M Mo a (f + k) = 0 ∧ 0 ≤ f + k ∧ f + k ≤ 2000 ∧ (whyN D M Mo a (f + k) = 0 → flyB (G k 0) (G k 1) (G k 2) (H k 3) (H k 4) a.lw a.ls a.lc a.li a.lt = true ∧ G k 0 ≤ D.wind ∧ a.size ≤ D.size ∧ a.weight ≤ D.load ∧
      ∀ (m : Int) (j : Nat), a.lo ≤ m → m ≤ a.hi → j < D.ns → secB (D.S j 0) (D.S j 1) (m % 360) = true → G k 0 ≤ D.S j 2) := by
  obtain ⟨r1, r2⟩ := realE_ok hr
  have h0 := (atE_ok r1).2.1
  have hat := atE_up (k := k) r1 (by omega)
  unfold realV at hv
  rw [if_pos hr] at hv
  have hh := real_all n 0 hv k (Nat.zero_le _) (by omega)
  refine ⟨caE_mk hs ha (inB_iff.2 ⟨by omega, by omega⟩), by omega, by omega, fun hw => ?_⟩
  obtain ⟨⟨w1, w2⟩, w3, w4, -⟩ := whyN_zero.1 hw
  unfold mayV at w4
  rw [if_pos hat] at w4
  have hb := hasB_iff.1 hh
  have hl := limV_le D a.lo a.hi
  unfold openV at w3
  rw [Bool.and_eq_true] at w3
  refine ⟨has_worst hh w3.2, by omega, w1, w2, fun m j q1 q2 q3 q4 => ?_⟩
  have := limV_mem q1 q2 q3 q4
  omega
def devR (w0 gH gY gQ : Nat) (r l : Value) (p f : Int) (n : Nat) (G : Nat → Nat → Int) (H : Nat → Nat → Bool) (R1 : Int) (R2 : Bool) (E : Int) : Nat → Value → World → Prop
  | 0, v, _ => v = .pointer (some ⟨gQ, 10, none⟩)
  | 1, v, _ => v = r
  | 2, v, _ => v = .pointer (some ⟨gY, 7, none⟩)
  | 3, v, _ => v = .int .i64 p
  | 4, v, _ => v = .pointer (some ⟨gH, 0, none⟩)
  | 5, v, _ => v = .pointer (some ⟨gH, 1, none⟩)
  | 6, v, _ => v = .int .i64 f
  | 7, v, w => EmptyW v w
  | 8, v, _ => v = .pointer (some ⟨gH, 2, none⟩)
  | 9, v, _ => v = l
  | 10, v, w => WesV n G H v w
  | 11, v, _ => v = .tuple #[.int .i64 R1, .bool R2, .int .i64 E]
  | 12, v, _ => v = .tuple #[.int .i64 R1, .bool R2, .int .i64 E]
  | 13, v, _ => v = .int .i64 R1
  | 14, v, _ => v = .bool R2
  | 15, v, _ => v = .int .i64 E
  | _, _, _ => True
theorem devR_below {w0 gH gY gQ : Nat} {r l : Value} {p f : Int} {n : Nat} {G : Nat → Nat → Int} {H : Nat → Nat → Bool} {R1 : Int} {R2 : Bool} {E : Int} (k : Nat) (v : Value) (w w' : World) (hb : Below w.heap.size w w') (h : devR w0 gH gY gQ r l p f n G H R1 R2 E k v w) : devR w0 gH gY gQ r l p f n G H R1 R2 E k v w' := by
  unfold devR at *
  split at h <;> first | exact h | exact EmptyW.below h hb | exact WesV.below h hb
/-- What the loops keep. -/
structure DvK (D : DekD) (vA vB vC wA wB wC : Value) (M : MetD) (vF vS wF wS : Value) (Mo : MovD) (vP vR vV wP wR wV : Value) (a : AppD) (hp f : Int) (A : Option Addr) (n c gQ : Nat) (w wr : World) : Prop where
  b : RowKit.Below w.heap.size w wr
  x : Blk wr w.heap.size 39 #[.int .i64 D.size, .int .i64 D.load, .int .i64 D.wind, vA, .int .i64 D.pitch, .int .i64 D.roll, .int .i64 D.heave, .int .i64 D.fire, vB, vC, .int .i64 M.places, .int .i64 M.any.a0, .int .i64 M.any.a1, .int .i64 M.any.a2, .int .i64 M.any.a3, .int .i64 M.any.a4, .int .i64 M.any.a5, .bool M.any.i, .bool M.any.s, .int .i64 M.mw, .int .i64 M.ms, .int .i64 M.mc, vF, vS, vP, vR, vV]
  y : Blk wr (w.heap.size + 1) 43 #[.int .i64 a.size, .int .i64 a.weight, .int .i64 a.lw, .int .i64 a.ls, .int .i64 a.lc, .bool a.li, .bool a.lt, .int .i64 a.place, .int .i64 a.lo, .int .i64 a.hi]
  h : Blk wr (w.heap.size + 1 + 1) 72 #[.int .i64 hp, .int .i64 f, .slice A n c]
  q : Blk wr gQ 39 #[.int .i64 D.size, .int .i64 D.load, .int .i64 D.wind, wA, .int .i64 D.pitch, .int .i64 D.roll, .int .i64 D.heave, .int .i64 D.fire, wB, wC, .int .i64 M.places, .int .i64 M.any.a0, .int .i64 M.any.a1, .int .i64 M.any.a2, .int .i64 M.any.a3, .int .i64 M.any.a4, .int .i64 M.any.a5, .bool M.any.i, .bool M.any.s, .int .i64 M.mw, .int .i64 M.ms, .int .i64 M.mc, wF, wS, wP, wR, wV]
  d : DekAt wr wA wB wC D
  m : MetAt wr wF wS M
  o : MovAt wr wP wR wV Mo
theorem DvK.grow {D : DekD} {vA vB vC wA wB wC : Value} {M : MetD} {vF vS wF wS : Value} {Mo : MovD} {vP vR vV wP wR wV : Value} {a : AppD} {hp f : Int} {A : Option Addr} {n c gQ : Nat} {w wr w2 : World} (h : DvK D vA vB vC wA wB wC M vF vS wF wS Mo vP vR vV wP wR wV a hp f A n c gQ w wr) (hb : RowKit.Below wr.heap.size wr w2) : DvK D vA vB vC wA wB wC M vF vS wF wS Mo vP vR vV wP wR wV a hp f A n c gQ w w2 :=
  ⟨bthen h.b hb, h.x.below hb, h.y.below hb, h.h.below hb, h.q.below hb, h.d.below hb, h.m.below hb, h.o.below hb⟩
theorem sec_mod {f t m : Int} (hf : 0 ≤ f ∧ f ≤ 359) (ht : 0 ≤ t ∧ t ≤ 359) (h : (m - f) % 360 ≤ (t - f) % 360) : secB f t (m % 360) = true := by
  unfold secB
  split
  · simp only [Bool.or_eq_true, decide_eq_true_eq]; omega
  · rw [inB_iff]; omega
theorem scE_bad {D : DekD} {M : MetD} {Mo : MovD} (h : scE D M Mo = 0) : D.bad = false := by
  unfold scE at h
  cases hb : D.bad
  · rfl
  · rw [if_neg (by unfold DekD.err; rw [hb]; decide)] at h
    unfold DekD.err at h
    rw [hb] at h
    cases h
theorem DeckEvery_c (D : DekD) (vA vB vC : Value) (M : MetD) (vF vS : Value) (Mo : MovD) (vP vR vV : Value) (a : AppD) (hp f : Int) (A : Option Addr) (n c : Nat) (G : Nat → Nat → Int) (H : Nat → Nat → Bool) (w : World) (hD : DekAt w vA vB vC D) (hA : MetAt w vF vS M) (hV : MovAt w vP vR vV Mo)
    (hc1 : n ≤ c) (hc2 : c ≤ 9223372036854775807) (hW : RecsAt w A n 5 (weV G H)) :
   Calls Tryz.prog 6 #[.agg #[.int .i64 D.size, .int .i64 D.load, .int .i64 D.wind, vA, .int .i64 D.pitch, .int .i64 D.roll, .int .i64 D.heave, .int .i64 D.fire, vB, vC, .int .i64 M.places, .int .i64 M.any.a0, .int .i64 M.any.a1, .int .i64 M.any.a2, .int .i64 M.any.a3, .int .i64 M.any.a4, .int .i64 M.any.a5, .bool M.any.i, .bool M.any.s, .int .i64 M.mw, .int .i64 M.ms, .int .i64 M.mc, vF, vS, vP, vR, vV], .agg #[.int .i64 a.size, .int .i64 a.weight, .int .i64 a.lw, .int .i64 a.ls, .int .i64 a.lc, .bool a.li, .bool a.lt, .int .i64 a.place, .int .i64 a.lo, .int .i64 a.hi], .agg #[.int .i64 hp, .int .i64 f, .slice A n c]] w fun e w' => e = .returned (.bool true) ∧ RowKit.Below w.heap.size w w' := by
  have HD := Lib.hid hD
  have HA := Lib.hid hA
  have HV := Lib.hid hV
  have HWS := Lib.hid hW
  have HFR := Lib.hid (fun w1 h1 h2 h3 => dFar_c D vA vB vC M vF vS Mo vP vR vV w1 h1 h2 h3)
  have HOW := Lib.hid (fun w1 h1 h2 h3 hn => down_c D vA vB vC M vF vS Mo vP vR vV w1 h1 h2 h3 hn)
  have HCA := Lib.hid (fun w1 h1 h2 h3 => rd_CheckApproach_c D vA vB vC M vF vS Mo vP vR vV a w1 h1 h2 h3)
  obtain ⟨A0, k0, hvA, -, -, hRS⟩ := hD.s.e
  have HVA := Lib.hid hvA
  have HRS := Lib.hid hRS
  clear hvA hRS
  clear hD hA hV hW
  cases hf : farP D M Mo
  case true =>
    rw [hf] at HFR
    clear hf
    go_enter Tryz.func6, Tryz.ntmps6
    go_wp2_with (first | (refine wpl_row rfl 39 _ rfl _ rfl #[.int .i64 D.size, .int .i64 D.load, .int .i64 D.wind, vA, .int .i64 D.pitch, .int .i64 D.roll, .int .i64 D.heave, .int .i64 D.fire, vB, vC, .int .i64 M.places, .int .i64 M.any.a0, .int .i64 M.any.a1, .int .i64 M.any.a2, .int .i64 M.any.a3, .int .i64 M.any.a4, .int .i64 M.any.a5, .bool M.any.i, .bool M.any.s, .int .i64 M.mw, .int .i64 M.ms, .int .i64 M.mc, vF, vS, vP, vR, vV] 27 ?_ Tryz.rowPl rfl ?_; (focus exact (by repeat (first | (refine Blk.newAt _ _ _ ?_; first | rfl | (simp; done)) | refine Blk.alloc ?_ _))); simp only [Act.put]))
    have bHX : Blk (((w.alloc (.cells #[.int .i64 D.size, .int .i64 D.load, .int .i64 D.wind, vA, .int .i64 D.pitch, .int .i64 D.roll, .int .i64 D.heave, .int .i64 D.fire, vB, vC, .int .i64 M.places, .int .i64 M.any.a0, .int .i64 M.any.a1, .int .i64 M.any.a2, .int .i64 M.any.a3, .int .i64 M.any.a4, .int .i64 M.any.a5, .bool M.any.i, .bool M.any.s, .int .i64 M.mw, .int .i64 M.ms, .int .i64 M.mc, vF, vS, vP, vR, vV] 39)).alloc (.cells #[.int .i64 a.size, .int .i64 a.weight, .int .i64 a.lw, .int .i64 a.ls, .int .i64 a.lc, .bool a.li, .bool a.lt, .int .i64 a.place, .int .i64 a.lo, .int .i64 a.hi] 43)).alloc (.cells #[.int .i64 hp, .int .i64 f, .slice A n c] 72)) (w.heap.size) 39 #[.int .i64 D.size, .int .i64 D.load, .int .i64 D.wind, vA, .int .i64 D.pitch, .int .i64 D.roll, .int .i64 D.heave, .int .i64 D.fire, vB, vC, .int .i64 M.places, .int .i64 M.any.a0, .int .i64 M.any.a1, .int .i64 M.any.a2, .int .i64 M.any.a3, .int .i64 M.any.a4, .int .i64 M.any.a5, .bool M.any.i, .bool M.any.s, .int .i64 M.mw, .int .i64 M.ms, .int .i64 M.mc, vF, vS, vP, vR, vV] := (by repeat (first | (refine Blk.newAt _ _ _ ?_; first | rfl | (simp; done)) | refine Blk.alloc ?_ _))
    have bHY : Blk (((w.alloc (.cells #[.int .i64 D.size, .int .i64 D.load, .int .i64 D.wind, vA, .int .i64 D.pitch, .int .i64 D.roll, .int .i64 D.heave, .int .i64 D.fire, vB, vC, .int .i64 M.places, .int .i64 M.any.a0, .int .i64 M.any.a1, .int .i64 M.any.a2, .int .i64 M.any.a3, .int .i64 M.any.a4, .int .i64 M.any.a5, .bool M.any.i, .bool M.any.s, .int .i64 M.mw, .int .i64 M.ms, .int .i64 M.mc, vF, vS, vP, vR, vV] 39)).alloc (.cells #[.int .i64 a.size, .int .i64 a.weight, .int .i64 a.lw, .int .i64 a.ls, .int .i64 a.lc, .bool a.li, .bool a.lt, .int .i64 a.place, .int .i64 a.lo, .int .i64 a.hi] 43)).alloc (.cells #[.int .i64 hp, .int .i64 f, .slice A n c] 72)) (w.heap.size + 1) 43 #[.int .i64 a.size, .int .i64 a.weight, .int .i64 a.lw, .int .i64 a.ls, .int .i64 a.lc, .bool a.li, .bool a.lt, .int .i64 a.place, .int .i64 a.lo, .int .i64 a.hi] := (by repeat (first | (refine Blk.newAt _ _ _ ?_; first | rfl | (simp; done)) | refine Blk.alloc ?_ _))
    have bHH : Blk (((w.alloc (.cells #[.int .i64 D.size, .int .i64 D.load, .int .i64 D.wind, vA, .int .i64 D.pitch, .int .i64 D.roll, .int .i64 D.heave, .int .i64 D.fire, vB, vC, .int .i64 M.places, .int .i64 M.any.a0, .int .i64 M.any.a1, .int .i64 M.any.a2, .int .i64 M.any.a3, .int .i64 M.any.a4, .int .i64 M.any.a5, .bool M.any.i, .bool M.any.s, .int .i64 M.mw, .int .i64 M.ms, .int .i64 M.mc, vF, vS, vP, vR, vV] 39)).alloc (.cells #[.int .i64 a.size, .int .i64 a.weight, .int .i64 a.lw, .int .i64 a.ls, .int .i64 a.lc, .bool a.li, .bool a.lt, .int .i64 a.place, .int .i64 a.lo, .int .i64 a.hi] 43)).alloc (.cells #[.int .i64 hp, .int .i64 f, .slice A n c] 72)) (w.heap.size + 1 + 1) 72 #[.int .i64 hp, .int .i64 f, .slice A n c] := (by repeat (first | (refine Blk.newAt _ _ _ ?_; first | rfl | (simp; done)) | refine Blk.alloc ?_ _))
    have bHB : Below w.heap.size w (((w.alloc (.cells #[.int .i64 D.size, .int .i64 D.load, .int .i64 D.wind, vA, .int .i64 D.pitch, .int .i64 D.roll, .int .i64 D.heave, .int .i64 D.fire, vB, vC, .int .i64 M.places, .int .i64 M.any.a0, .int .i64 M.any.a1, .int .i64 M.any.a2, .int .i64 M.any.a3, .int .i64 M.any.a4, .int .i64 M.any.a5, .bool M.any.i, .bool M.any.s, .int .i64 M.mw, .int .i64 M.ms, .int .i64 M.mc, vF, vS, vP, vR, vV] 39)).alloc (.cells #[.int .i64 a.size, .int .i64 a.weight, .int .i64 a.lw, .int .i64 a.ls, .int .i64 a.lc, .bool a.li, .bool a.lt, .int .i64 a.place, .int .i64 a.lo, .int .i64 a.hi] 43)).alloc (.cells #[.int .i64 hp, .int .i64 f, .slice A n c] 72)) := (by repeat' (first | exact Below.refl _ _ | assumption | refine Below.drew ?_ | refine bdn ?_ _ | refine bal ?_ _ | refine Below.setCell ?_ (by first | (simp; done) | omega | (simp; omega)) _))
    generalize (((w.alloc (.cells #[.int .i64 D.size, .int .i64 D.load, .int .i64 D.wind, vA, .int .i64 D.pitch, .int .i64 D.roll, .int .i64 D.heave, .int .i64 D.fire, vB, vC, .int .i64 M.places, .int .i64 M.any.a0, .int .i64 M.any.a1, .int .i64 M.any.a2, .int .i64 M.any.a3, .int .i64 M.any.a4, .int .i64 M.any.a5, .bool M.any.i, .bool M.any.s, .int .i64 M.mw, .int .i64 M.ms, .int .i64 M.mc, vF, vS, vP, vR, vV] 39)).alloc (.cells #[.int .i64 a.size, .int .i64 a.weight, .int .i64 a.lw, .int .i64 a.ls, .int .i64 a.lc, .bool a.li, .bool a.lt, .int .i64 a.place, .int .i64 a.lo, .int .i64 a.hi] 43)).alloc (.cells #[.int .i64 hp, .int .i64 f, .slice A n c] 72)) = W at *
    have zW := bHH.lt
    have HX := Lib.hid bHX
    have HY := Lib.hid bHY
    have HH := Lib.hid bHH
    have HB := Lib.hid bHB
    clear bHX bHY bHH bHB
    refine (HFR.out _ (HD.out.below HB.out) (HA.out.below HB.out) (HV.out.below HB.out)).mono ?_
    rintro e w1 ⟨rfl, hb1⟩
    have nHX := Lib.hid (HX.out.below hb1)
    have nHY := Lib.hid (HY.out.below hb1)
    have nHH := Lib.hid (HH.out.below hb1)
    have nHB := Lib.hid (bthen HB.out hb1)
    clear HX HY HH HB hb1
    have HX := nHX
    have HY := nHY
    have HH := nHH
    have HB := nHB
    clear nHX nHY nHH nHB
    have zHH := HH.out.lt
    have cHH2 := HH.out.cell 2
    simp only [List.getElem?_toArray, List.getElem?_cons_succ, List.getElem?_cons_zero] at cHH2
    go_wp2_with (first | (go_at_call 9; (with_reducible refine (dworks_c _).mono ?_); rintro e w1 ⟨rfl, hb1⟩; have nHX := Lib.hid (HX.out.below hb1); have nHY := Lib.hid (HY.out.below hb1); have nHH := Lib.hid (HH.out.below hb1); have nHB := Lib.hid (bthen HB.out hb1); have zz1 := hb1.size; clear HX HY HH HB hb1; have HX := nHX; have HY := nHY; have HH := nHH; have HB := nHB; clear nHX nHY nHH nHB))
    go_ret
    exact ⟨rfl, HB.out⟩
  rw [hf] at HFR
  have HFF := Lib.hid hf
  clear hf
  by_cases hn : 40 < n
  · have hnz : decide ((40 : Int) < (n : Int)) = true := decide_eq_true (by omega)
    go_enter Tryz.func6, Tryz.ntmps6
    go_wp2_with (first | (refine wpl_row rfl 39 _ rfl _ rfl #[.int .i64 D.size, .int .i64 D.load, .int .i64 D.wind, vA, .int .i64 D.pitch, .int .i64 D.roll, .int .i64 D.heave, .int .i64 D.fire, vB, vC, .int .i64 M.places, .int .i64 M.any.a0, .int .i64 M.any.a1, .int .i64 M.any.a2, .int .i64 M.any.a3, .int .i64 M.any.a4, .int .i64 M.any.a5, .bool M.any.i, .bool M.any.s, .int .i64 M.mw, .int .i64 M.ms, .int .i64 M.mc, vF, vS, vP, vR, vV] 27 ?_ Tryz.rowPl rfl ?_; (focus exact (by repeat (first | (refine Blk.newAt _ _ _ ?_; first | rfl | (simp; done)) | refine Blk.alloc ?_ _))); simp only [Act.put]))
    have bHX : Blk (((w.alloc (.cells #[.int .i64 D.size, .int .i64 D.load, .int .i64 D.wind, vA, .int .i64 D.pitch, .int .i64 D.roll, .int .i64 D.heave, .int .i64 D.fire, vB, vC, .int .i64 M.places, .int .i64 M.any.a0, .int .i64 M.any.a1, .int .i64 M.any.a2, .int .i64 M.any.a3, .int .i64 M.any.a4, .int .i64 M.any.a5, .bool M.any.i, .bool M.any.s, .int .i64 M.mw, .int .i64 M.ms, .int .i64 M.mc, vF, vS, vP, vR, vV] 39)).alloc (.cells #[.int .i64 a.size, .int .i64 a.weight, .int .i64 a.lw, .int .i64 a.ls, .int .i64 a.lc, .bool a.li, .bool a.lt, .int .i64 a.place, .int .i64 a.lo, .int .i64 a.hi] 43)).alloc (.cells #[.int .i64 hp, .int .i64 f, .slice A n c] 72)) (w.heap.size) 39 #[.int .i64 D.size, .int .i64 D.load, .int .i64 D.wind, vA, .int .i64 D.pitch, .int .i64 D.roll, .int .i64 D.heave, .int .i64 D.fire, vB, vC, .int .i64 M.places, .int .i64 M.any.a0, .int .i64 M.any.a1, .int .i64 M.any.a2, .int .i64 M.any.a3, .int .i64 M.any.a4, .int .i64 M.any.a5, .bool M.any.i, .bool M.any.s, .int .i64 M.mw, .int .i64 M.ms, .int .i64 M.mc, vF, vS, vP, vR, vV] := (by repeat (first | (refine Blk.newAt _ _ _ ?_; first | rfl | (simp; done)) | refine Blk.alloc ?_ _))
    have bHY : Blk (((w.alloc (.cells #[.int .i64 D.size, .int .i64 D.load, .int .i64 D.wind, vA, .int .i64 D.pitch, .int .i64 D.roll, .int .i64 D.heave, .int .i64 D.fire, vB, vC, .int .i64 M.places, .int .i64 M.any.a0, .int .i64 M.any.a1, .int .i64 M.any.a2, .int .i64 M.any.a3, .int .i64 M.any.a4, .int .i64 M.any.a5, .bool M.any.i, .bool M.any.s, .int .i64 M.mw, .int .i64 M.ms, .int .i64 M.mc, vF, vS, vP, vR, vV] 39)).alloc (.cells #[.int .i64 a.size, .int .i64 a.weight, .int .i64 a.lw, .int .i64 a.ls, .int .i64 a.lc, .bool a.li, .bool a.lt, .int .i64 a.place, .int .i64 a.lo, .int .i64 a.hi] 43)).alloc (.cells #[.int .i64 hp, .int .i64 f, .slice A n c] 72)) (w.heap.size + 1) 43 #[.int .i64 a.size, .int .i64 a.weight, .int .i64 a.lw, .int .i64 a.ls, .int .i64 a.lc, .bool a.li, .bool a.lt, .int .i64 a.place, .int .i64 a.lo, .int .i64 a.hi] := (by repeat (first | (refine Blk.newAt _ _ _ ?_; first | rfl | (simp; done)) | refine Blk.alloc ?_ _))
    have bHH : Blk (((w.alloc (.cells #[.int .i64 D.size, .int .i64 D.load, .int .i64 D.wind, vA, .int .i64 D.pitch, .int .i64 D.roll, .int .i64 D.heave, .int .i64 D.fire, vB, vC, .int .i64 M.places, .int .i64 M.any.a0, .int .i64 M.any.a1, .int .i64 M.any.a2, .int .i64 M.any.a3, .int .i64 M.any.a4, .int .i64 M.any.a5, .bool M.any.i, .bool M.any.s, .int .i64 M.mw, .int .i64 M.ms, .int .i64 M.mc, vF, vS, vP, vR, vV] 39)).alloc (.cells #[.int .i64 a.size, .int .i64 a.weight, .int .i64 a.lw, .int .i64 a.ls, .int .i64 a.lc, .bool a.li, .bool a.lt, .int .i64 a.place, .int .i64 a.lo, .int .i64 a.hi] 43)).alloc (.cells #[.int .i64 hp, .int .i64 f, .slice A n c] 72)) (w.heap.size + 1 + 1) 72 #[.int .i64 hp, .int .i64 f, .slice A n c] := (by repeat (first | (refine Blk.newAt _ _ _ ?_; first | rfl | (simp; done)) | refine Blk.alloc ?_ _))
    have bHB : Below w.heap.size w (((w.alloc (.cells #[.int .i64 D.size, .int .i64 D.load, .int .i64 D.wind, vA, .int .i64 D.pitch, .int .i64 D.roll, .int .i64 D.heave, .int .i64 D.fire, vB, vC, .int .i64 M.places, .int .i64 M.any.a0, .int .i64 M.any.a1, .int .i64 M.any.a2, .int .i64 M.any.a3, .int .i64 M.any.a4, .int .i64 M.any.a5, .bool M.any.i, .bool M.any.s, .int .i64 M.mw, .int .i64 M.ms, .int .i64 M.mc, vF, vS, vP, vR, vV] 39)).alloc (.cells #[.int .i64 a.size, .int .i64 a.weight, .int .i64 a.lw, .int .i64 a.ls, .int .i64 a.lc, .bool a.li, .bool a.lt, .int .i64 a.place, .int .i64 a.lo, .int .i64 a.hi] 43)).alloc (.cells #[.int .i64 hp, .int .i64 f, .slice A n c] 72)) := (by repeat' (first | exact Below.refl _ _ | assumption | refine Below.drew ?_ | refine bdn ?_ _ | refine bal ?_ _ | refine Below.setCell ?_ (by first | (simp; done) | omega | (simp; omega)) _))
    generalize (((w.alloc (.cells #[.int .i64 D.size, .int .i64 D.load, .int .i64 D.wind, vA, .int .i64 D.pitch, .int .i64 D.roll, .int .i64 D.heave, .int .i64 D.fire, vB, vC, .int .i64 M.places, .int .i64 M.any.a0, .int .i64 M.any.a1, .int .i64 M.any.a2, .int .i64 M.any.a3, .int .i64 M.any.a4, .int .i64 M.any.a5, .bool M.any.i, .bool M.any.s, .int .i64 M.mw, .int .i64 M.ms, .int .i64 M.mc, vF, vS, vP, vR, vV] 39)).alloc (.cells #[.int .i64 a.size, .int .i64 a.weight, .int .i64 a.lw, .int .i64 a.ls, .int .i64 a.lc, .bool a.li, .bool a.lt, .int .i64 a.place, .int .i64 a.lo, .int .i64 a.hi] 43)).alloc (.cells #[.int .i64 hp, .int .i64 f, .slice A n c] 72)) = W at *
    have zW := bHH.lt
    have HX := Lib.hid bHX
    have HY := Lib.hid bHY
    have HH := Lib.hid bHH
    have HB := Lib.hid bHB
    clear bHX bHY bHH bHB
    refine (HFR.out _ (HD.out.below HB.out) (HA.out.below HB.out) (HV.out.below HB.out)).mono ?_
    rintro e w1 ⟨rfl, hb1⟩
    have nHX := Lib.hid (HX.out.below hb1)
    have nHY := Lib.hid (HY.out.below hb1)
    have nHH := Lib.hid (HH.out.below hb1)
    have nHB := Lib.hid (bthen HB.out hb1)
    clear HX HY HH HB hb1
    have HX := nHX
    have HY := nHY
    have HH := nHH
    have HB := nHB
    clear nHX nHY nHH nHB
    have zHH := HH.out.lt
    have cHH2 := HH.out.cell 2
    simp only [List.getElem?_toArray, List.getElem?_cons_succ, List.getElem?_cons_zero] at cHH2
    go_wp2_with (first | (go_at_call 9; (with_reducible refine (dworks_c _).mono ?_); rintro e w1 ⟨rfl, hb1⟩; have nHX := Lib.hid (HX.out.below hb1); have nHY := Lib.hid (HY.out.below hb1); have nHH := Lib.hid (HH.out.below hb1); have nHB := Lib.hid (bthen HB.out hb1); have zz1 := hb1.size; clear HX HY HH HB hb1; have HX := nHX; have HY := nHY; have HH := nHH; have HB := nHB; clear nHX nHY nHH nHB))
    go_ret
    exact ⟨rfl, HB.out⟩
  have hnz : decide ((40 : Int) < (n : Int)) = false := decide_eq_false (by omega)
  go_enter Tryz.func6, Tryz.ntmps6
  go_wp2_with (first | (refine wpl_row rfl 39 _ rfl _ rfl #[.int .i64 D.size, .int .i64 D.load, .int .i64 D.wind, vA, .int .i64 D.pitch, .int .i64 D.roll, .int .i64 D.heave, .int .i64 D.fire, vB, vC, .int .i64 M.places, .int .i64 M.any.a0, .int .i64 M.any.a1, .int .i64 M.any.a2, .int .i64 M.any.a3, .int .i64 M.any.a4, .int .i64 M.any.a5, .bool M.any.i, .bool M.any.s, .int .i64 M.mw, .int .i64 M.ms, .int .i64 M.mc, vF, vS, vP, vR, vV] 27 ?_ Tryz.rowPl rfl ?_; (focus exact (by repeat (first | (refine Blk.newAt _ _ _ ?_; first | rfl | (simp; done)) | refine Blk.alloc ?_ _))); simp only [Act.put]))
  have bHX : Blk (((w.alloc (.cells #[.int .i64 D.size, .int .i64 D.load, .int .i64 D.wind, vA, .int .i64 D.pitch, .int .i64 D.roll, .int .i64 D.heave, .int .i64 D.fire, vB, vC, .int .i64 M.places, .int .i64 M.any.a0, .int .i64 M.any.a1, .int .i64 M.any.a2, .int .i64 M.any.a3, .int .i64 M.any.a4, .int .i64 M.any.a5, .bool M.any.i, .bool M.any.s, .int .i64 M.mw, .int .i64 M.ms, .int .i64 M.mc, vF, vS, vP, vR, vV] 39)).alloc (.cells #[.int .i64 a.size, .int .i64 a.weight, .int .i64 a.lw, .int .i64 a.ls, .int .i64 a.lc, .bool a.li, .bool a.lt, .int .i64 a.place, .int .i64 a.lo, .int .i64 a.hi] 43)).alloc (.cells #[.int .i64 hp, .int .i64 f, .slice A n c] 72)) (w.heap.size) 39 #[.int .i64 D.size, .int .i64 D.load, .int .i64 D.wind, vA, .int .i64 D.pitch, .int .i64 D.roll, .int .i64 D.heave, .int .i64 D.fire, vB, vC, .int .i64 M.places, .int .i64 M.any.a0, .int .i64 M.any.a1, .int .i64 M.any.a2, .int .i64 M.any.a3, .int .i64 M.any.a4, .int .i64 M.any.a5, .bool M.any.i, .bool M.any.s, .int .i64 M.mw, .int .i64 M.ms, .int .i64 M.mc, vF, vS, vP, vR, vV] := (by repeat (first | (refine Blk.newAt _ _ _ ?_; first | rfl | (simp; done)) | refine Blk.alloc ?_ _))
  have bHY : Blk (((w.alloc (.cells #[.int .i64 D.size, .int .i64 D.load, .int .i64 D.wind, vA, .int .i64 D.pitch, .int .i64 D.roll, .int .i64 D.heave, .int .i64 D.fire, vB, vC, .int .i64 M.places, .int .i64 M.any.a0, .int .i64 M.any.a1, .int .i64 M.any.a2, .int .i64 M.any.a3, .int .i64 M.any.a4, .int .i64 M.any.a5, .bool M.any.i, .bool M.any.s, .int .i64 M.mw, .int .i64 M.ms, .int .i64 M.mc, vF, vS, vP, vR, vV] 39)).alloc (.cells #[.int .i64 a.size, .int .i64 a.weight, .int .i64 a.lw, .int .i64 a.ls, .int .i64 a.lc, .bool a.li, .bool a.lt, .int .i64 a.place, .int .i64 a.lo, .int .i64 a.hi] 43)).alloc (.cells #[.int .i64 hp, .int .i64 f, .slice A n c] 72)) (w.heap.size + 1) 43 #[.int .i64 a.size, .int .i64 a.weight, .int .i64 a.lw, .int .i64 a.ls, .int .i64 a.lc, .bool a.li, .bool a.lt, .int .i64 a.place, .int .i64 a.lo, .int .i64 a.hi] := (by repeat (first | (refine Blk.newAt _ _ _ ?_; first | rfl | (simp; done)) | refine Blk.alloc ?_ _))
  have bHH : Blk (((w.alloc (.cells #[.int .i64 D.size, .int .i64 D.load, .int .i64 D.wind, vA, .int .i64 D.pitch, .int .i64 D.roll, .int .i64 D.heave, .int .i64 D.fire, vB, vC, .int .i64 M.places, .int .i64 M.any.a0, .int .i64 M.any.a1, .int .i64 M.any.a2, .int .i64 M.any.a3, .int .i64 M.any.a4, .int .i64 M.any.a5, .bool M.any.i, .bool M.any.s, .int .i64 M.mw, .int .i64 M.ms, .int .i64 M.mc, vF, vS, vP, vR, vV] 39)).alloc (.cells #[.int .i64 a.size, .int .i64 a.weight, .int .i64 a.lw, .int .i64 a.ls, .int .i64 a.lc, .bool a.li, .bool a.lt, .int .i64 a.place, .int .i64 a.lo, .int .i64 a.hi] 43)).alloc (.cells #[.int .i64 hp, .int .i64 f, .slice A n c] 72)) (w.heap.size + 1 + 1) 72 #[.int .i64 hp, .int .i64 f, .slice A n c] := (by repeat (first | (refine Blk.newAt _ _ _ ?_; first | rfl | (simp; done)) | refine Blk.alloc ?_ _))
  have bHB : Below w.heap.size w (((w.alloc (.cells #[.int .i64 D.size, .int .i64 D.load, .int .i64 D.wind, vA, .int .i64 D.pitch, .int .i64 D.roll, .int .i64 D.heave, .int .i64 D.fire, vB, vC, .int .i64 M.places, .int .i64 M.any.a0, .int .i64 M.any.a1, .int .i64 M.any.a2, .int .i64 M.any.a3, .int .i64 M.any.a4, .int .i64 M.any.a5, .bool M.any.i, .bool M.any.s, .int .i64 M.mw, .int .i64 M.ms, .int .i64 M.mc, vF, vS, vP, vR, vV] 39)).alloc (.cells #[.int .i64 a.size, .int .i64 a.weight, .int .i64 a.lw, .int .i64 a.ls, .int .i64 a.lc, .bool a.li, .bool a.lt, .int .i64 a.place, .int .i64 a.lo, .int .i64 a.hi] 43)).alloc (.cells #[.int .i64 hp, .int .i64 f, .slice A n c] 72)) := (by repeat' (first | exact Below.refl _ _ | assumption | refine Below.drew ?_ | refine bdn ?_ _ | refine bal ?_ _ | refine Below.setCell ?_ (by first | (simp; done) | omega | (simp; omega)) _))
  generalize (((w.alloc (.cells #[.int .i64 D.size, .int .i64 D.load, .int .i64 D.wind, vA, .int .i64 D.pitch, .int .i64 D.roll, .int .i64 D.heave, .int .i64 D.fire, vB, vC, .int .i64 M.places, .int .i64 M.any.a0, .int .i64 M.any.a1, .int .i64 M.any.a2, .int .i64 M.any.a3, .int .i64 M.any.a4, .int .i64 M.any.a5, .bool M.any.i, .bool M.any.s, .int .i64 M.mw, .int .i64 M.ms, .int .i64 M.mc, vF, vS, vP, vR, vV] 39)).alloc (.cells #[.int .i64 a.size, .int .i64 a.weight, .int .i64 a.lw, .int .i64 a.ls, .int .i64 a.lc, .bool a.li, .bool a.lt, .int .i64 a.place, .int .i64 a.lo, .int .i64 a.hi] 43)).alloc (.cells #[.int .i64 hp, .int .i64 f, .slice A n c] 72)) = W at *
  have zW := bHH.lt
  have HX := Lib.hid bHX
  have HY := Lib.hid bHY
  have HH := Lib.hid bHH
  have HB := Lib.hid bHB
  clear bHX bHY bHH bHB
  refine (HFR.out _ (HD.out.below HB.out) (HA.out.below HB.out) (HV.out.below HB.out)).mono ?_
  rintro e w1 ⟨rfl, hb1⟩
  have nHX := Lib.hid (HX.out.below hb1)
  have nHY := Lib.hid (HY.out.below hb1)
  have nHH := Lib.hid (HH.out.below hb1)
  have nHB := Lib.hid (bthen HB.out hb1)
  clear HX HY HH HB hb1
  have HX := nHX
  have HY := nHY
  have HH := nHH
  have HB := nHB
  clear nHX nHY nHH nHB
  have zHH := HH.out.lt
  have cHH2 := HH.out.cell 2
  simp only [List.getElem?_toArray, List.getElem?_cons_succ, List.getElem?_cons_zero] at cHH2
  go_wp2_with (first | (refine wpl_mid_g ?_ 26 _ rfl _ 0 rfl 39 #[.int .i64 D.size, .int .i64 D.load, .int .i64 D.wind, vA, .int .i64 D.pitch, .int .i64 D.roll, .int .i64 D.heave, .int .i64 D.fire, vB, vC, .int .i64 M.places, .int .i64 M.any.a0, .int .i64 M.any.a1, .int .i64 M.any.a2, .int .i64 M.any.a3, .int .i64 M.any.a4, .int .i64 M.any.a5, .bool M.any.i, .bool M.any.s, .int .i64 M.mw, .int .i64 M.ms, .int .i64 M.mc, vF, vS, vP, vR, vV] #[.int .i64 D.size, .int .i64 D.load, .int .i64 D.wind, vA, .int .i64 D.pitch, .int .i64 D.roll, .int .i64 D.heave, .int .i64 D.fire, vB, vC] 10 HX.out Tryz.rowDek [] [.int .i64 M.places, .int .i64 M.any.a0, .int .i64 M.any.a1, .int .i64 M.any.a2, .int .i64 M.any.a3, .int .i64 M.any.a4, .int .i64 M.any.a5, .bool M.any.i, .bool M.any.s, .int .i64 M.mw, .int .i64 M.ms, .int .i64 M.mc, vF, vS, vP, vR, vV] rfl rfl rfl ?_; (focus rfl); simp only [Act.put]) | (refine wpl_mid_g ?_ 34 _ rfl _ 10 rfl 39 #[.int .i64 D.size, .int .i64 D.load, .int .i64 D.wind, vA, .int .i64 D.pitch, .int .i64 D.roll, .int .i64 D.heave, .int .i64 D.fire, vB, vC, .int .i64 M.places, .int .i64 M.any.a0, .int .i64 M.any.a1, .int .i64 M.any.a2, .int .i64 M.any.a3, .int .i64 M.any.a4, .int .i64 M.any.a5, .bool M.any.i, .bool M.any.s, .int .i64 M.mw, .int .i64 M.ms, .int .i64 M.mc, vF, vS, vP, vR, vV] #[.int .i64 M.places, .int .i64 M.any.a0, .int .i64 M.any.a1, .int .i64 M.any.a2, .int .i64 M.any.a3, .int .i64 M.any.a4, .int .i64 M.any.a5, .bool M.any.i, .bool M.any.s, .int .i64 M.mw, .int .i64 M.ms, .int .i64 M.mc, vF, vS] 14 HX.out Tryz.rowMet [.int .i64 D.size, .int .i64 D.load, .int .i64 D.wind, vA, .int .i64 D.pitch, .int .i64 D.roll, .int .i64 D.heave, .int .i64 D.fire, vB, vC] [vP, vR, vV] rfl rfl rfl ?_; (focus rfl); simp only [Act.put]) | (refine wpl_mid_g ?_ 37 _ rfl _ 24 rfl 39 #[.int .i64 D.size, .int .i64 D.load, .int .i64 D.wind, vA, .int .i64 D.pitch, .int .i64 D.roll, .int .i64 D.heave, .int .i64 D.fire, vB, vC, .int .i64 M.places, .int .i64 M.any.a0, .int .i64 M.any.a1, .int .i64 M.any.a2, .int .i64 M.any.a3, .int .i64 M.any.a4, .int .i64 M.any.a5, .bool M.any.i, .bool M.any.s, .int .i64 M.mw, .int .i64 M.ms, .int .i64 M.mc, vF, vS, vP, vR, vV] #[vP, vR, vV] 3 HX.out Tryz.rowMov [.int .i64 D.size, .int .i64 D.load, .int .i64 D.wind, vA, .int .i64 D.pitch, .int .i64 D.roll, .int .i64 D.heave, .int .i64 D.fire, vB, vC, .int .i64 M.places, .int .i64 M.any.a0, .int .i64 M.any.a1, .int .i64 M.any.a2, .int .i64 M.any.a3, .int .i64 M.any.a4, .int .i64 M.any.a5, .bool M.any.i, .bool M.any.s, .int .i64 M.mw, .int .i64 M.ms, .int .i64 M.mc, vF, vS] [] rfl rfl rfl ?_; (focus rfl); simp only [Act.put]) | (refine wpl_row_g ?_ 43 (.tmp 4) rfl _ rfl #[.int .i64 a.size, .int .i64 a.weight, .int .i64 a.lw, .int .i64 a.ls, .int .i64 a.lc, .bool a.li, .bool a.lt, .int .i64 a.place, .int .i64 a.lo, .int .i64 a.hi] 10 HY.out Tryz.rowApp rfl ?_; (focus rfl); simp only [Act.put]))
  refine (HCA.out _ (HD.out.below HB.out) (HA.out.below HB.out) (HV.out.below HB.out)).mono ?_
  rintro e w1 ⟨E, rfl, hb1, hE⟩
  have HE := Lib.hid hE
  clear hE
  have nHX := Lib.hid (HX.out.below hb1)
  have nHY := Lib.hid (HY.out.below hb1)
  have nHH := Lib.hid (HH.out.below hb1)
  have nHB := Lib.hid (bthen HB.out hb1)
  clear HX HY HH HB hb1
  have HX := nHX
  have HY := nHY
  have HH := nHH
  have HB := nHB
  clear nHX nHY nHH nHB
  by_cases e1 : E = 0
  case neg =>
    have e1z : (E != 0) = true := by simpa using e1
    clear e1
    go_wp2_with (first | (go_at_call 9; (with_reducible refine (dworks_c _).mono ?_); rintro e w1 ⟨rfl, hb1⟩; have nHX := Lib.hid (HX.out.below hb1); have nHY := Lib.hid (HY.out.below hb1); have nHH := Lib.hid (HH.out.below hb1); have nHB := Lib.hid (bthen HB.out hb1); have zz1 := hb1.size; clear HX HY HH HB hb1; have HX := nHX; have HY := nHY; have HH := nHH; have HB := nHB; clear nHX nHY nHH nHB))
    go_ret
    exact ⟨rfl, HB.out⟩
  subst e1
  have HS := Lib.hid (HE.out (by first | rfl | trivial))
  clear HE
  go_wp2_with (first | (refine wpl_row rfl 39 (.tmp 3) rfl _ rfl #[.int .i64 D.size, .int .i64 D.load, .int .i64 D.wind, vA, .int .i64 D.pitch, .int .i64 D.roll, .int .i64 D.heave, .int .i64 D.fire, vB, vC, .int .i64 M.places, .int .i64 M.any.a0, .int .i64 M.any.a1, .int .i64 M.any.a2, .int .i64 M.any.a3, .int .i64 M.any.a4, .int .i64 M.any.a5, .bool M.any.i, .bool M.any.s, .int .i64 M.mw, .int .i64 M.ms, .int .i64 M.mc, vF, vS, vP, vR, vV] 27 HX.out Tryz.rowPl rfl ?_; simp only [Act.put]))
  refine (HOW.out _ (HD.out.below HB.out) (HA.out.below HB.out) (HV.out.below HB.out) HFF.out).mono ?_
  rintro e w1 ⟨A1, A2, A3, A4, A5, A6, A7, A8, k1, k2, k3, k4, k5, k6, k7, k8, rfl, hb1, HD1, HA1, HV1⟩
  have HD1 := Lib.hid HD1
  have HA1 := Lib.hid HA1
  have HV1 := Lib.hid HV1
  have nHX := Lib.hid (HX.out.below hb1)
  have nHY := Lib.hid (HY.out.below hb1)
  have nHH := Lib.hid (HH.out.below hb1)
  have nHB := Lib.hid (bthen HB.out hb1)
  clear HX HY HH HB hb1
  have HX := nHX
  have HY := nHY
  have HH := nHH
  have HB := nHB
  clear nHX nHY nHH nHB
  have tok : True := trivial
  go_wp2_with (first | (have _t := tok; refine wpl_store_newW rfl 39 _ _ rfl #[.int .i64 D.size, .int .i64 D.load, .int .i64 D.wind, .slice A1 D.ns k1, .int .i64 D.pitch, .int .i64 D.roll, .int .i64 D.heave, .int .i64 D.fire, .slice A2 D.nh k2, .slice A3 D.nu k3, .int .i64 M.places, .int .i64 M.any.a0, .int .i64 M.any.a1, .int .i64 M.any.a2, .int .i64 M.any.a3, .int .i64 M.any.a4, .int .i64 M.any.a5, .bool M.any.i, .bool M.any.s, .int .i64 M.mw, .int .i64 M.ms, .int .i64 M.mc, .slice A4 M.n k4, .slice A5 M.m k5, .slice A6 Mo.np k6, .slice A7 Mo.nr k7, .slice A8 Mo.nv k8] _ _ rfl ?_ rfl Tryz.sizePl rfl (oneP D M Mo _ _ _ _ _ _ _ _ _ _ _ _ _ _ _ _) ?_; (focus (simp; done)); simp only [Act.put]; clear tok))
  have bHQ := Blk.new w1 39 #[.int .i64 D.size, .int .i64 D.load, .int .i64 D.wind, .slice A1 D.ns k1, .int .i64 D.pitch, .int .i64 D.roll, .int .i64 D.heave, .int .i64 D.fire, .slice A2 D.nh k2, .slice A3 D.nu k3, .int .i64 M.places, .int .i64 M.any.a0, .int .i64 M.any.a1, .int .i64 M.any.a2, .int .i64 M.any.a3, .int .i64 M.any.a4, .int .i64 M.any.a5, .bool M.any.i, .bool M.any.s, .int .i64 M.mw, .int .i64 M.ms, .int .i64 M.mc, .slice A4 M.n k4, .slice A5 M.m k5, .slice A6 Mo.np k6, .slice A7 Mo.nr k7, .slice A8 Mo.nv k8]
  have nHX := Lib.hid (HX.out.alloc (.cells #[.int .i64 D.size, .int .i64 D.load, .int .i64 D.wind, .slice A1 D.ns k1, .int .i64 D.pitch, .int .i64 D.roll, .int .i64 D.heave, .int .i64 D.fire, .slice A2 D.nh k2, .slice A3 D.nu k3, .int .i64 M.places, .int .i64 M.any.a0, .int .i64 M.any.a1, .int .i64 M.any.a2, .int .i64 M.any.a3, .int .i64 M.any.a4, .int .i64 M.any.a5, .bool M.any.i, .bool M.any.s, .int .i64 M.mw, .int .i64 M.ms, .int .i64 M.mc, .slice A4 M.n k4, .slice A5 M.m k5, .slice A6 Mo.np k6, .slice A7 Mo.nr k7, .slice A8 Mo.nv k8] 39))
  have nHY := Lib.hid (HY.out.alloc (.cells #[.int .i64 D.size, .int .i64 D.load, .int .i64 D.wind, .slice A1 D.ns k1, .int .i64 D.pitch, .int .i64 D.roll, .int .i64 D.heave, .int .i64 D.fire, .slice A2 D.nh k2, .slice A3 D.nu k3, .int .i64 M.places, .int .i64 M.any.a0, .int .i64 M.any.a1, .int .i64 M.any.a2, .int .i64 M.any.a3, .int .i64 M.any.a4, .int .i64 M.any.a5, .bool M.any.i, .bool M.any.s, .int .i64 M.mw, .int .i64 M.ms, .int .i64 M.mc, .slice A4 M.n k4, .slice A5 M.m k5, .slice A6 Mo.np k6, .slice A7 Mo.nr k7, .slice A8 Mo.nv k8] 39))
  have nHH := Lib.hid (HH.out.alloc (.cells #[.int .i64 D.size, .int .i64 D.load, .int .i64 D.wind, .slice A1 D.ns k1, .int .i64 D.pitch, .int .i64 D.roll, .int .i64 D.heave, .int .i64 D.fire, .slice A2 D.nh k2, .slice A3 D.nu k3, .int .i64 M.places, .int .i64 M.any.a0, .int .i64 M.any.a1, .int .i64 M.any.a2, .int .i64 M.any.a3, .int .i64 M.any.a4, .int .i64 M.any.a5, .bool M.any.i, .bool M.any.s, .int .i64 M.mw, .int .i64 M.ms, .int .i64 M.mc, .slice A4 M.n k4, .slice A5 M.m k5, .slice A6 Mo.np k6, .slice A7 Mo.nr k7, .slice A8 Mo.nv k8] 39))
  have nHD1 := Lib.hid (HD1.out.alloc (.cells #[.int .i64 D.size, .int .i64 D.load, .int .i64 D.wind, .slice A1 D.ns k1, .int .i64 D.pitch, .int .i64 D.roll, .int .i64 D.heave, .int .i64 D.fire, .slice A2 D.nh k2, .slice A3 D.nu k3, .int .i64 M.places, .int .i64 M.any.a0, .int .i64 M.any.a1, .int .i64 M.any.a2, .int .i64 M.any.a3, .int .i64 M.any.a4, .int .i64 M.any.a5, .bool M.any.i, .bool M.any.s, .int .i64 M.mw, .int .i64 M.ms, .int .i64 M.mc, .slice A4 M.n k4, .slice A5 M.m k5, .slice A6 Mo.np k6, .slice A7 Mo.nr k7, .slice A8 Mo.nv k8] 39))
  have nHA1 := Lib.hid (HA1.out.alloc (.cells #[.int .i64 D.size, .int .i64 D.load, .int .i64 D.wind, .slice A1 D.ns k1, .int .i64 D.pitch, .int .i64 D.roll, .int .i64 D.heave, .int .i64 D.fire, .slice A2 D.nh k2, .slice A3 D.nu k3, .int .i64 M.places, .int .i64 M.any.a0, .int .i64 M.any.a1, .int .i64 M.any.a2, .int .i64 M.any.a3, .int .i64 M.any.a4, .int .i64 M.any.a5, .bool M.any.i, .bool M.any.s, .int .i64 M.mw, .int .i64 M.ms, .int .i64 M.mc, .slice A4 M.n k4, .slice A5 M.m k5, .slice A6 Mo.np k6, .slice A7 Mo.nr k7, .slice A8 Mo.nv k8] 39))
  have nHV1 := Lib.hid (HV1.out.alloc (.cells #[.int .i64 D.size, .int .i64 D.load, .int .i64 D.wind, .slice A1 D.ns k1, .int .i64 D.pitch, .int .i64 D.roll, .int .i64 D.heave, .int .i64 D.fire, .slice A2 D.nh k2, .slice A3 D.nu k3, .int .i64 M.places, .int .i64 M.any.a0, .int .i64 M.any.a1, .int .i64 M.any.a2, .int .i64 M.any.a3, .int .i64 M.any.a4, .int .i64 M.any.a5, .bool M.any.i, .bool M.any.s, .int .i64 M.mw, .int .i64 M.ms, .int .i64 M.mc, .slice A4 M.n k4, .slice A5 M.m k5, .slice A6 Mo.np k6, .slice A7 Mo.nr k7, .slice A8 Mo.nv k8] 39))
  have nHB := Lib.hid (bal HB.out (.cells #[.int .i64 D.size, .int .i64 D.load, .int .i64 D.wind, .slice A1 D.ns k1, .int .i64 D.pitch, .int .i64 D.roll, .int .i64 D.heave, .int .i64 D.fire, .slice A2 D.nh k2, .slice A3 D.nu k3, .int .i64 M.places, .int .i64 M.any.a0, .int .i64 M.any.a1, .int .i64 M.any.a2, .int .i64 M.any.a3, .int .i64 M.any.a4, .int .i64 M.any.a5, .bool M.any.i, .bool M.any.s, .int .i64 M.mw, .int .i64 M.ms, .int .i64 M.mc, .slice A4 M.n k4, .slice A5 M.m k5, .slice A6 Mo.np k6, .slice A7 Mo.nr k7, .slice A8 Mo.nv k8] 39))
  clear HX HY HH HD1 HA1 HV1 HB
  have HX := nHX
  have HY := nHY
  have HH := nHH
  have HD1 := nHD1
  have HA1 := nHA1
  have HV1 := nHV1
  have HB := nHB
  clear nHX nHY nHH nHD1 nHA1 nHV1 nHB
  generalize w1.alloc (.cells #[.int .i64 D.size, .int .i64 D.load, .int .i64 D.wind, .slice A1 D.ns k1, .int .i64 D.pitch, .int .i64 D.roll, .int .i64 D.heave, .int .i64 D.fire, .slice A2 D.nh k2, .slice A3 D.nu k3, .int .i64 M.places, .int .i64 M.any.a0, .int .i64 M.any.a1, .int .i64 M.any.a2, .int .i64 M.any.a3, .int .i64 M.any.a4, .int .i64 M.any.a5, .bool M.any.i, .bool M.any.s, .int .i64 M.mw, .int .i64 M.ms, .int .i64 M.mc, .slice A4 M.n k4, .slice A5 M.m k5, .slice A6 Mo.np k6, .slice A7 Mo.nr k7, .slice A8 Mo.nv k8] 39) = W2 at *
  generalize w1.heap.size = gHQ at *
  have HQ := Lib.hid bHQ
  clear bHQ
  have HRC := Lib.hid (fun w1 A c h1 h2 => Real_c M (.slice A4 M.n k4) (.slice A5 M.m k5) a.place f A n c G H w1 h1 (by omega) h2)
  generalize hR : realV M a.place f n G H = RR at *
  generalize hRE : realE M a.place f n G = E at *
  have HR := Lib.hid hR
  have HRE := Lib.hid hRE
  clear hR hRE
  obtain ⟨R1, R2⟩ := RR
  dsimp only at HRC
  refine wp_region_specL 16 [14, 15] (devR W2.heap.size (w.heap.size + 1 + 1) (w.heap.size + 1) gHQ (.agg #[.int .i64 M.places, .int .i64 M.any.a0, .int .i64 M.any.a1, .int .i64 M.any.a2, .int .i64 M.any.a3, .int .i64 M.any.a4, .int .i64 M.any.a5, .bool M.any.i, .bool M.any.s, .int .i64 M.mw, .int .i64 M.ms, .int .i64 M.mc, .slice A4 M.n k4, .slice A5 M.m k5]) (.slice A n c) a.place f n G H R1 R2 E) (fun i => false) (by kernel_rfl) (by kernel_rfl) (by decide) devR_below ?hop1 ?htail1
  case hop1 =>
    simp only [List.take_succ_cons, List.take_zero, allOps]
    refine ⟨?_, ?_, ?_, ?_, ?_, ?_, ?_, ?_, ?_, ?_, ?_, ?_, ?_, ?_, ?_, ?_, trivial⟩
    all_goals intro u A w1 hA hb hd
    all_goals simp only [putAll, dstOf, List.getElem?_toArray, List.getElem?_cons_succ, List.getElem?_cons_zero, Option.bind_some, Option.bind, Act.put, List.setIfInBounds_toArray, List.set_cons_succ, List.set_cons_zero] at hA; subst hA
    all_goals have HB1 := Lib.hid hb
    · refine OpOk.now rfl ?_
      clear hb hd
      go_wp2
      exact ⟨_, rfl, Below.refl _ _, rfl, fun h => absurd h (by decide)⟩
    · refine OpOk.now rfl ?_
      have d0 : u 0 = _ := hd 0 (by omega) (by kernel_rfl)
      clear hb hd
      rw [d0]
      clear d0
      go_wp2_with (refine wpl_mid rfl 34 _ rfl _ 10 rfl 39 #[.int .i64 D.size, .int .i64 D.load, .int .i64 D.wind, .slice A1 D.ns k1, .int .i64 D.pitch, .int .i64 D.roll, .int .i64 D.heave, .int .i64 D.fire, .slice A2 D.nh k2, .slice A3 D.nu k3, .int .i64 M.places, .int .i64 M.any.a0, .int .i64 M.any.a1, .int .i64 M.any.a2, .int .i64 M.any.a3, .int .i64 M.any.a4, .int .i64 M.any.a5, .bool M.any.i, .bool M.any.s, .int .i64 M.mw, .int .i64 M.ms, .int .i64 M.mc, .slice A4 M.n k4, .slice A5 M.m k5, .slice A6 Mo.np k6, .slice A7 Mo.nr k7, .slice A8 Mo.nv k8] #[.int .i64 M.places, .int .i64 M.any.a0, .int .i64 M.any.a1, .int .i64 M.any.a2, .int .i64 M.any.a3, .int .i64 M.any.a4, .int .i64 M.any.a5, .bool M.any.i, .bool M.any.s, .int .i64 M.mw, .int .i64 M.ms, .int .i64 M.mc, .slice A4 M.n k4, .slice A5 M.m k5] 14 (HQ.out.below HB1.out) Tryz.rowMet [.int .i64 D.size, .int .i64 D.load, .int .i64 D.wind, .slice A1 D.ns k1, .int .i64 D.pitch, .int .i64 D.roll, .int .i64 D.heave, .int .i64 D.fire, .slice A2 D.nh k2, .slice A3 D.nu k3] [.slice A6 Mo.np k6, .slice A7 Mo.nr k7, .slice A8 Mo.nv k8] rfl rfl rfl ?_; simp only [Act.put])
      exact ⟨_, rfl, Below.refl _ _, rfl, fun h => absurd h (by decide)⟩
    · refine OpOk.now rfl ?_
      clear hb hd
      go_wp2
      exact ⟨_, rfl, Below.refl _ _, rfl, fun h => absurd h (by decide)⟩
    · refine OpOk.now rfl ?_
      have d2 : u 2 = _ := hd 2 (by omega) (by kernel_rfl)
      clear hb hd
      rw [d2]
      clear d2
      have c7 := (HY.out.below HB1.out).cell 7
      go_wp2
      exact ⟨_, rfl, Below.refl _ _, rfl, fun h => absurd h (by decide)⟩
    · refine OpOk.now rfl ?_
      clear hb hd
      go_wp2
      exact ⟨_, rfl, Below.refl _ _, rfl, fun h => absurd h (by decide)⟩
    · refine OpOk.now rfl ?_
      have d4 : u 4 = _ := hd 4 (by omega) (by kernel_rfl)
      clear hb hd
      rw [d4]
      clear d4
      go_wp2
      exact ⟨_, rfl, Below.refl _ _, rfl, fun h => absurd h (by decide)⟩
    · refine OpOk.now rfl ?_
      have d5 : u 5 = _ := hd 5 (by omega) (by kernel_rfl)
      clear hb hd
      rw [d5]
      clear d5
      have c1 := (HH.out.below HB1.out).cell 1
      go_wp2
      exact ⟨_, rfl, Below.refl _ _, rfl, fun h => absurd h (by decide)⟩
    · refine OpOk.now rfl ?_
      clear hb hd
      go_wp2
      exact ⟨_, rfl, bal (RowKit.Below.refl _ _) _, ⟨_, rfl, Blk.new _ _ _⟩, fun h => absurd h (by decide)⟩
    · refine OpOk.now rfl ?_
      clear hb hd
      go_wp2
      exact ⟨_, rfl, Below.refl _ _, rfl, fun h => absurd h (by decide)⟩
    · refine OpOk.now rfl ?_
      have d8 : u 8 = _ := hd 8 (by omega) (by kernel_rfl)
      clear hb hd
      rw [d8]
      clear d8
      have c2 := (HH.out.below HB1.out).cell 2
      go_wp2
      exact ⟨_, rfl, Below.refl _ _, rfl, fun h => absurd h (by decide)⟩
    · refine OpOk.now rfl ?_
      have d7 := hd 7 (by omega) (by kernel_rfl)
      have d9 : u 9 = _ := hd 9 (by omega) (by kernel_rfl)
      clear hb hd
      rw [d9]
      clear d9
      obtain ⟨g, dg, d1⟩ := d7
      rw [dg]
      clear dg
      refine wpl_cpw rfl (.tmp 48) (.tmp 50) Tryz.weU Tryz.weI (by omega) (weV_one G H) rfl g rfl d1 A n c rfl ((HWS.out.below HB.out).below HB1.out) (by omega) ?_
      intro v' w' hq hbl
      exact ⟨v', rfl, hbl.out, (by obtain ⟨A', c', e, -, -, h, -⟩ := hq.out; exact ⟨A', c', e, h⟩), fun h => absurd h (by decide)⟩
    · refine OpOk.now rfl ?_
      have d1 : u 1 = _ := hd 1 (by omega) (by kernel_rfl)
      have d3 : u 3 = _ := hd 3 (by omega) (by kernel_rfl)
      have d6 : u 6 = _ := hd 6 (by omega) (by kernel_rfl)
      have d10 := hd 10 (by omega) (by kernel_rfl)
      clear hb hd
      rw [d1, d3, d6]
      clear d1 d3 d6
      obtain ⟨A', c', e10, r10⟩ := d10
      rw [e10]
      clear e10
      go_wp2_with (go_at_call 21; (with_reducible refine (HRC.out _ _ _ (HA1.out.below HB1.out) r10).mono ?_); rintro e w2 ⟨rfl, hb2⟩)
      exact ⟨_, rfl, hb2, rfl, fun h => absurd h (by decide)⟩
    · refine OpOk.now rfl ?_
      have d11 : u 11 = _ := hd 11 (by omega) (by kernel_rfl)
      clear hb hd
      rw [d11]
      clear d11
      go_wp2
      exact ⟨_, rfl, Below.refl _ _, rfl, fun h => absurd h (by decide)⟩
    · refine OpOk.now rfl ?_
      have d12 : u 12 = _ := hd 12 (by omega) (by kernel_rfl)
      clear hb hd
      rw [d12]
      clear d12
      go_wp2
      exact ⟨_, rfl, Below.refl _ _, rfl, fun h => absurd h (by decide)⟩
    · have d12 : u 12 = _ := hd 12 (by omega) (by kernel_rfl)
      clear hb hd
      rw [d12]
      clear d12
      refine OpOk.late rfl ?_
      exact ⟨_, yields_extract rfl _ _ rfl _ rfl _ rfl, rfl⟩
    · have d12 : u 12 = _ := hd 12 (by omega) (by kernel_rfl)
      clear hb hd
      rw [d12]
      clear d12
      refine OpOk.late rfl ?_
      exact ⟨_, yields_extract rfl _ _ rfl _ rfl _ rfl, rfl⟩
  case htail1 =>
    intro u A w1 hA hb hd hf
    simp only [putAll, dstOf, List.getElem?_toArray, List.getElem?_cons_succ, List.getElem?_cons_zero, Option.bind_some, Option.bind, Act.put, List.setIfInBounds_toArray, List.set_cons_succ, List.set_cons_zero] at hA; subst hA
    have e0 : u 0 = _ := hd 0 (by omega)
    have e1 : u 1 = _ := hd 1 (by omega)
    have e2 : u 2 = _ := hd 2 (by omega)
    have e3 : u 3 = _ := hd 3 (by omega)
    have e4 : u 4 = _ := hd 4 (by omega)
    have e5 : u 5 = _ := hd 5 (by omega)
    have e6 : u 6 = _ := hd 6 (by omega)
    have p7 := hd 7 (by omega)
    have e8 : u 8 = _ := hd 8 (by omega)
    have e9 : u 9 = _ := hd 9 (by omega)
    have p10 := hd 10 (by omega)
    have e11 : u 11 = _ := hd 11 (by omega)
    have e12 : u 12 = _ := hd 12 (by omega)
    have e13 : u 13 = _ := hd 13 (by omega)
    have e14 : u 14 = _ := hd 14 (by omega)
    have e15 : u 15 = _ := hd 15 (by omega)
    first | rw [e0, e1, e2, e3, e4, e5, e6, e8, e9, e11, e12, e13, e14, e15] | simp only [e0, e1, e2, e3, e4, e5, e6, e8, e9, e11, e12, e13, e14, e15]
    clear e0 e1 e2 e3 e4 e5 e6 e8 e9 e11 e12 e13 e14 e15
    clear hd hf
    clear p7 p10
    go_wp2_with (fail)
    dsimp only [NoPanic]
    have nHX := Lib.hid (HX.out.below hb)
    have nHY := Lib.hid (HY.out.below hb)
    have nHH := Lib.hid (HH.out.below hb)
    have nHQ := Lib.hid (HQ.out.below hb)
    have nHD1 := Lib.hid (HD1.out.below hb)
    have nHA1 := Lib.hid (HA1.out.below hb)
    have nHV1 := Lib.hid (HV1.out.below hb)
    have nHB := Lib.hid (bthen HB.out hb)
    clear HX HY HH HQ HD1 HA1 HV1 HB hb
    have HX := nHX
    have HY := nHY
    have HH := nHH
    have HQ := nHQ
    have HD1 := nHD1
    have HA1 := nHA1
    have HV1 := nHV1
    have HB := nHB
    clear nHX nHY nHH nHQ nHD1 nHA1 nHV1 nHB
    by_cases e1 : E = 0
    case neg =>
      have e1z : (E != 0) = true := by simpa using e1
      clear e1
      go_wp2_with (first | (go_at_call 9; (with_reducible refine (dworks_c _).mono ?_); rintro e w1 ⟨rfl, hb1⟩; have nHH := Lib.hid (HH.out.below hb1); have nHB := Lib.hid (bthen HB.out hb1); have zz1 := hb1.size; clear HH HB hb1; have HH := nHH; have HB := nHB; clear nHH nHB))
      go_ret
      exact ⟨rfl, HB.out⟩
    subst e1
    cases R2
    case false =>
      go_wp2_with (first | (go_at_call 9; (with_reducible refine (dworks_c _).mono ?_); rintro e w1 ⟨rfl, hb1⟩; have nHH := Lib.hid (HH.out.below hb1); have nHB := Lib.hid (bthen HB.out hb1); have zz1 := hb1.size; clear HH HB hb1; have HH := nHH; have HB := nHB; clear nHH nHB))
      go_ret
      exact ⟨rfl, HB.out⟩
    have HLW := Lib.hid (fun k hk => dev_law HS.out.1 HS.out.2 HRE.out (by rw [HR.out]) k hk)
    have hab := insB_iff.1 (appE_parts HS.out.2).2.2.2
    have hlo := hab.2.1
    have hhi := hab.2.2.2
    have hvs := (vspan_iff'.1 hab.1).2.1
    have hns := (DekD.ok_of (scE_bad HS.out.1)).ns
    have HSE := Lib.hid (DekD.ok_of (scE_bad HS.out.1)).s
    clear hab
    go_wp2_with (fail)
    have K0 := Lib.hid (show DvK D vA vB vC (.slice A1 D.ns k1) (.slice A2 D.nh k2) (.slice A3 D.nu k3) M vF vS (.slice A4 M.n k4) (.slice A5 M.m k5) Mo vP vR vV (.slice A6 Mo.np k6) (.slice A7 Mo.nr k7) (.slice A8 Mo.nv k8) a hp f A n c gHQ w _ from ⟨HB.out, HX.out, HY.out, HH.out, HQ.out, HD1.out, HA1.out, HV1.out⟩)
    clear HB HX HY HH HQ HD1 HA1 HV1
    go_loopg [11] n (fun gx i wr => ∃ k : Nat, i = .int .i64 k ∧ k ≤ n ∧ n - k ≤ gx ∧ Hid (DvK D vA vB vC (.slice A1 D.ns k1) (.slice A2 D.nh k2) (.slice A3 D.nu k3) M vF vS (.slice A4 M.n k4) (.slice A5 M.m k5) Mo vP vR vV (.slice A6 Mo.np k6) (.slice A7 Mo.nr k7) (.slice A8 Mo.nv k8) a hp f A n c gHQ w wr))
    case atStart => exact ⟨0, rfl, Nat.zero_le _, Nat.le_refl _, K0⟩
    case round =>
      clear K0
      obtain ⟨k, rfl, hk, hgx, K0⟩ := hrel
      have m1 := K0.out.h.cell 1
      have m2 := K0.out.h.cell 2
      simp only [List.getElem?_toArray, List.getElem?_cons_succ, List.getElem?_cons_zero] at m1 m2
      by_cases hlt : k < n
      · have hltz : (k : Int) < (n : Int) := by omega
        obtain ⟨l1, l2, l3, l4⟩ := HLW.out k hlt
        have hwk := fun w1 h1 h2 h3 => dWhy_c D (.slice A1 D.ns k1) (.slice A2 D.nh k2) (.slice A3 D.nu k3) M (.slice A4 M.n k4) (.slice A5 M.m k5) Mo (.slice A6 Mo.np k6) (.slice A7 Mo.nr k7) (.slice A8 Mo.nv k8) a (f + k) w1 h1 h2 h3
        have l4' : whyV D M Mo a (f + k) = 0 → _ := fun h => l4 (by unfold whyV at h; rw [if_pos l1] at h; exact h)
        rw [l1] at hwk
        generalize whyV D M Mo a (f + k) = V at *
        have L4 := Lib.hid l4'
        have HWK := Lib.hid hwk
        clear l1 l4 l4' hwk
        go_wp2_with (first | (refine wpl_mid rfl 26 (.tmp 71) rfl _ 0 rfl 39 #[.int .i64 D.size, .int .i64 D.load, .int .i64 D.wind, .slice A1 D.ns k1, .int .i64 D.pitch, .int .i64 D.roll, .int .i64 D.heave, .int .i64 D.fire, .slice A2 D.nh k2, .slice A3 D.nu k3, .int .i64 M.places, .int .i64 M.any.a0, .int .i64 M.any.a1, .int .i64 M.any.a2, .int .i64 M.any.a3, .int .i64 M.any.a4, .int .i64 M.any.a5, .bool M.any.i, .bool M.any.s, .int .i64 M.mw, .int .i64 M.ms, .int .i64 M.mc, .slice A4 M.n k4, .slice A5 M.m k5, .slice A6 Mo.np k6, .slice A7 Mo.nr k7, .slice A8 Mo.nv k8] #[.int .i64 D.size, .int .i64 D.load, .int .i64 D.wind, .slice A1 D.ns k1, .int .i64 D.pitch, .int .i64 D.roll, .int .i64 D.heave, .int .i64 D.fire, .slice A2 D.nh k2, .slice A3 D.nu k3] 10 K0.out.q Tryz.rowDek [] [.int .i64 M.places, .int .i64 M.any.a0, .int .i64 M.any.a1, .int .i64 M.any.a2, .int .i64 M.any.a3, .int .i64 M.any.a4, .int .i64 M.any.a5, .bool M.any.i, .bool M.any.s, .int .i64 M.mw, .int .i64 M.ms, .int .i64 M.mc, .slice A4 M.n k4, .slice A5 M.m k5, .slice A6 Mo.np k6, .slice A7 Mo.nr k7, .slice A8 Mo.nv k8] rfl rfl rfl ?_; simp only [Act.put]) | (refine wpl_mid rfl 34 (.tmp 73) rfl _ 10 rfl 39 #[.int .i64 D.size, .int .i64 D.load, .int .i64 D.wind, .slice A1 D.ns k1, .int .i64 D.pitch, .int .i64 D.roll, .int .i64 D.heave, .int .i64 D.fire, .slice A2 D.nh k2, .slice A3 D.nu k3, .int .i64 M.places, .int .i64 M.any.a0, .int .i64 M.any.a1, .int .i64 M.any.a2, .int .i64 M.any.a3, .int .i64 M.any.a4, .int .i64 M.any.a5, .bool M.any.i, .bool M.any.s, .int .i64 M.mw, .int .i64 M.ms, .int .i64 M.mc, .slice A4 M.n k4, .slice A5 M.m k5, .slice A6 Mo.np k6, .slice A7 Mo.nr k7, .slice A8 Mo.nv k8] #[.int .i64 M.places, .int .i64 M.any.a0, .int .i64 M.any.a1, .int .i64 M.any.a2, .int .i64 M.any.a3, .int .i64 M.any.a4, .int .i64 M.any.a5, .bool M.any.i, .bool M.any.s, .int .i64 M.mw, .int .i64 M.ms, .int .i64 M.mc, .slice A4 M.n k4, .slice A5 M.m k5] 14 K0.out.q Tryz.rowMet [.int .i64 D.size, .int .i64 D.load, .int .i64 D.wind, .slice A1 D.ns k1, .int .i64 D.pitch, .int .i64 D.roll, .int .i64 D.heave, .int .i64 D.fire, .slice A2 D.nh k2, .slice A3 D.nu k3] [.slice A6 Mo.np k6, .slice A7 Mo.nr k7, .slice A8 Mo.nv k8] rfl rfl rfl ?_; simp only [Act.put]) | (refine wpl_mid rfl 37 (.tmp 75) rfl _ 24 rfl 39 #[.int .i64 D.size, .int .i64 D.load, .int .i64 D.wind, .slice A1 D.ns k1, .int .i64 D.pitch, .int .i64 D.roll, .int .i64 D.heave, .int .i64 D.fire, .slice A2 D.nh k2, .slice A3 D.nu k3, .int .i64 M.places, .int .i64 M.any.a0, .int .i64 M.any.a1, .int .i64 M.any.a2, .int .i64 M.any.a3, .int .i64 M.any.a4, .int .i64 M.any.a5, .bool M.any.i, .bool M.any.s, .int .i64 M.mw, .int .i64 M.ms, .int .i64 M.mc, .slice A4 M.n k4, .slice A5 M.m k5, .slice A6 Mo.np k6, .slice A7 Mo.nr k7, .slice A8 Mo.nv k8] #[.slice A6 Mo.np k6, .slice A7 Mo.nr k7, .slice A8 Mo.nv k8] 3 K0.out.q Tryz.rowMov [.int .i64 D.size, .int .i64 D.load, .int .i64 D.wind, .slice A1 D.ns k1, .int .i64 D.pitch, .int .i64 D.roll, .int .i64 D.heave, .int .i64 D.fire, .slice A2 D.nh k2, .slice A3 D.nu k3, .int .i64 M.places, .int .i64 M.any.a0, .int .i64 M.any.a1, .int .i64 M.any.a2, .int .i64 M.any.a3, .int .i64 M.any.a4, .int .i64 M.any.a5, .bool M.any.i, .bool M.any.s, .int .i64 M.mw, .int .i64 M.ms, .int .i64 M.mc, .slice A4 M.n k4, .slice A5 M.m k5] [] rfl rfl rfl ?_; simp only [Act.put]) | (refine wpl_row rfl 43 (.tmp 4) rfl _ rfl #[.int .i64 a.size, .int .i64 a.weight, .int .i64 a.lw, .int .i64 a.ls, .int .i64 a.lc, .bool a.li, .bool a.lt, .int .i64 a.place, .int .i64 a.lo, .int .i64 a.hi] 10 K0.out.y Tryz.rowApp rfl ?_; simp only [Act.put]))
        refine (HWK.out _ K0.out.d K0.out.m K0.out.o).mono ?_
        rintro e w1 ⟨A9, c9, rfl, hb1⟩
        have K1 := Lib.hid (K0.out.grow hb1)
        clear K0 HWK hb1 m1 m2
        by_cases hv0 : V = 0
        case neg =>
          have hv1 : 0 < V := by omega
          go_wp2_with (fail)
          go_roundg (n - (k + 1))
          case measure => omega
          case rel => exact ⟨k + 1, by first | rfl | go_num | (congr 1; omega), by omega, Nat.le_refl _, K1⟩
        obtain ⟨hfl, hwd, hsz, hwt, hsec⟩ := L4.out hv0
        subst hv0
        clear L4
        obtain ⟨bw, off, rfl, hbw, hcell⟩ := HWS.out (by omega)
        have c0 : w1.cell? ⟨bw, off + k * 5, none⟩ = some (.int .i64 (G k 0)) := (K1.out.b.cell (p := ⟨bw, off + k * 5 + 0, none⟩) hbw).trans (hcell k hlt 0 (by omega))
        have c1 : w1.cell? ⟨bw, off + k * 5 + 1, none⟩ = some (.int .i64 (G k 1)) := (K1.out.b.cell (p := ⟨bw, off + k * 5 + 1, none⟩) hbw).trans (hcell k hlt 1 (by omega))
        have c2 : w1.cell? ⟨bw, off + k * 5 + 2, none⟩ = some (.int .i64 (G k 2)) := (K1.out.b.cell (p := ⟨bw, off + k * 5 + 2, none⟩) hbw).trans (hcell k hlt 2 (by omega))
        have c3 : w1.cell? ⟨bw, off + k * 5 + 3, none⟩ = some (.bool (H k 3)) := (K1.out.b.cell (p := ⟨bw, off + k * 5 + 3, none⟩) hbw).trans (hcell k hlt 3 (by omega))
        have c4 : w1.cell? ⟨bw, off + k * 5 + 4, none⟩ = some (.bool (H k 4)) := (K1.out.b.cell (p := ⟨bw, off + k * 5 + 4, none⟩) hbw).trans (hcell k hlt 4 (by omega))
        have m2 := K1.out.h.cell 2
        simp only [List.getElem?_toArray, List.getElem?_cons_succ, List.getElem?_cons_zero] at m2
        clear hcell
        have HFL := Lib.hid (fun w1 => rw_Flyable_c (G k 0) (G k 1) (G k 2) (H k 3) (H k 4) a.lw a.ls a.lc a.li a.lt w1)
        rw [hfl] at HFL
        have HSEC := Lib.hid hsec
        clear hfl hsec
        generalize G k 0 = g0 at *
        generalize G k 1 = g1 at *
        generalize G k 2 = g2 at *
        generalize H k 3 = g3 at *
        generalize H k 4 = g4 at *
        have tokw : True := trivial
        go_wp2_with (first | (have _t := tokw; refine wpl_row rfl 76 (.tmp 14) rfl _ rfl #[.int .i64 g0, .int .i64 g1, .int .i64 g2, .bool g3, .bool g4] 5 (Blk.new _ _ _) Tryz.rowWe rfl ?_; simp only [Act.put]; clear tokw; have HW := Lib.hid (Blk.new w1 76 #[.int .i64 g0, .int .i64 g1, .int .i64 g2, .bool g3, .bool g4]); have K2 := Lib.hid (K1.out.grow (bal (RowKit.Below.refl _ _) (.cells #[.int .i64 g0, .int .i64 g1, .int .i64 g2, .bool g3, .bool g4] 76))); clear K1 c0 c1 c2 c3 c4 m2; generalize w1.alloc (.cells #[.int .i64 g0, .int .i64 g1, .int .i64 g2, .bool g3, .bool g4] 76) = w2 at *; generalize w1.heap.size = gW at *; have x0 := K2.out.x.cell 0; have x1 := K2.out.x.cell 1; have x2 := K2.out.x.cell 2; have y0 := K2.out.y.cell 0; have y1 := K2.out.y.cell 1; have y8 := K2.out.y.cell 8; have hw0 := HW.out.cell 0; simp only [List.getElem?_toArray, List.getElem?_cons_succ, List.getElem?_cons_zero] at x0 x1 x2 y0 y1 y8 hw0) | (refine wpl_mid rfl 41 (.tmp 97) rfl _ 2 rfl 43 #[.int .i64 a.size, .int .i64 a.weight, .int .i64 a.lw, .int .i64 a.ls, .int .i64 a.lc, .bool a.li, .bool a.lt, .int .i64 a.place, .int .i64 a.lo, .int .i64 a.hi] #[.int .i64 a.lw, .int .i64 a.ls, .int .i64 a.lc, .bool a.li, .bool a.lt] 5 K2.out.y Tryz.rowMin [.int .i64 a.size, .int .i64 a.weight] [.int .i64 a.place, .int .i64 a.lo, .int .i64 a.hi] rfl rfl rfl ?_; simp only [Act.put]) | (go_at_call 22; (with_reducible refine (HFL.out _).mono ?_); rintro e w3 ⟨rfl, hb3⟩; have nK2 := Lib.hid (K2.out.grow hb3); have nHW := Lib.hid (HW.out.below hb3); clear K2 HW x0 x1 x2 y0 y1 y8 hw0 hb3; have K2 := nK2; have HW := nHW; clear nK2 nHW; have x0 := K2.out.x.cell 0; have x1 := K2.out.x.cell 1; have x2 := K2.out.x.cell 2; have y0 := K2.out.y.cell 0; have y1 := K2.out.y.cell 1; have y8 := K2.out.y.cell 8; have hw0 := HW.out.cell 0; simp only [List.getElem?_toArray, List.getElem?_cons_succ, List.getElem?_cons_zero] at x0 x1 x2 y0 y1 y8 hw0))
        clear x0 x1 x2 y0 y1 y8 hw0 HFL
        go_loopg [15] (a.hi + 1 - a.lo).toNat (fun gy i wr => ∃ m : Int, i = .int .i64 m ∧ a.lo ≤ m ∧ m ≤ a.hi + 1 ∧ (a.hi + 1 - m).toNat ≤ gy ∧ Hid (DvK D vA vB vC (.slice A1 D.ns k1) (.slice A2 D.nh k2) (.slice A3 D.nu k3) M vF vS (.slice A4 M.n k4) (.slice A5 M.m k5) Mo vP vR vV (.slice A6 Mo.np k6) (.slice A7 Mo.nr k7) (.slice A8 Mo.nv k8) a hp f (some ⟨bw, off, none⟩) n c gHQ w wr) ∧ Hid (Blk wr gW 76 #[.int .i64 g0, .int .i64 g1, .int .i64 g2, .bool g3, .bool g4]))
        case atStart => exact ⟨a.lo, rfl, Int.le_refl _, by omega, Nat.le_refl _, K2, HW⟩
        case round =>
          clear K2 HW
          obtain ⟨m, rfl, hm0, hm1, hgy, K2, HW⟩ := hrel
          have y9 := K2.out.y.cell 9
          simp only [List.getElem?_toArray, List.getElem?_cons_succ, List.getElem?_cons_zero] at y9
          by_cases hml : m ≤ a.hi
          · go_wp2_with (fail)
            clear y9
            go_loopg [16] D.ns (fun gz i wr => ∃ q : Nat, i = .int .i64 q ∧ q ≤ D.ns ∧ D.ns - q ≤ gz ∧ Hid (DvK D vA vB vC (.slice A1 D.ns k1) (.slice A2 D.nh k2) (.slice A3 D.nu k3) M vF vS (.slice A4 M.n k4) (.slice A5 M.m k5) Mo vP vR vV (.slice A6 Mo.np k6) (.slice A7 Mo.nr k7) (.slice A8 Mo.nv k8) a hp f (some ⟨bw, off, none⟩) n c gHQ w wr) ∧ Hid (Blk wr gW 76 #[.int .i64 g0, .int .i64 g1, .int .i64 g2, .bool g3, .bool g4]))
            case atStart => exact ⟨0, rfl, Nat.zero_le _, Nat.le_refl _, K2, HW⟩
            case round =>
              clear K2 HW
              obtain ⟨q, rfl, hq, hgz, K2, HW⟩ := hrel
              have x3 : wr.cell? ⟨w.heap.size, 3, none⟩ = some (.slice A0 D.ns k0) := by
                have := K2.out.x.cell 3
                simp only [List.getElem?_toArray, List.getElem?_cons_succ, List.getElem?_cons_zero] at this
                rw [this, HVA.out]
              have hw0 := HW.out.cell 0
              simp only [List.getElem?_toArray, List.getElem?_cons_succ, List.getElem?_cons_zero] at hw0
              by_cases hql : q < D.ns
              · have hqlz : (q : Int) < (D.ns : Int) := by omega
                obtain ⟨bs, os, rfl, hbs, hcs⟩ := HRS.out (by omega)
                have s0 : wr.cell? ⟨bs, os + q * 3, none⟩ = some (.int .i64 (D.S q 0)) := (K2.out.b.cell (p := ⟨bs, os + q * 3 + 0, none⟩) hbs).trans (hcs q hql 0 (by omega))
                have s1 : wr.cell? ⟨bs, os + q * 3 + 1, none⟩ = some (.int .i64 (D.S q 1)) := (K2.out.b.cell (p := ⟨bs, os + q * 3 + 1, none⟩) hbs).trans (hcs q hql 1 (by omega))
                have s2 : wr.cell? ⟨bs, os + q * 3 + 2, none⟩ = some (.int .i64 (D.S q 2)) := (K2.out.b.cell (p := ⟨bs, os + q * 3 + 2, none⟩) hbs).trans (hcs q hql 2 (by omega))
                clear hcs
                have hs := HSE.out q hql
                have hq3 := HSEC.out m q hm0 hml hql
                have zW := HW.out.lt
                have K3 := Lib.hid (K2.out.grow (bal (RowKit.Below.refl _ _) (.cells #[.int .i64 (D.S q 0), .int .i64 (D.S q 1), .int .i64 (D.S q 2)] 79)))
                have HW3 := Lib.hid (HW.out.alloc (.cells #[.int .i64 (D.S q 0), .int .i64 (D.S q 1), .int .i64 (D.S q 2)] 79))
                by_cases hcd : (m - D.S q 0) % 360 ≤ (D.S q 1 - D.S q 0) % 360
                · have hle := hq3 (sec_mod hs.1 hs.2.1 hcd)
                  clear hq3
                  go_wp2_with (fail)
                  go_roundg (D.ns - (q + 1))
                  case measure => omega
                  case rel => exact ⟨q + 1, by first | rfl | go_num | (congr 1; omega), by omega, Nat.le_refl _, K3, HW3⟩
                · clear hq3
                  go_wp2_with (fail)
                  go_roundg (D.ns - (q + 1))
                  case measure => omega
                  case rel => exact ⟨q + 1, by first | rfl | go_num | (congr 1; omega), by omega, Nat.le_refl _, K3, HW3⟩
              · obtain rfl : q = D.ns := by omega
                go_wp2_with (fail)
                go_roundg (a.hi + 1 - (m + 1)).toNat
                case measure => omega
                case rel => exact ⟨m + 1, by first | rfl | go_num | (congr 1; omega), by omega, by omega, by omega, K2, HW⟩
          · go_wp2_with (fail)
            go_roundg (n - (k + 1))
            case measure => omega
            case rel => exact ⟨k + 1, by first | rfl | go_num | (congr 1; omega), by omega, Nat.le_refl _, K2⟩
      · obtain rfl : k = n := by omega
        go_wp2_with (first | (go_at_call 9; refine (dworks_c _).mono ?_; rintro _ w2 ⟨rfl, hb2⟩))
        go_ret
        exact ⟨rfl, bthen K0.out.b hb2⟩
end Go.Proofs.YtafkifjebimdaaaGreat
