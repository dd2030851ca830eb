/- The law DeckOne: no two bookings have a tick in common, in each tick of a booking the deck is open for it, none begins before its At, none could be earlier, and one booking more at the end leaves the others their ticks. -/
import Derived.Test.YtafkifjebimdaaaGreatDlB
import Derived.Test.YtafkifjebimdaaaGreatDkY
import Derived.Test.YtafkifjebimdaaaGreatJAQ
import Derived.Test.YtafkifjebimdaaaGreatDnC
set_option linter.all false
namespace Go.Proofs.YtafkifjebimdaaaGreat
open Go Go.RowKit Go.Proofs
set_option maxRecDepth 100000
set_option maxHeartbeats 8000000
theorem Tryz.bkU : Tryz.prog.underlying 81 = some (.slice 83) := by kernel_rfl
theorem Tryz.bkI : (Tryz.prog.info? 83).map (fun i => (i.zero.map (·.cells.size), i.size, decide (i.bytes ≤ 200))) = some (some 12, 12, true) := by kernel_rfl
/-- A slice of bookings. -/
def BksV (T : Nat → Nat → Int) (B : Nat → Nat → Bool) (n : Nat) (v : Value) (w : World) : Prop := ∃ A c, v = .slice A n c ∧ n ≤ c ∧ c ≤ 9223372036854775807 ∧ RecsAt w A n 12 (bkC T B)
theorem BksV.below {T : Nat → Nat → Int} {B : Nat → Nat → Bool} {n : Nat} {v : Value} {w w' : World} (h : BksV T B n v w) (hb : Below w.heap.size w w') : BksV T B n v w' := by
  obtain ⟨A, c, e, q1, q2, h⟩ := h
  exact ⟨A, c, e, q1, q2, h.below hb⟩
def EmptyK (v : Value) (w : World) : Prop := ∃ g, v = .slice (some ⟨g, 0, none⟩) 0 0 ∧ Blk w g 83 #[]
theorem EmptyK.below {v : Value} {w w' : World} (h : EmptyK v w) (hb : Below w.heap.size w w') : EmptyK v w' := by
  obtain ⟨g, e, h⟩ := h
  exact ⟨g, e, h.below hb⟩
def BokV (E : Int) (P : Nat → Int) (n : Nat) (v : Value) (w : World) : Prop := ∃ x, v = .tuple #[x, .int .i64 E] ∧ (E = 0 → SlAt w x n 1 (lV P))
theorem BokV.below {E : Int} {P : Nat → Int} {n : Nat} {v : Value} {w w' : World} (h : BokV E P n v w) (hb : Below w.heap.size w w') : BokV E P n v w' := by
  obtain ⟨g, e, h⟩ := h
  exact ⟨g, e, fun q => (h q).below hb⟩
def OutV (E : Int) (P : Nat → Int) (n : Nat) (v : Value) (w : World) : Prop := E = 0 → SlAt w v n 1 (lV P)
theorem OutV.below {E : Int} {P : Nat → Int} {n : Nat} {v : Value} {w w' : World} (h : OutV E P n v w) (hb : Below w.heap.size w w') : OutV E P n v w' := fun q => (h q).below hb
theorem RecsAt.less {w : World} {A : Option Addr} {n m k : Nat} {V : Nat → Nat → Value} (h : RecsAt w A n k V) (hm : m ≤ n) : RecsAt w A m k V := fun q => by
  obtain ⟨b, off, e, h1, h2⟩ := h (by omega)
  exact ⟨b, off, e, h1, fun i hi => h2 i (by omega)⟩
theorem RecsAt.get {w : World} {b off n k : Nat} {V : Nat → Nat → Value} (h : RecsAt w (some ⟨b, off, none⟩) n k V) {i j : Nat} (hi : i < n) (hj : j < k) : w.cell? ⟨b, off + i * k + j, none⟩ = some (V i j) := by
  obtain ⟨b', off', e, h1, h2⟩ := h (by omega)
  cases e
  exact h2 i hi j hj
theorem RecsAt.get1 {w : World} {b off n : Nat} {P : Nat → Int} (h : RecsAt w (some ⟨b, off, none⟩) n 1 (lV P)) {i : Nat} (hi : i < n) : w.cell? ⟨b, off + i, none⟩ = some (.int .i64 (P i)) := by
  have := h.get hi (j := 0) (by omega)
  rw [Nat.mul_one, Nat.add_zero] at this
  exact this
theorem RecsAt.bk0 {w : World} {b off n : Nat} {T : Nat → Nat → Int} {B : Nat → Nat → Bool} (h : RecsAt w (some ⟨b, off, none⟩) n 12 (bkC T B)) {i : Nat} (hi : i < n) : w.cell? ⟨b, off + i * 12, none⟩ = some (.int .i64 (T i 0)) := h.get hi (j := 0) (by omega)
theorem RecsAt.bk1 {w : World} {b off n : Nat} {T : Nat → Nat → Int} {B : Nat → Nat → Bool} (h : RecsAt w (some ⟨b, off, none⟩) n 12 (bkC T B)) {i : Nat} (hi : i < n) : w.cell? ⟨b, off + i * 12 + 1, none⟩ = some (.int .i64 (T i 1)) := h.get hi (j := 1) (by omega)
/-- What Book's answer says of a booking, in terms of what the law looks at. -/
theorem bkO_spec {D : DekD} {M : MetD} {Mo : MovD} {T : Nat → Nat → Int} {B : Nat → Nat → Bool} {n k : Nat} (h : bookE D M Mo T B n = 0) (hk : k < n) :
    (bkO D M Mo T B k = -1 ∨ (T k 0 ≤ bkO D M Mo T B k ∧ bkO D M Mo T B k + T k 1 ≤ 2001 ∧ (∀ x, bkO D M Mo T B k ≤ x → x < bkO D M Mo T B k + T k 1 → bkdB (bkO D M Mo T B) (fun j => T j 1) x k = false ∧ whyN D M Mo (apK T B k) x = 0) ∧
      ∀ s, T k 0 ≤ s → s < bkO D M Mo T B k → ∃ x, s ≤ x ∧ x < s + T k 1 ∧ ¬ (bkdB (bkO D M Mo T B) (fun j => T j 1) x k = false ∧ whyN D M Mo (apK T B k) x = 0))) ∧ (0 ≤ T k 0 ∧ T k 0 ≤ 2000) ∧ (1 ≤ T k 1 ∧ T k 1 ≤ 100) ∧ appE M (apK T B k) = 0 := by
  obtain ⟨ga, ⟨gb, gc⟩, gd, ge⟩ := (bookE_ok h).2.2 k hk
  have hok : ∀ x, bkOk D M Mo (bkL D M Mo T B k) (apK T B k) x = true ↔ (bkdB (bkO D M Mo T B) (fun j => T j 1) x k = false ∧ whyN D M Mo (apK T B k) x = 0) := fun x => by
    unfold bkOk
    rw [bkdB_bkL]
    simp
  refine ⟨?_, ⟨gb, gc⟩, ⟨gd, ge⟩, ga⟩
  rcases bkV_spec (ok := bkOk D M Mo (bkL D M Mo T B k) (apK T B k)) gd gc with e | ⟨e1, e2, e3, e4⟩
  · exact Or.inl e
  · refine Or.inr ⟨e1, e2, fun x q1 q2 => (hok x).1 (e3 x q1 q2), fun s q1 q2 => ?_⟩
    obtain ⟨x, q3, q4, q5⟩ := e4 s q1 q2
    refine ⟨x, q3, q4, fun q => ?_⟩
    rw [(hok x).2 q] at q5
    cases q5
theorem bkO_in {D : DekD} {M : MetD} {Mo : MovD} {T : Nat → Nat → Int} {B : Nat → Nat → Bool} {n : Nat} (h : bookE D M Mo T B n = 0) (j : Nat) (hj : j < n) : (-1 ≤ bkO D M Mo T B j ∧ bkO D M Mo T B j ≤ 2001) ∧ 1 ≤ T j 1 ∧ T j 1 ≤ 100 := by
  obtain ⟨h1, h2, h3, -⟩ := bkO_spec h hj
  rcases h1 with e | ⟨e1, e2, -⟩ <;> omega
/-- Why for a booking that Book accepts, in a tick. -/
theorem dWhyK (D : DekD) (vA vB vC : Value) (M : MetD) (vF vS : Value) (Mo : MovD) (vP vR vV : Value) (T : Nat → Nat → Int) (B : Nat → Nat → Bool) (k : Nat) (hs : scE D M Mo = 0) (ha : appE M (apK T B k) = 0) (t : Int) (h0 : 0 ≤ t) (h1 : t ≤ 2000) (w : World) (hD : DekAt w vA vB vC D) (hA : MetAt w vF vS M) (hV : MovAt w vP vR vV Mo) :
   Calls Tryz.prog 11 #[.agg #[.int .i64 D.size, .int .i64 D.load, .int .i64 D.wind, vA, .int .i64 D.pitch, .int .i64 D.roll, .int .i64 D.heave, .int .i64 D.fire, vB, vC], .agg #[.int .i64 M.places, .int .i64 M.any.a0, .int .i64 M.any.a1, .int .i64 M.any.a2, .int .i64 M.any.a3, .int .i64 M.any.a4, .int .i64 M.any.a5, .bool M.any.i, .bool M.any.s, .int .i64 M.mw, .int .i64 M.ms, .int .i64 M.mc, vF, vS], .agg #[vP, vR, vV], .agg #[.int .i64 (T k 2), .int .i64 (T k 3), .int .i64 (T k 4), .int .i64 (T k 5), .int .i64 (T k 6), .bool (B k 7), .bool (B k 8), .int .i64 (T k 9), .int .i64 (T k 10), .int .i64 (T k 11)], .int .i64 t] w fun e w' => ∃ A c, e = .returned (.tuple #[.slice A (whyN D M Mo (apK T B k) t) c, .int .i64 0]) ∧ Below w.heap.size w w' := by
  have h := dWhy_c D vA vB vC M vF vS Mo vP vR vV (apK T B k) t w hD hA hV
  have hE : whyE D M Mo (apK T B k) t = 0 := caE_mk hs ha (inB_iff.2 ⟨h0, h1⟩)
  rw [whyV, if_pos hE, hE] at h
  exact h
def WhyT (N : Nat) (v : Value) : Prop := ∃ A c, v = .tuple #[.slice A N c, .int .i64 0]
def WhyS (N : Nat) (v : Value) : Prop := ∃ A c, v = .slice A N c
def on1 (gQ : Nat) (r1 r2 r3 l : Value) (T : Nat → Nat → Int) (B : Nat → Nat → Bool) (n : Nat) (P : Nat → Int) (E : Int) : Nat → Value → World → Prop
  | 0, v, _ => v = .pointer (some ⟨gQ, 0, none⟩)
  | 1, v, _ => v = r1
  | 2, v, _ => v = .pointer (some ⟨gQ, 10, none⟩)
  | 3, v, _ => v = r2
  | 4, v, _ => v = .pointer (some ⟨gQ, 24, none⟩)
  | 5, v, _ => v = r3
  | 6, v, w => EmptyK v w
  | 7, v, _ => v = l
  | 8, v, w => BksV T B n v w
  | 9, v, w => BokV E P n v w
  | 10, v, w => BokV E P n v w
  | 11, v, w => OutV E P n v w
  | 12, v, _ => v = .int .i64 E
  | _, _, _ => True
theorem on1_below {gQ : Nat} {r1 r2 r3 l : Value} {T : Nat → Nat → Int} {B : Nat → Nat → Bool} {n : Nat} {P : Nat → Int} {E : Int} (k : Nat) (v : Value) (w w' : World) (hb : Below w.heap.size w w') (h : on1 gQ r1 r2 r3 l T B n P E k v w) : on1 gQ r1 r2 r3 l T B n P E k v w' := by
  unfold on1 at *
  split at h <;> first | exact h | exact EmptyK.below h hb | exact BksV.below h hb | exact BokV.below h hb | exact OutV.below h hb
def on2 (gQ : Nat) (r1 r2 r3 l x : Value) (T : Nat → Nat → Int) (B : Nat → Nat → Bool) (n m : Nat) (P : Nat → Int) (E : Int) : Nat → Value → World → Prop
  | 0, v, _ => v = .pointer (some ⟨gQ, 0, none⟩)
  | 1, v, _ => v = r1
  | 2, v, _ => v = .pointer (some ⟨gQ, 10, none⟩)
  | 3, v, _ => v = r2
  | 4, v, _ => v = .pointer (some ⟨gQ, 24, none⟩)
  | 5, v, _ => v = r3
  | 6, v, w => EmptyK v w
  | 7, v, _ => v = l
  | 8, v, _ => v = l
  | 9, v, _ => v = .int .i64 (n : Int)
  | 10, v, _ => v = .int .i64 (m : Int)
  | 11, v, _ => v = x
  | 12, v, w => BksV T B m v w
  | 13, v, w => BokV E P m v w
  | 14, v, w => BokV E P m v w
  | 15, v, w => OutV E P m v w
  | 16, v, _ => v = .int .i64 E
  | _, _, _ => True
theorem on2_below {gQ : Nat} {r1 r2 r3 l x : Value} {T : Nat → Nat → Int} {B : Nat → Nat → Bool} {n m : Nat} {P : Nat → Int} {E : Int} (k : Nat) (v : Value) (w w' : World) (hb : Below w.heap.size w w') (h : on2 gQ r1 r2 r3 l x T B n m P E k v w) : on2 gQ r1 r2 r3 l x T B n m P E k v w' := by
  unfold on2 at *
  split at h <;> first | exact h | exact EmptyK.below h hb | exact BksV.below h hb | exact BokV.below h hb | exact OutV.below h hb
def on3 (gQ : Nat) (r1 r2 r3 l y p1 p2 a t : Value) (N : Nat) : Nat → Value → World → Prop
  | 0, v, _ => v = .pointer (some ⟨gQ, 0, none⟩)
  | 1, v, _ => v = r1
  | 2, v, _ => v = .pointer (some ⟨gQ, 10, none⟩)
  | 3, v, _ => v = r2
  | 4, v, _ => v = .pointer (some ⟨gQ, 24, none⟩)
  | 5, v, _ => v = r3
  | 6, v, _ => v = l
  | 7, v, _ => v = y
  | 8, v, _ => v = p1
  | 9, v, _ => v = p2
  | 10, v, _ => v = a
  | 11, v, _ => v = t
  | 12, v, w => WhyT N v
  | 13, v, w => WhyT N v
  | 14, v, w => WhyS N v
  | 15, v, _ => v = .int .i64 0
  | _, _, _ => True
theorem on3_below {gQ : Nat} {r1 r2 r3 l y p1 p2 a t : Value} {N : Nat} (k : Nat) (v : Value) (w w' : World) (hb : Below w.heap.size w w') (h : on3 gQ r1 r2 r3 l y p1 p2 a t N k v w) : on3 gQ r1 r2 r3 l y p1 p2 a t N k v w' := by
  unfold on3 at *
  split at h <;> first | exact h | exact h
theorem dpicks (n s : Int) (hs : 1 ≤ s) : ∃ K, n.tmod s % s = K ∧ 0 ≤ K ∧ K < s ∧ n.tmod s < s ∧ -s < n.tmod s :=
  ⟨_, rfl, Int.emod_nonneg _ (by omega), Int.emod_lt_of_pos _ (by omega), Int.tmod_lt_of_pos n (by omega), by have := Int.lt_tmod_of_pos n (show 0 < s by omega); omega⟩
/-- What the loops keep. -/
structure OnK (D : DekD) (A1 A2 A3 : Option Addr) (k1 k2 k3 : Nat) (M : MetD) (A4 A5 : Option Addr) (k4 k5 : Nat) (Mo : MovD) (A6 A7 A8 : Option Addr) (k6 k7 k8 : Nat) (T : Nat → Nat → Int) (B : Nat → Nat → Bool) (A : Option Addr) (n : Nat) (Ao : Option Addr) (gQ : Nat) (w wr : World) : Prop where
  b : RowKit.Below w.heap.size w wr
  q : Blk wr gQ 39 #[.int .i64 D.size, .int .i64 D.load, .int .i64 D.wind, .slice A1 D.ns k1, .int .i64 D.pitch, .int .i64 D.roll, .int .i64 D.heave, .int .i64 D.fire, .slice A2 D.nh k2, .slice A3 D.nu k3, .int .i64 M.places, .int .i64 M.any.a0, .int .i64 M.any.a1, .int .i64 M.any.a2, .int .i64 M.any.a3, .int .i64 M.any.a4, .int .i64 M.any.a5, .bool M.any.i, .bool M.any.s, .int .i64 M.mw, .int .i64 M.ms, .int .i64 M.mc, .slice A4 M.n k4, .slice A5 M.m k5, .slice A6 Mo.np k6, .slice A7 Mo.nr k7, .slice A8 Mo.nv k8]
  d : DekAt wr (.slice A1 D.ns k1) (.slice A2 D.nh k2) (.slice A3 D.nu k3) D
  m : MetAt wr (.slice A4 M.n k4) (.slice A5 M.m k5) M
  o : MovAt wr (.slice A6 Mo.np k6) (.slice A7 Mo.nr k7) (.slice A8 Mo.nv k8) Mo
  l : RecsAt wr A n 12 (bkC T B)
  s : RecsAt wr Ao n 1 (lV (bkO D M Mo T B))
theorem OnK.grow {D : DekD} {A1 A2 A3 : Option Addr} {k1 k2 k3 : Nat} {M : MetD} {A4 A5 : Option Addr} {k4 k5 : Nat} {Mo : MovD} {A6 A7 A8 : Option Addr} {k6 k7 k8 : Nat} {T : Nat → Nat → Int} {B : Nat → Nat → Bool} {A : Option Addr} {n : Nat} {Ao : Option Addr} {gQ : Nat} {w wr w2 : World}
    (h : OnK D A1 A2 A3 k1 k2 k3 M A4 A5 k4 k5 Mo A6 A7 A8 k6 k7 k8 T B A n Ao gQ w wr) (hb : RowKit.Below wr.heap.size wr w2) : OnK D A1 A2 A3 k1 k2 k3 M A4 A5 k4 k5 Mo A6 A7 A8 k6 k7 k8 T B A n Ao gQ w w2 :=
  ⟨bthen h.b hb, h.q.below hb, h.d.below hb, h.m.below hb, h.o.below hb, h.l.below hb, h.s.below hb⟩
theorem DeckOne_c (D : DekD) (vA vB vC : Value) (M : MetD) (vF vS : Value) (Mo : MovD) (vP vR vV : Value) (A : Option Addr) (n c : Nat) (T : Nat → Nat → Int) (B : Nat → Nat → Bool) (r : Int) (w : World) (hD : DekAt w vA vB vC D) (hA : MetAt w vF vS M) (hV : MovAt w vP vR vV Mo)
    (hc1 : n ≤ c) (hc2 : c ≤ 9223372036854775807) (hL : RecsAt w A n 12 (bkC T B)) :
   Calls Tryz.prog 7 #[.agg #[.int .i64 D.size, .int .i64 D.load, .int .i64 D.wind, vA, .int .i64 D.pitch, .int .i64 D.roll, .int .i64 D.heave, .int .i64 D.fire, vB, vC, .int .i64 M.places, .int .i64 M.any.a0, .int .i64 M.any.a1, .int .i64 M.any.a2, .int .i64 M.any.a3, .int .i64 M.any.a4, .int .i64 M.any.a5, .bool M.any.i, .bool M.any.s, .int .i64 M.mw, .int .i64 M.ms, .int .i64 M.mc, vF, vS, vP, vR, vV], .slice A n c, .int .i64 r] w fun e w' => e = .returned (.bool true) ∧ RowKit.Below w.heap.size w w' := by
  have HD := Lib.hid hD
  have HA := Lib.hid hA
  have HV := Lib.hid hV
  have HFR := Lib.hid (fun w1 h1 h2 h3 => dFar_c D vA vB vC M vF vS Mo vP vR vV w1 h1 h2 h3)
  have HOW := Lib.hid (fun w1 h1 h2 h3 hn => down_c D vA vB vC M vF vS Mo vP vR vV w1 h1 h2 h3 hn)
  clear hD hA hV
  cases hf : farP D M Mo
  case true =>
    rw [hf] at HFR
    clear hf
    go_enter Tryz.func7, Tryz.ntmps7
    go_wp2_with (first | (refine wpl_row rfl 39 _ rfl _ rfl #[.int .i64 D.size, .int .i64 D.load, .int .i64 D.wind, vA, .int .i64 D.pitch, .int .i64 D.roll, .int .i64 D.heave, .int .i64 D.fire, vB, vC, .int .i64 M.places, .int .i64 M.any.a0, .int .i64 M.any.a1, .int .i64 M.any.a2, .int .i64 M.any.a3, .int .i64 M.any.a4, .int .i64 M.any.a5, .bool M.any.i, .bool M.any.s, .int .i64 M.mw, .int .i64 M.ms, .int .i64 M.mc, vF, vS, vP, vR, vV] 27 ?_ Tryz.rowPl rfl ?_; (focus exact (by repeat (first | (refine Blk.newAt _ _ _ ?_; first | rfl | (simp; done)) | refine Blk.alloc ?_ _))); simp only [Act.put]))
    have bHX : Blk (w.alloc (.cells #[.int .i64 D.size, .int .i64 D.load, .int .i64 D.wind, vA, .int .i64 D.pitch, .int .i64 D.roll, .int .i64 D.heave, .int .i64 D.fire, vB, vC, .int .i64 M.places, .int .i64 M.any.a0, .int .i64 M.any.a1, .int .i64 M.any.a2, .int .i64 M.any.a3, .int .i64 M.any.a4, .int .i64 M.any.a5, .bool M.any.i, .bool M.any.s, .int .i64 M.mw, .int .i64 M.ms, .int .i64 M.mc, vF, vS, vP, vR, vV] 39)) (w.heap.size) 39 #[.int .i64 D.size, .int .i64 D.load, .int .i64 D.wind, vA, .int .i64 D.pitch, .int .i64 D.roll, .int .i64 D.heave, .int .i64 D.fire, vB, vC, .int .i64 M.places, .int .i64 M.any.a0, .int .i64 M.any.a1, .int .i64 M.any.a2, .int .i64 M.any.a3, .int .i64 M.any.a4, .int .i64 M.any.a5, .bool M.any.i, .bool M.any.s, .int .i64 M.mw, .int .i64 M.ms, .int .i64 M.mc, vF, vS, vP, vR, vV] := (by repeat (first | (refine Blk.newAt _ _ _ ?_; first | rfl | (simp; done)) | refine Blk.alloc ?_ _))
    have bHB : Below w.heap.size w (w.alloc (.cells #[.int .i64 D.size, .int .i64 D.load, .int .i64 D.wind, vA, .int .i64 D.pitch, .int .i64 D.roll, .int .i64 D.heave, .int .i64 D.fire, vB, vC, .int .i64 M.places, .int .i64 M.any.a0, .int .i64 M.any.a1, .int .i64 M.any.a2, .int .i64 M.any.a3, .int .i64 M.any.a4, .int .i64 M.any.a5, .bool M.any.i, .bool M.any.s, .int .i64 M.mw, .int .i64 M.ms, .int .i64 M.mc, vF, vS, vP, vR, vV] 39)) := (by repeat' (first | exact Below.refl _ _ | assumption | refine Below.drew ?_ | refine bdn ?_ _ | refine bal ?_ _ | refine Below.setCell ?_ (by first | (simp; done) | omega | (simp; omega)) _))
    generalize (w.alloc (.cells #[.int .i64 D.size, .int .i64 D.load, .int .i64 D.wind, vA, .int .i64 D.pitch, .int .i64 D.roll, .int .i64 D.heave, .int .i64 D.fire, vB, vC, .int .i64 M.places, .int .i64 M.any.a0, .int .i64 M.any.a1, .int .i64 M.any.a2, .int .i64 M.any.a3, .int .i64 M.any.a4, .int .i64 M.any.a5, .bool M.any.i, .bool M.any.s, .int .i64 M.mw, .int .i64 M.ms, .int .i64 M.mc, vF, vS, vP, vR, vV] 39)) = W at *
    have zW := bHX.lt
    have HX := Lib.hid bHX
    have HB := Lib.hid bHB
    clear bHX bHB
    refine (HFR.out _ (HD.out.below HB.out) (HA.out.below HB.out) (HV.out.below HB.out)).mono ?_
    rintro e w1 ⟨rfl, hb1⟩
    have nHX := Lib.hid (HX.out.below hb1)
    have nHB := Lib.hid (bthen HB.out hb1)
    clear HX HB hb1
    have HX := nHX
    have HB := nHB
    clear nHX nHB
    go_wp2_with (first | (go_at_call 9; (with_reducible refine (dworks_c _).mono ?_); rintro e w1 ⟨rfl, hb1⟩; have nHX := Lib.hid (HX.out.below hb1); have nHB := Lib.hid (bthen HB.out hb1); have zz1 := hb1.size; clear HX HB hb1; have HX := nHX; have HB := nHB; clear nHX nHB))
    go_ret
    exact ⟨rfl, HB.out⟩
  rw [hf] at HFR
  have HFF := Lib.hid hf
  clear hf
  by_cases h5 : 5 < n
  · have z5 : decide ((5 : Int) < (n : Int)) = true := decide_eq_true (by omega)
    clear hL
    go_enter Tryz.func7, Tryz.ntmps7
    go_wp2_with (first | (refine wpl_row rfl 39 _ rfl _ rfl #[.int .i64 D.size, .int .i64 D.load, .int .i64 D.wind, vA, .int .i64 D.pitch, .int .i64 D.roll, .int .i64 D.heave, .int .i64 D.fire, vB, vC, .int .i64 M.places, .int .i64 M.any.a0, .int .i64 M.any.a1, .int .i64 M.any.a2, .int .i64 M.any.a3, .int .i64 M.any.a4, .int .i64 M.any.a5, .bool M.any.i, .bool M.any.s, .int .i64 M.mw, .int .i64 M.ms, .int .i64 M.mc, vF, vS, vP, vR, vV] 27 ?_ Tryz.rowPl rfl ?_; (focus exact (by repeat (first | (refine Blk.newAt _ _ _ ?_; first | rfl | (simp; done)) | refine Blk.alloc ?_ _))); simp only [Act.put]))
    have bHX : Blk (w.alloc (.cells #[.int .i64 D.size, .int .i64 D.load, .int .i64 D.wind, vA, .int .i64 D.pitch, .int .i64 D.roll, .int .i64 D.heave, .int .i64 D.fire, vB, vC, .int .i64 M.places, .int .i64 M.any.a0, .int .i64 M.any.a1, .int .i64 M.any.a2, .int .i64 M.any.a3, .int .i64 M.any.a4, .int .i64 M.any.a5, .bool M.any.i, .bool M.any.s, .int .i64 M.mw, .int .i64 M.ms, .int .i64 M.mc, vF, vS, vP, vR, vV] 39)) (w.heap.size) 39 #[.int .i64 D.size, .int .i64 D.load, .int .i64 D.wind, vA, .int .i64 D.pitch, .int .i64 D.roll, .int .i64 D.heave, .int .i64 D.fire, vB, vC, .int .i64 M.places, .int .i64 M.any.a0, .int .i64 M.any.a1, .int .i64 M.any.a2, .int .i64 M.any.a3, .int .i64 M.any.a4, .int .i64 M.any.a5, .bool M.any.i, .bool M.any.s, .int .i64 M.mw, .int .i64 M.ms, .int .i64 M.mc, vF, vS, vP, vR, vV] := (by repeat (first | (refine Blk.newAt _ _ _ ?_; first | rfl | (simp; done)) | refine Blk.alloc ?_ _))
    have bHB : Below w.heap.size w (w.alloc (.cells #[.int .i64 D.size, .int .i64 D.load, .int .i64 D.wind, vA, .int .i64 D.pitch, .int .i64 D.roll, .int .i64 D.heave, .int .i64 D.fire, vB, vC, .int .i64 M.places, .int .i64 M.any.a0, .int .i64 M.any.a1, .int .i64 M.any.a2, .int .i64 M.any.a3, .int .i64 M.any.a4, .int .i64 M.any.a5, .bool M.any.i, .bool M.any.s, .int .i64 M.mw, .int .i64 M.ms, .int .i64 M.mc, vF, vS, vP, vR, vV] 39)) := (by repeat' (first | exact Below.refl _ _ | assumption | refine Below.drew ?_ | refine bdn ?_ _ | refine bal ?_ _ | refine Below.setCell ?_ (by first | (simp; done) | omega | (simp; omega)) _))
    generalize (w.alloc (.cells #[.int .i64 D.size, .int .i64 D.load, .int .i64 D.wind, vA, .int .i64 D.pitch, .int .i64 D.roll, .int .i64 D.heave, .int .i64 D.fire, vB, vC, .int .i64 M.places, .int .i64 M.any.a0, .int .i64 M.any.a1, .int .i64 M.any.a2, .int .i64 M.any.a3, .int .i64 M.any.a4, .int .i64 M.any.a5, .bool M.any.i, .bool M.any.s, .int .i64 M.mw, .int .i64 M.ms, .int .i64 M.mc, vF, vS, vP, vR, vV] 39)) = W at *
    have zW := bHX.lt
    have HX := Lib.hid bHX
    have HB := Lib.hid bHB
    clear bHX bHB
    refine (HFR.out _ (HD.out.below HB.out) (HA.out.below HB.out) (HV.out.below HB.out)).mono ?_
    rintro e w1 ⟨rfl, hb1⟩
    have nHX := Lib.hid (HX.out.below hb1)
    have nHB := Lib.hid (bthen HB.out hb1)
    clear HX HB hb1
    have HX := nHX
    have HB := nHB
    clear nHX nHB
    go_wp2_with (first | (go_at_call 9; (with_reducible refine (dworks_c _).mono ?_); rintro e w1 ⟨rfl, hb1⟩; have nHX := Lib.hid (HX.out.below hb1); have nHB := Lib.hid (bthen HB.out hb1); have zz1 := hb1.size; clear HX HB hb1; have HX := nHX; have HB := nHB; clear nHX nHB))
    go_ret
    exact ⟨rfl, HB.out⟩
  have z5 : decide ((5 : Int) < (n : Int)) = false := decide_eq_false (by omega)
  rcases Nat.eq_zero_or_pos n with rfl | hn0
  · clear hL
    go_enter Tryz.func7, Tryz.ntmps7
    go_wp2_with (first | (refine wpl_row rfl 39 _ rfl _ rfl #[.int .i64 D.size, .int .i64 D.load, .int .i64 D.wind, vA, .int .i64 D.pitch, .int .i64 D.roll, .int .i64 D.heave, .int .i64 D.fire, vB, vC, .int .i64 M.places, .int .i64 M.any.a0, .int .i64 M.any.a1, .int .i64 M.any.a2, .int .i64 M.any.a3, .int .i64 M.any.a4, .int .i64 M.any.a5, .bool M.any.i, .bool M.any.s, .int .i64 M.mw, .int .i64 M.ms, .int .i64 M.mc, vF, vS, vP, vR, vV] 27 ?_ Tryz.rowPl rfl ?_; (focus exact (by repeat (first | (refine Blk.newAt _ _ _ ?_; first | rfl | (simp; done)) | refine Blk.alloc ?_ _))); simp only [Act.put]))
    have bHX : Blk (w.alloc (.cells #[.int .i64 D.size, .int .i64 D.load, .int .i64 D.wind, vA, .int .i64 D.pitch, .int .i64 D.roll, .int .i64 D.heave, .int .i64 D.fire, vB, vC, .int .i64 M.places, .int .i64 M.any.a0, .int .i64 M.any.a1, .int .i64 M.any.a2, .int .i64 M.any.a3, .int .i64 M.any.a4, .int .i64 M.any.a5, .bool M.any.i, .bool M.any.s, .int .i64 M.mw, .int .i64 M.ms, .int .i64 M.mc, vF, vS, vP, vR, vV] 39)) (w.heap.size) 39 #[.int .i64 D.size, .int .i64 D.load, .int .i64 D.wind, vA, .int .i64 D.pitch, .int .i64 D.roll, .int .i64 D.heave, .int .i64 D.fire, vB, vC, .int .i64 M.places, .int .i64 M.any.a0, .int .i64 M.any.a1, .int .i64 M.any.a2, .int .i64 M.any.a3, .int .i64 M.any.a4, .int .i64 M.any.a5, .bool M.any.i, .bool M.any.s, .int .i64 M.mw, .int .i64 M.ms, .int .i64 M.mc, vF, vS, vP, vR, vV] := (by repeat (first | (refine Blk.newAt _ _ _ ?_; first | rfl | (simp; done)) | refine Blk.alloc ?_ _))
    have bHB : Below w.heap.size w (w.alloc (.cells #[.int .i64 D.size, .int .i64 D.load, .int .i64 D.wind, vA, .int .i64 D.pitch, .int .i64 D.roll, .int .i64 D.heave, .int .i64 D.fire, vB, vC, .int .i64 M.places, .int .i64 M.any.a0, .int .i64 M.any.a1, .int .i64 M.any.a2, .int .i64 M.any.a3, .int .i64 M.any.a4, .int .i64 M.any.a5, .bool M.any.i, .bool M.any.s, .int .i64 M.mw, .int .i64 M.ms, .int .i64 M.mc, vF, vS, vP, vR, vV] 39)) := (by repeat' (first | exact Below.refl _ _ | assumption | refine Below.drew ?_ | refine bdn ?_ _ | refine bal ?_ _ | refine Below.setCell ?_ (by first | (simp; done) | omega | (simp; omega)) _))
    generalize (w.alloc (.cells #[.int .i64 D.size, .int .i64 D.load, .int .i64 D.wind, vA, .int .i64 D.pitch, .int .i64 D.roll, .int .i64 D.heave, .int .i64 D.fire, vB, vC, .int .i64 M.places, .int .i64 M.any.a0, .int .i64 M.any.a1, .int .i64 M.any.a2, .int .i64 M.any.a3, .int .i64 M.any.a4, .int .i64 M.any.a5, .bool M.any.i, .bool M.any.s, .int .i64 M.mw, .int .i64 M.ms, .int .i64 M.mc, vF, vS, vP, vR, vV] 39)) = W at *
    have zW := bHX.lt
    have HX := Lib.hid bHX
    have HB := Lib.hid bHB
    clear bHX bHB
    refine (HFR.out _ (HD.out.below HB.out) (HA.out.below HB.out) (HV.out.below HB.out)).mono ?_
    rintro e w1 ⟨rfl, hb1⟩
    have nHX := Lib.hid (HX.out.below hb1)
    have nHB := Lib.hid (bthen HB.out hb1)
    clear HX HB hb1
    have HX := nHX
    have HB := nHB
    clear nHX nHB
    go_wp2_with (first | (go_at_call 9; (with_reducible refine (dworks_c _).mono ?_); rintro e w1 ⟨rfl, hb1⟩; have nHX := Lib.hid (HX.out.below hb1); have nHB := Lib.hid (bthen HB.out hb1); have zz1 := hb1.size; clear HX HB hb1; have HX := nHX; have HB := nHB; clear nHX nHB))
    go_ret
    exact ⟨rfl, HB.out⟩
  have z0 : ((n : Int) == 0) = false := by simp; omega
  obtain ⟨m, hm1, hm2⟩ : ∃ m, m < n ∧ n ≤ m + 1 := ⟨n - 1, by omega, by omega⟩
  obtain ⟨bs, os, rfl, hbs, -⟩ := hL (by omega)
  have HL := Lib.hid hL
  clear hL
  go_enter Tryz.func7, Tryz.ntmps7
  go_wp2_with (first | (refine wpl_row rfl 39 _ rfl _ rfl #[.int .i64 D.size, .int .i64 D.load, .int .i64 D.wind, vA, .int .i64 D.pitch, .int .i64 D.roll, .int .i64 D.heave, .int .i64 D.fire, vB, vC, .int .i64 M.places, .int .i64 M.any.a0, .int .i64 M.any.a1, .int .i64 M.any.a2, .int .i64 M.any.a3, .int .i64 M.any.a4, .int .i64 M.any.a5, .bool M.any.i, .bool M.any.s, .int .i64 M.mw, .int .i64 M.ms, .int .i64 M.mc, vF, vS, vP, vR, vV] 27 ?_ Tryz.rowPl rfl ?_; (focus exact (by repeat (first | (refine Blk.newAt _ _ _ ?_; first | rfl | (simp; done)) | refine Blk.alloc ?_ _))); simp only [Act.put]))
  have bHX : Blk (w.alloc (.cells #[.int .i64 D.size, .int .i64 D.load, .int .i64 D.wind, vA, .int .i64 D.pitch, .int .i64 D.roll, .int .i64 D.heave, .int .i64 D.fire, vB, vC, .int .i64 M.places, .int .i64 M.any.a0, .int .i64 M.any.a1, .int .i64 M.any.a2, .int .i64 M.any.a3, .int .i64 M.any.a4, .int .i64 M.any.a5, .bool M.any.i, .bool M.any.s, .int .i64 M.mw, .int .i64 M.ms, .int .i64 M.mc, vF, vS, vP, vR, vV] 39)) (w.heap.size) 39 #[.int .i64 D.size, .int .i64 D.load, .int .i64 D.wind, vA, .int .i64 D.pitch, .int .i64 D.roll, .int .i64 D.heave, .int .i64 D.fire, vB, vC, .int .i64 M.places, .int .i64 M.any.a0, .int .i64 M.any.a1, .int .i64 M.any.a2, .int .i64 M.any.a3, .int .i64 M.any.a4, .int .i64 M.any.a5, .bool M.any.i, .bool M.any.s, .int .i64 M.mw, .int .i64 M.ms, .int .i64 M.mc, vF, vS, vP, vR, vV] := (by repeat (first | (refine Blk.newAt _ _ _ ?_; first | rfl | (simp; done)) | refine Blk.alloc ?_ _))
  have bHB : Below w.heap.size w (w.alloc (.cells #[.int .i64 D.size, .int .i64 D.load, .int .i64 D.wind, vA, .int .i64 D.pitch, .int .i64 D.roll, .int .i64 D.heave, .int .i64 D.fire, vB, vC, .int .i64 M.places, .int .i64 M.any.a0, .int .i64 M.any.a1, .int .i64 M.any.a2, .int .i64 M.any.a3, .int .i64 M.any.a4, .int .i64 M.any.a5, .bool M.any.i, .bool M.any.s, .int .i64 M.mw, .int .i64 M.ms, .int .i64 M.mc, vF, vS, vP, vR, vV] 39)) := (by repeat' (first | exact Below.refl _ _ | assumption | refine Below.drew ?_ | refine bdn ?_ _ | refine bal ?_ _ | refine Below.setCell ?_ (by first | (simp; done) | omega | (simp; omega)) _))
  generalize (w.alloc (.cells #[.int .i64 D.size, .int .i64 D.load, .int .i64 D.wind, vA, .int .i64 D.pitch, .int .i64 D.roll, .int .i64 D.heave, .int .i64 D.fire, vB, vC, .int .i64 M.places, .int .i64 M.any.a0, .int .i64 M.any.a1, .int .i64 M.any.a2, .int .i64 M.any.a3, .int .i64 M.any.a4, .int .i64 M.any.a5, .bool M.any.i, .bool M.any.s, .int .i64 M.mw, .int .i64 M.ms, .int .i64 M.mc, vF, vS, vP, vR, vV] 39)) = W at *
  have zW := bHX.lt
  have HX := Lib.hid bHX
  have HB := Lib.hid bHB
  clear bHX bHB
  refine (HFR.out _ (HD.out.below HB.out) (HA.out.below HB.out) (HV.out.below HB.out)).mono ?_
  rintro e w1 ⟨rfl, hb1⟩
  have nHX := Lib.hid (HX.out.below hb1)
  have nHB := Lib.hid (bthen HB.out hb1)
  clear HX HB hb1
  have HX := nHX
  have HB := nHB
  clear nHX nHB
  go_wp2_with (fail)
  go_loopg [7] n (fun gx v wr => ∃ k : Nat, v = .int .i64 k ∧ k ≤ n ∧ n - k ≤ gx ∧ Hid (Blk wr w.heap.size 39 #[.int .i64 D.size, .int .i64 D.load, .int .i64 D.wind, vA, .int .i64 D.pitch, .int .i64 D.roll, .int .i64 D.heave, .int .i64 D.fire, vB, vC, .int .i64 M.places, .int .i64 M.any.a0, .int .i64 M.any.a1, .int .i64 M.any.a2, .int .i64 M.any.a3, .int .i64 M.any.a4, .int .i64 M.any.a5, .bool M.any.i, .bool M.any.s, .int .i64 M.mw, .int .i64 M.ms, .int .i64 M.mc, vF, vS, vP, vR, vV]) ∧ Hid (RowKit.Below w.heap.size w wr))
  case atStart => exact ⟨0, rfl, Nat.zero_le _, Nat.le_refl _, HX, HB⟩
  case round =>
    clear HX HB
    obtain ⟨k, rfl, hk, hgx, HX, HB⟩ := hrel
    by_cases hlt : k < n
    · have hltz : (k : Int) < (n : Int) := by omega
      have c0 := (HL.out.below HB.out).bk0 hlt
      have c1 := (HL.out.below HB.out).bk1 hlt
      generalize T k 0 = p at *
      generalize T k 1 = s at *
      by_cases q1 : 20 < s
      · have z1 : decide (20 < s) = true := decide_eq_true q1
        clear q1
        go_wp2_with (first | (go_at_call 9; (with_reducible refine (dworks_c _).mono ?_); rintro e w1 ⟨rfl, hb1⟩; have nHX := Lib.hid (HX.out.below hb1); have nHB := Lib.hid (bthen HB.out hb1); have zz1 := hb1.size; clear HX HB hb1; have HX := nHX; have HB := nHB; clear nHX nHB))
        go_ret
        exact ⟨rfl, HB.out⟩
      · have z1 : decide (20 < s) = false := decide_eq_false q1
        clear q1
        by_cases q2 : 60 < p
        · have z2 : decide (60 < p) = true := decide_eq_true q2
          clear q2
          go_wp2_with (first | (go_at_call 9; (with_reducible refine (dworks_c _).mono ?_); rintro e w1 ⟨rfl, hb1⟩; have nHX := Lib.hid (HX.out.below hb1); have nHB := Lib.hid (bthen HB.out hb1); have zz1 := hb1.size; clear HX HB hb1; have HX := nHX; have HB := nHB; clear nHX nHB))
          go_ret
          exact ⟨rfl, HB.out⟩
        · have z2 : decide (60 < p) = false := decide_eq_false q2
          clear q2
          go_wp2_with (fail)
          go_roundg (n - (k + 1))
          case measure => omega
          case rel => exact ⟨k + 1, by first | rfl | go_num | (congr 1; omega), by omega, Nat.le_refl _, HX, HB⟩
    · obtain rfl : n = k := by omega
      have zW := HX.out.lt
      go_wp2_with (first | (refine wpl_row rfl 39 (.tmp 3) rfl _ rfl #[.int .i64 D.size, .int .i64 D.load, .int .i64 D.wind, vA, .int .i64 D.pitch, .int .i64 D.roll, .int .i64 D.heave, .int .i64 D.fire, vB, vC, .int .i64 M.places, .int .i64 M.any.a0, .int .i64 M.any.a1, .int .i64 M.any.a2, .int .i64 M.any.a3, .int .i64 M.any.a4, .int .i64 M.any.a5, .bool M.any.i, .bool M.any.s, .int .i64 M.mw, .int .i64 M.ms, .int .i64 M.mc, vF, vS, vP, vR, vV] 27 HX.out Tryz.rowPl rfl ?_; simp only [Act.put]))
      refine (HOW.out _ (HD.out.below HB.out) (HA.out.below HB.out) (HV.out.below HB.out) HFF.out).mono ?_
      rintro e w1 ⟨A1, A2, A3, A4, A5, A6, A7, A8, k1, k2, k3, k4, k5, k6, k7, k8, rfl, hb1, HD1, HA1, HV1⟩
      have HD1 := Lib.hid HD1
      have HA1 := Lib.hid HA1
      have HV1 := Lib.hid HV1
      have nHX := Lib.hid (HX.out.below hb1)
      have nHB := Lib.hid (bthen HB.out hb1)
      clear HX HB hb1
      have HX := nHX
      have HB := nHB
      clear nHX nHB
      have tok : True := trivial
      go_wp2_with (first | (have _t := tok; refine wpl_store_newW rfl 39 _ _ rfl #[.int .i64 D.size, .int .i64 D.load, .int .i64 D.wind, .slice A1 D.ns k1, .int .i64 D.pitch, .int .i64 D.roll, .int .i64 D.heave, .int .i64 D.fire, .slice A2 D.nh k2, .slice A3 D.nu k3, .int .i64 M.places, .int .i64 M.any.a0, .int .i64 M.any.a1, .int .i64 M.any.a2, .int .i64 M.any.a3, .int .i64 M.any.a4, .int .i64 M.any.a5, .bool M.any.i, .bool M.any.s, .int .i64 M.mw, .int .i64 M.ms, .int .i64 M.mc, .slice A4 M.n k4, .slice A5 M.m k5, .slice A6 Mo.np k6, .slice A7 Mo.nr k7, .slice A8 Mo.nv k8] _ _ rfl ?_ rfl Tryz.sizePl rfl (oneP D M Mo _ _ _ _ _ _ _ _ _ _ _ _ _ _ _ _) ?_; (focus (simp; done)); simp only [Act.put]; clear tok))
      have bHQ := Blk.new w1 39 #[.int .i64 D.size, .int .i64 D.load, .int .i64 D.wind, .slice A1 D.ns k1, .int .i64 D.pitch, .int .i64 D.roll, .int .i64 D.heave, .int .i64 D.fire, .slice A2 D.nh k2, .slice A3 D.nu k3, .int .i64 M.places, .int .i64 M.any.a0, .int .i64 M.any.a1, .int .i64 M.any.a2, .int .i64 M.any.a3, .int .i64 M.any.a4, .int .i64 M.any.a5, .bool M.any.i, .bool M.any.s, .int .i64 M.mw, .int .i64 M.ms, .int .i64 M.mc, .slice A4 M.n k4, .slice A5 M.m k5, .slice A6 Mo.np k6, .slice A7 Mo.nr k7, .slice A8 Mo.nv k8]
      have nHX := Lib.hid (HX.out.alloc (.cells #[.int .i64 D.size, .int .i64 D.load, .int .i64 D.wind, .slice A1 D.ns k1, .int .i64 D.pitch, .int .i64 D.roll, .int .i64 D.heave, .int .i64 D.fire, .slice A2 D.nh k2, .slice A3 D.nu k3, .int .i64 M.places, .int .i64 M.any.a0, .int .i64 M.any.a1, .int .i64 M.any.a2, .int .i64 M.any.a3, .int .i64 M.any.a4, .int .i64 M.any.a5, .bool M.any.i, .bool M.any.s, .int .i64 M.mw, .int .i64 M.ms, .int .i64 M.mc, .slice A4 M.n k4, .slice A5 M.m k5, .slice A6 Mo.np k6, .slice A7 Mo.nr k7, .slice A8 Mo.nv k8] 39))
      have nHD1 := Lib.hid (HD1.out.alloc (.cells #[.int .i64 D.size, .int .i64 D.load, .int .i64 D.wind, .slice A1 D.ns k1, .int .i64 D.pitch, .int .i64 D.roll, .int .i64 D.heave, .int .i64 D.fire, .slice A2 D.nh k2, .slice A3 D.nu k3, .int .i64 M.places, .int .i64 M.any.a0, .int .i64 M.any.a1, .int .i64 M.any.a2, .int .i64 M.any.a3, .int .i64 M.any.a4, .int .i64 M.any.a5, .bool M.any.i, .bool M.any.s, .int .i64 M.mw, .int .i64 M.ms, .int .i64 M.mc, .slice A4 M.n k4, .slice A5 M.m k5, .slice A6 Mo.np k6, .slice A7 Mo.nr k7, .slice A8 Mo.nv k8] 39))
      have nHA1 := Lib.hid (HA1.out.alloc (.cells #[.int .i64 D.size, .int .i64 D.load, .int .i64 D.wind, .slice A1 D.ns k1, .int .i64 D.pitch, .int .i64 D.roll, .int .i64 D.heave, .int .i64 D.fire, .slice A2 D.nh k2, .slice A3 D.nu k3, .int .i64 M.places, .int .i64 M.any.a0, .int .i64 M.any.a1, .int .i64 M.any.a2, .int .i64 M.any.a3, .int .i64 M.any.a4, .int .i64 M.any.a5, .bool M.any.i, .bool M.any.s, .int .i64 M.mw, .int .i64 M.ms, .int .i64 M.mc, .slice A4 M.n k4, .slice A5 M.m k5, .slice A6 Mo.np k6, .slice A7 Mo.nr k7, .slice A8 Mo.nv k8] 39))
      have nHV1 := Lib.hid (HV1.out.alloc (.cells #[.int .i64 D.size, .int .i64 D.load, .int .i64 D.wind, .slice A1 D.ns k1, .int .i64 D.pitch, .int .i64 D.roll, .int .i64 D.heave, .int .i64 D.fire, .slice A2 D.nh k2, .slice A3 D.nu k3, .int .i64 M.places, .int .i64 M.any.a0, .int .i64 M.any.a1, .int .i64 M.any.a2, .int .i64 M.any.a3, .int .i64 M.any.a4, .int .i64 M.any.a5, .bool M.any.i, .bool M.any.s, .int .i64 M.mw, .int .i64 M.ms, .int .i64 M.mc, .slice A4 M.n k4, .slice A5 M.m k5, .slice A6 Mo.np k6, .slice A7 Mo.nr k7, .slice A8 Mo.nv k8] 39))
      have nHB := Lib.hid (bal HB.out (.cells #[.int .i64 D.size, .int .i64 D.load, .int .i64 D.wind, .slice A1 D.ns k1, .int .i64 D.pitch, .int .i64 D.roll, .int .i64 D.heave, .int .i64 D.fire, .slice A2 D.nh k2, .slice A3 D.nu k3, .int .i64 M.places, .int .i64 M.any.a0, .int .i64 M.any.a1, .int .i64 M.any.a2, .int .i64 M.any.a3, .int .i64 M.any.a4, .int .i64 M.any.a5, .bool M.any.i, .bool M.any.s, .int .i64 M.mw, .int .i64 M.ms, .int .i64 M.mc, .slice A4 M.n k4, .slice A5 M.m k5, .slice A6 Mo.np k6, .slice A7 Mo.nr k7, .slice A8 Mo.nv k8] 39))
      clear HX HD1 HA1 HV1 HB
      have HX := nHX
      have HD1 := nHD1
      have HA1 := nHA1
      have HV1 := nHV1
      have HB := nHB
      clear nHX nHD1 nHA1 nHV1 nHB
      generalize w1.alloc (.cells #[.int .i64 D.size, .int .i64 D.load, .int .i64 D.wind, .slice A1 D.ns k1, .int .i64 D.pitch, .int .i64 D.roll, .int .i64 D.heave, .int .i64 D.fire, .slice A2 D.nh k2, .slice A3 D.nu k3, .int .i64 M.places, .int .i64 M.any.a0, .int .i64 M.any.a1, .int .i64 M.any.a2, .int .i64 M.any.a3, .int .i64 M.any.a4, .int .i64 M.any.a5, .bool M.any.i, .bool M.any.s, .int .i64 M.mw, .int .i64 M.ms, .int .i64 M.mc, .slice A4 M.n k4, .slice A5 M.m k5, .slice A6 Mo.np k6, .slice A7 Mo.nr k7, .slice A8 Mo.nv k8] 39) = W2 at *
      generalize w1.heap.size = gHQ at *
      have HQ := Lib.hid bHQ
      clear bHQ
      clear HX
      have HBK := Lib.hid (fun w1 A c h1 h2 h3 h4 h5 h6 => dBook_c D (.slice A1 D.ns k1) (.slice A2 D.nh k2) (.slice A3 D.nu k3) M (.slice A4 M.n k4) (.slice A5 M.m k5) Mo (.slice A6 Mo.np k6) (.slice A7 Mo.nr k7) (.slice A8 Mo.nv k8) A n c T B w1 h1 h2 h3 h4 h5 h6)
      generalize hE : bookE D M Mo T B n = E at HBK
      have HE := Lib.hid hE
      clear hE
      refine wp_region_specL 13 [12] (on1 gHQ (.agg #[.int .i64 D.size, .int .i64 D.load, .int .i64 D.wind, .slice A1 D.ns k1, .int .i64 D.pitch, .int .i64 D.roll, .int .i64 D.heave, .int .i64 D.fire, .slice A2 D.nh k2, .slice A3 D.nu k3]) (.agg #[.int .i64 M.places, .int .i64 M.any.a0, .int .i64 M.any.a1, .int .i64 M.any.a2, .int .i64 M.any.a3, .int .i64 M.any.a4, .int .i64 M.any.a5, .bool M.any.i, .bool M.any.s, .int .i64 M.mw, .int .i64 M.ms, .int .i64 M.mc, .slice A4 M.n k4, .slice A5 M.m k5]) (.agg #[.slice A6 Mo.np k6, .slice A7 Mo.nr k7, .slice A8 Mo.nv k8]) (.slice (some ⟨bs, os, none⟩) n c) T B n (bkO D M Mo T B) E) (fun i => false) (by kernel_rfl) (by kernel_rfl) (by decide) on1_below ?hop1 ?htail1
      case hop1 =>
        simp only [List.take_succ_cons, List.take_zero, allOps]
        refine ⟨?_, ?_, ?_, ?_, ?_, ?_, ?_, ?_, ?_, ?_, ?_, ?_, ?_, trivial⟩
        all_goals intro u A w1 hA hb hd
        all_goals simp only [putAll, dstOf, List.getElem?_toArray, List.getElem?_cons_succ, List.getElem?_cons_zero, Option.bind_some, Option.bind, Act.put, List.setIfInBounds_toArray, List.set_cons_succ, List.set_cons_zero] at hA; subst hA
        all_goals have HB1 := Lib.hid hb
        · refine OpOk.now rfl ?_
          clear hb hd
          go_wp2
          exact ⟨_, rfl, Below.refl _ _, rfl, fun h => absurd h (by decide)⟩
        · refine OpOk.now rfl ?_
          have d0 : u 0 = _ := hd 0 (by omega) (by kernel_rfl)
          clear hb hd
          rw [d0]
          clear d0
          go_wp2_with (refine wpl_mid rfl 26 _ rfl _ 0 rfl 39 #[.int .i64 D.size, .int .i64 D.load, .int .i64 D.wind, .slice A1 D.ns k1, .int .i64 D.pitch, .int .i64 D.roll, .int .i64 D.heave, .int .i64 D.fire, .slice A2 D.nh k2, .slice A3 D.nu k3, .int .i64 M.places, .int .i64 M.any.a0, .int .i64 M.any.a1, .int .i64 M.any.a2, .int .i64 M.any.a3, .int .i64 M.any.a4, .int .i64 M.any.a5, .bool M.any.i, .bool M.any.s, .int .i64 M.mw, .int .i64 M.ms, .int .i64 M.mc, .slice A4 M.n k4, .slice A5 M.m k5, .slice A6 Mo.np k6, .slice A7 Mo.nr k7, .slice A8 Mo.nv k8] #[.int .i64 D.size, .int .i64 D.load, .int .i64 D.wind, .slice A1 D.ns k1, .int .i64 D.pitch, .int .i64 D.roll, .int .i64 D.heave, .int .i64 D.fire, .slice A2 D.nh k2, .slice A3 D.nu k3] 10 (HQ.out.below HB1.out) Tryz.rowDek [] [.int .i64 M.places, .int .i64 M.any.a0, .int .i64 M.any.a1, .int .i64 M.any.a2, .int .i64 M.any.a3, .int .i64 M.any.a4, .int .i64 M.any.a5, .bool M.any.i, .bool M.any.s, .int .i64 M.mw, .int .i64 M.ms, .int .i64 M.mc, .slice A4 M.n k4, .slice A5 M.m k5, .slice A6 Mo.np k6, .slice A7 Mo.nr k7, .slice A8 Mo.nv k8] rfl rfl rfl ?_; simp only [Act.put])
          exact ⟨_, rfl, Below.refl _ _, rfl, fun h => absurd h (by decide)⟩
        · refine OpOk.now rfl ?_
          clear hb hd
          go_wp2
          exact ⟨_, rfl, Below.refl _ _, rfl, fun h => absurd h (by decide)⟩
        · refine OpOk.now rfl ?_
          have d2 : u 2 = _ := hd 2 (by omega) (by kernel_rfl)
          clear hb hd
          rw [d2]
          clear d2
          go_wp2_with (refine wpl_mid rfl 34 _ rfl _ 10 rfl 39 #[.int .i64 D.size, .int .i64 D.load, .int .i64 D.wind, .slice A1 D.ns k1, .int .i64 D.pitch, .int .i64 D.roll, .int .i64 D.heave, .int .i64 D.fire, .slice A2 D.nh k2, .slice A3 D.nu k3, .int .i64 M.places, .int .i64 M.any.a0, .int .i64 M.any.a1, .int .i64 M.any.a2, .int .i64 M.any.a3, .int .i64 M.any.a4, .int .i64 M.any.a5, .bool M.any.i, .bool M.any.s, .int .i64 M.mw, .int .i64 M.ms, .int .i64 M.mc, .slice A4 M.n k4, .slice A5 M.m k5, .slice A6 Mo.np k6, .slice A7 Mo.nr k7, .slice A8 Mo.nv k8] #[.int .i64 M.places, .int .i64 M.any.a0, .int .i64 M.any.a1, .int .i64 M.any.a2, .int .i64 M.any.a3, .int .i64 M.any.a4, .int .i64 M.any.a5, .bool M.any.i, .bool M.any.s, .int .i64 M.mw, .int .i64 M.ms, .int .i64 M.mc, .slice A4 M.n k4, .slice A5 M.m k5] 14 (HQ.out.below HB1.out) Tryz.rowMet [.int .i64 D.size, .int .i64 D.load, .int .i64 D.wind, .slice A1 D.ns k1, .int .i64 D.pitch, .int .i64 D.roll, .int .i64 D.heave, .int .i64 D.fire, .slice A2 D.nh k2, .slice A3 D.nu k3] [.slice A6 Mo.np k6, .slice A7 Mo.nr k7, .slice A8 Mo.nv k8] rfl rfl rfl ?_; simp only [Act.put])
          exact ⟨_, rfl, Below.refl _ _, rfl, fun h => absurd h (by decide)⟩
        · refine OpOk.now rfl ?_
          clear hb hd
          go_wp2
          exact ⟨_, rfl, Below.refl _ _, rfl, fun h => absurd h (by decide)⟩
        · refine OpOk.now rfl ?_
          have d4 : u 4 = _ := hd 4 (by omega) (by kernel_rfl)
          clear hb hd
          rw [d4]
          clear d4
          go_wp2_with (refine wpl_mid rfl 37 _ rfl _ 24 rfl 39 #[.int .i64 D.size, .int .i64 D.load, .int .i64 D.wind, .slice A1 D.ns k1, .int .i64 D.pitch, .int .i64 D.roll, .int .i64 D.heave, .int .i64 D.fire, .slice A2 D.nh k2, .slice A3 D.nu k3, .int .i64 M.places, .int .i64 M.any.a0, .int .i64 M.any.a1, .int .i64 M.any.a2, .int .i64 M.any.a3, .int .i64 M.any.a4, .int .i64 M.any.a5, .bool M.any.i, .bool M.any.s, .int .i64 M.mw, .int .i64 M.ms, .int .i64 M.mc, .slice A4 M.n k4, .slice A5 M.m k5, .slice A6 Mo.np k6, .slice A7 Mo.nr k7, .slice A8 Mo.nv k8] #[.slice A6 Mo.np k6, .slice A7 Mo.nr k7, .slice A8 Mo.nv k8] 3 (HQ.out.below HB1.out) Tryz.rowMov [.int .i64 D.size, .int .i64 D.load, .int .i64 D.wind, .slice A1 D.ns k1, .int .i64 D.pitch, .int .i64 D.roll, .int .i64 D.heave, .int .i64 D.fire, .slice A2 D.nh k2, .slice A3 D.nu k3, .int .i64 M.places, .int .i64 M.any.a0, .int .i64 M.any.a1, .int .i64 M.any.a2, .int .i64 M.any.a3, .int .i64 M.any.a4, .int .i64 M.any.a5, .bool M.any.i, .bool M.any.s, .int .i64 M.mw, .int .i64 M.ms, .int .i64 M.mc, .slice A4 M.n k4, .slice A5 M.m k5] [] rfl rfl rfl ?_; simp only [Act.put])
          exact ⟨_, rfl, Below.refl _ _, rfl, fun h => absurd h (by decide)⟩
        · refine OpOk.now rfl ?_
          clear hb hd
          go_wp2
          exact ⟨_, rfl, bal (RowKit.Below.refl _ _) _, ⟨_, rfl, Blk.new _ _ _⟩, fun h => absurd h (by decide)⟩
        · refine OpOk.now rfl ?_
          clear hb hd
          go_wp2
          exact ⟨_, rfl, Below.refl _ _, rfl, fun h => absurd h (by decide)⟩
        · refine OpOk.now rfl ?_
          have d6 := hd 6 (by omega) (by kernel_rfl)
          have d7 : u 7 = _ := hd 7 (by omega) (by kernel_rfl)
          clear hb hd
          rw [d7]
          clear d7
          obtain ⟨g, dg, d1⟩ := d6
          rw [dg]
          clear dg
          refine wpl_cpk rfl (.tmp 66) (.tmp 67) Tryz.bkU Tryz.bkI (by omega) (bkC_one T B) rfl g rfl d1 (some ⟨bs, os, none⟩) n c rfl ((HL.out.below HB.out).below HB1.out) (by omega) ?_
          intro v' w' hq hbl
          exact ⟨v', rfl, hbl.out, (by obtain ⟨A', c', q1, q2, q3, q4, q5⟩ := hq.out; exact ⟨A', c', q1, q2, q3, q4⟩), fun h => absurd h (by decide)⟩
        · refine OpOk.now rfl ?_
          have d1 : u 1 = _ := hd 1 (by omega) (by kernel_rfl)
          have d3 : u 3 = _ := hd 3 (by omega) (by kernel_rfl)
          have d5 : u 5 = _ := hd 5 (by omega) (by kernel_rfl)
          have d8 := hd 8 (by omega) (by kernel_rfl)
          clear hb hd
          rw [d1, d3, d5]
          clear d1 d3 d5
          obtain ⟨A', c', e8, q1, q2, r8⟩ := d8
          rw [e8]
          clear e8
          go_wp2_with (go_at_call 23; (with_reducible refine (HBK.out _ _ _ (HD1.out.below HB1.out) (HA1.out.below HB1.out) (HV1.out.below HB1.out) q1 q2 r8).mono ?_); rintro e w2 ⟨v', rfl, hb2⟩)
          obtain ⟨hb3, hs⟩ := hb2
          exact ⟨_, rfl, hb3, ⟨v', rfl, hs⟩, fun h => absurd h (by decide)⟩
        · refine OpOk.now rfl ?_
          have d9 := hd 9 (by omega) (by kernel_rfl)
          clear hb hd
          obtain ⟨v', e9, hs⟩ := d9
          rw [e9]
          clear e9
          go_wp2
          exact ⟨_, rfl, RowKit.Below.refl _ _, ⟨v', rfl, hs⟩, fun h => absurd h (by decide)⟩
        · refine OpOk.now rfl ?_
          have d10 := hd 10 (by omega) (by kernel_rfl)
          clear hb hd
          obtain ⟨v', e9, hs⟩ := d10
          rw [e9]
          clear e9
          go_wp2
          exact ⟨_, rfl, RowKit.Below.refl _ _, hs, fun h => absurd h (by decide)⟩
        · have d10 := hd 10 (by omega) (by kernel_rfl)
          clear hb hd
          obtain ⟨v', e9, hs⟩ := d10
          rw [e9]
          clear e9
          refine OpOk.late rfl ?_
          exact ⟨_, yields_extract rfl _ _ rfl _ rfl _ rfl, rfl⟩
      case htail1 =>
        intro u A w1 hA hb hd hf
        simp only [putAll, dstOf, List.getElem?_toArray, List.getElem?_cons_succ, List.getElem?_cons_zero, Option.bind_some, Option.bind, Act.put, List.setIfInBounds_toArray, List.set_cons_succ, List.set_cons_zero] at hA; subst hA
        have e0 : u 0 = _ := hd 0 (by omega)
        have e1 : u 1 = _ := hd 1 (by omega)
        have e2 : u 2 = _ := hd 2 (by omega)
        have e3 : u 3 = _ := hd 3 (by omega)
        have e4 : u 4 = _ := hd 4 (by omega)
        have e5 : u 5 = _ := hd 5 (by omega)
        have p6 := hd 6 (by omega)
        have e7 : u 7 = _ := hd 7 (by omega)
        have p8 := hd 8 (by omega)
        have p9 := hd 9 (by omega)
        have p10 := hd 10 (by omega)
        have p11 := hd 11 (by omega)
        have e12 : u 12 = _ := hd 12 (by omega)
        first | rw [e0, e1, e2, e3, e4, e5, e7, e12] | simp only [e0, e1, e2, e3, e4, e5, e7, e12]
        clear e0 e1 e2 e3 e4 e5 e7 e12
        clear hd hf
        clear p6 p8 p9 p10
        generalize u 11 = vO at *
        go_wp2_with (fail)
        dsimp only [NoPanic]
        have nHQ := Lib.hid (HQ.out.below hb)
        have nHD1 := Lib.hid (HD1.out.below hb)
        have nHA1 := Lib.hid (HA1.out.below hb)
        have nHV1 := Lib.hid (HV1.out.below hb)
        have nHB := Lib.hid (bthen HB.out hb)
        clear HQ HD1 HA1 HV1 HB hb
        have HQ := nHQ
        have HD1 := nHD1
        have HA1 := nHA1
        have HV1 := nHV1
        have HB := nHB
        clear nHQ nHD1 nHA1 nHV1 nHB
        by_cases e1 : E = 0
        case neg =>
          have e1z : (E != 0) = true := by simpa using e1
          clear e1 p11
          go_wp2_with (first | (go_at_call 9; (with_reducible refine (dworks_c _).mono ?_); rintro e w1 ⟨rfl, hb1⟩; have nHB := Lib.hid (bthen HB.out hb1); have zz1 := hb1.size; clear HB hb1; have HB := nHB; clear nHB))
          go_ret
          exact ⟨rfl, HB.out⟩
        subst e1
        obtain ⟨Ao, co, rfl, o1, o2, ho⟩ := (p11 rfl).e
        clear p11
        obtain ⟨bo, oo, rfl, hbo, -⟩ := ho (by omega)
        have HO := Lib.hid ho
        clear ho
        have hbk := (fun w1 A c h1 h2 h3 h4 h5 h6 => dBook_c D (.slice A1 D.ns k1) (.slice A2 D.nh k2) (.slice A3 D.nu k3) M (.slice A4 M.n k4) (.slice A5 M.m k5) Mo (.slice A6 Mo.np k6) (.slice A7 Mo.nr k7) (.slice A8 Mo.nv k8) A m c T B w1 h1 h2 h3 h4 h5 h6)
        rw [bookE_mono HE.out (Nat.le_of_lt hm1)] at hbk
        have HBK2 := Lib.hid hbk
        clear hbk
        go_wp2_with (fail)
        refine wp_region_specL 17 [16] (on2 gHQ (.agg #[.int .i64 D.size, .int .i64 D.load, .int .i64 D.wind, .slice A1 D.ns k1, .int .i64 D.pitch, .int .i64 D.roll, .int .i64 D.heave, .int .i64 D.fire, .slice A2 D.nh k2, .slice A3 D.nu k3]) (.agg #[.int .i64 M.places, .int .i64 M.any.a0, .int .i64 M.any.a1, .int .i64 M.any.a2, .int .i64 M.any.a3, .int .i64 M.any.a4, .int .i64 M.any.a5, .bool M.any.i, .bool M.any.s, .int .i64 M.mw, .int .i64 M.ms, .int .i64 M.mc, .slice A4 M.n k4, .slice A5 M.m k5]) (.agg #[.slice A6 Mo.np k6, .slice A7 Mo.nr k7, .slice A8 Mo.nv k8]) (.slice (some ⟨bs, os, none⟩) n c) (.slice (some ⟨bs, os, none⟩) m c) T B n m (bkO D M Mo T B) 0) (fun i => false) (by kernel_rfl) (by kernel_rfl) (by decide) on2_below ?hop2 ?htail2
        case hop2 =>
          simp only [List.take_succ_cons, List.take_zero, allOps]
          refine ⟨?_, ?_, ?_, ?_, ?_, ?_, ?_, ?_, ?_, ?_, ?_, ?_, ?_, ?_, ?_, ?_, ?_, trivial⟩
          all_goals intro u A w1 hA hb hd
          all_goals simp only [putAll, dstOf, List.getElem?_toArray, List.getElem?_cons_succ, List.getElem?_cons_zero, Option.bind_some, Option.bind, Act.put, List.setIfInBounds_toArray, List.set_cons_succ, List.set_cons_zero] at hA; subst hA
          all_goals have HB1 := Lib.hid hb
          · refine OpOk.now rfl ?_
            clear hb hd
            go_wp2
            exact ⟨_, rfl, Below.refl _ _, rfl, fun h => absurd h (by decide)⟩
          · refine OpOk.now rfl ?_
            have d0 : u 0 = _ := hd 0 (by omega) (by kernel_rfl)
            clear hb hd
            rw [d0]
            clear d0
            go_wp2_with (refine wpl_mid rfl 26 _ rfl _ 0 rfl 39 #[.int .i64 D.size, .int .i64 D.load, .int .i64 D.wind, .slice A1 D.ns k1, .int .i64 D.pitch, .int .i64 D.roll, .int .i64 D.heave, .int .i64 D.fire, .slice A2 D.nh k2, .slice A3 D.nu k3, .int .i64 M.places, .int .i64 M.any.a0, .int .i64 M.any.a1, .int .i64 M.any.a2, .int .i64 M.any.a3, .int .i64 M.any.a4, .int .i64 M.any.a5, .bool M.any.i, .bool M.any.s, .int .i64 M.mw, .int .i64 M.ms, .int .i64 M.mc, .slice A4 M.n k4, .slice A5 M.m k5, .slice A6 Mo.np k6, .slice A7 Mo.nr k7, .slice A8 Mo.nv k8] #[.int .i64 D.size, .int .i64 D.load, .int .i64 D.wind, .slice A1 D.ns k1, .int .i64 D.pitch, .int .i64 D.roll, .int .i64 D.heave, .int .i64 D.fire, .slice A2 D.nh k2, .slice A3 D.nu k3] 10 (HQ.out.below HB1.out) Tryz.rowDek [] [.int .i64 M.places, .int .i64 M.any.a0, .int .i64 M.any.a1, .int .i64 M.any.a2, .int .i64 M.any.a3, .int .i64 M.any.a4, .int .i64 M.any.a5, .bool M.any.i, .bool M.any.s, .int .i64 M.mw, .int .i64 M.ms, .int .i64 M.mc, .slice A4 M.n k4, .slice A5 M.m k5, .slice A6 Mo.np k6, .slice A7 Mo.nr k7, .slice A8 Mo.nv k8] rfl rfl rfl ?_; simp only [Act.put])
            exact ⟨_, rfl, Below.refl _ _, rfl, fun h => absurd h (by decide)⟩
          · refine OpOk.now rfl ?_
            clear hb hd
            go_wp2
            exact ⟨_, rfl, Below.refl _ _, rfl, fun h => absurd h (by decide)⟩
          · refine OpOk.now rfl ?_
            have d2 : u 2 = _ := hd 2 (by omega) (by kernel_rfl)
            clear hb hd
            rw [d2]
            clear d2
            go_wp2_with (refine wpl_mid rfl 34 _ rfl _ 10 rfl 39 #[.int .i64 D.size, .int .i64 D.load, .int .i64 D.wind, .slice A1 D.ns k1, .int .i64 D.pitch, .int .i64 D.roll, .int .i64 D.heave, .int .i64 D.fire, .slice A2 D.nh k2, .slice A3 D.nu k3, .int .i64 M.places, .int .i64 M.any.a0, .int .i64 M.any.a1, .int .i64 M.any.a2, .int .i64 M.any.a3, .int .i64 M.any.a4, .int .i64 M.any.a5, .bool M.any.i, .bool M.any.s, .int .i64 M.mw, .int .i64 M.ms, .int .i64 M.mc, .slice A4 M.n k4, .slice A5 M.m k5, .slice A6 Mo.np k6, .slice A7 Mo.nr k7, .slice A8 Mo.nv k8] #[.int .i64 M.places, .int .i64 M.any.a0, .int .i64 M.any.a1, .int .i64 M.any.a2, .int .i64 M.any.a3, .int .i64 M.any.a4, .int .i64 M.any.a5, .bool M.any.i, .bool M.any.s, .int .i64 M.mw, .int .i64 M.ms, .int .i64 M.mc, .slice A4 M.n k4, .slice A5 M.m k5] 14 (HQ.out.below HB1.out) Tryz.rowMet [.int .i64 D.size, .int .i64 D.load, .int .i64 D.wind, .slice A1 D.ns k1, .int .i64 D.pitch, .int .i64 D.roll, .int .i64 D.heave, .int .i64 D.fire, .slice A2 D.nh k2, .slice A3 D.nu k3] [.slice A6 Mo.np k6, .slice A7 Mo.nr k7, .slice A8 Mo.nv k8] rfl rfl rfl ?_; simp only [Act.put])
            exact ⟨_, rfl, Below.refl _ _, rfl, fun h => absurd h (by decide)⟩
          · refine OpOk.now rfl ?_
            clear hb hd
            go_wp2
            exact ⟨_, rfl, Below.refl _ _, rfl, fun h => absurd h (by decide)⟩
          · refine OpOk.now rfl ?_
            have d4 : u 4 = _ := hd 4 (by omega) (by kernel_rfl)
            clear hb hd
            rw [d4]
            clear d4
            go_wp2_with (refine wpl_mid rfl 37 _ rfl _ 24 rfl 39 #[.int .i64 D.size, .int .i64 D.load, .int .i64 D.wind, .slice A1 D.ns k1, .int .i64 D.pitch, .int .i64 D.roll, .int .i64 D.heave, .int .i64 D.fire, .slice A2 D.nh k2, .slice A3 D.nu k3, .int .i64 M.places, .int .i64 M.any.a0, .int .i64 M.any.a1, .int .i64 M.any.a2, .int .i64 M.any.a3, .int .i64 M.any.a4, .int .i64 M.any.a5, .bool M.any.i, .bool M.any.s, .int .i64 M.mw, .int .i64 M.ms, .int .i64 M.mc, .slice A4 M.n k4, .slice A5 M.m k5, .slice A6 Mo.np k6, .slice A7 Mo.nr k7, .slice A8 Mo.nv k8] #[.slice A6 Mo.np k6, .slice A7 Mo.nr k7, .slice A8 Mo.nv k8] 3 (HQ.out.below HB1.out) Tryz.rowMov [.int .i64 D.size, .int .i64 D.load, .int .i64 D.wind, .slice A1 D.ns k1, .int .i64 D.pitch, .int .i64 D.roll, .int .i64 D.heave, .int .i64 D.fire, .slice A2 D.nh k2, .slice A3 D.nu k3, .int .i64 M.places, .int .i64 M.any.a0, .int .i64 M.any.a1, .int .i64 M.any.a2, .int .i64 M.any.a3, .int .i64 M.any.a4, .int .i64 M.any.a5, .bool M.any.i, .bool M.any.s, .int .i64 M.mw, .int .i64 M.ms, .int .i64 M.mc, .slice A4 M.n k4, .slice A5 M.m k5] [] rfl rfl rfl ?_; simp only [Act.put])
            exact ⟨_, rfl, Below.refl _ _, rfl, fun h => absurd h (by decide)⟩
          · refine OpOk.now rfl ?_
            clear hb hd
            go_wp2
            exact ⟨_, rfl, bal (RowKit.Below.refl _ _) _, ⟨_, rfl, Blk.new _ _ _⟩, fun h => absurd h (by decide)⟩
          · refine OpOk.now rfl ?_
            clear hb hd
            go_wp2
            exact ⟨_, rfl, Below.refl _ _, rfl, fun h => absurd h (by decide)⟩
          · refine OpOk.now rfl ?_
            clear hb hd
            go_wp2
            exact ⟨_, rfl, Below.refl _ _, rfl, fun h => absurd h (by decide)⟩
          · refine OpOk.now rfl ?_
            have d8 : u 8 = _ := hd 8 (by omega) (by kernel_rfl)
            clear hb hd
            rw [d8]
            clear d8
            go_wp2
            exact ⟨_, rfl, Below.refl _ _, rfl, fun h => absurd h (by decide)⟩
          · refine OpOk.now rfl ?_
            have d9 : u 9 = _ := hd 9 (by omega) (by kernel_rfl)
            clear hb hd
            rw [d9]
            clear d9
            go_wp2
            exact ⟨_, rfl, RowKit.Below.refl _ _, (by first | rfl | go_num | (congr 1; omega)), fun h => absurd h (by decide)⟩
          · refine OpOk.now rfl ?_
            have d7 : u 7 = _ := hd 7 (by omega) (by kernel_rfl)
            have d10 : u 10 = _ := hd 10 (by omega) (by kernel_rfl)
            clear hb hd
            rw [d7, d10]
            clear d7 d10
            go_wp2
            exact ⟨_, rfl, Below.refl _ _, rfl, fun h => absurd h (by decide)⟩
          · refine OpOk.now rfl ?_
            have d6 := hd 6 (by omega) (by kernel_rfl)
            have d11 : u 11 = _ := hd 11 (by omega) (by kernel_rfl)
            clear hb hd
            rw [d11]
            clear d11
            obtain ⟨g, dg, d1⟩ := d6
            rw [dg]
            clear dg
            refine wpl_cpk rfl (.tmp 82) (.tmp 87) Tryz.bkU Tryz.bkI (by omega) (bkC_one T B) rfl g rfl d1 (some ⟨bs, os, none⟩) m c rfl (((HL.out.below HB.out).below HB1.out).less (Nat.le_of_lt hm1)) (by omega) ?_
            intro v' w' hq hbl
            exact ⟨v', rfl, hbl.out, (by obtain ⟨A', c', q1, q2, q3, q4, q5⟩ := hq.out; exact ⟨A', c', q1, q2, q3, q4⟩), fun h => absurd h (by decide)⟩
          · refine OpOk.now rfl ?_
            have d1 : u 1 = _ := hd 1 (by omega) (by kernel_rfl)
            have d3 : u 3 = _ := hd 3 (by omega) (by kernel_rfl)
            have d5 : u 5 = _ := hd 5 (by omega) (by kernel_rfl)
            have d12 := hd 12 (by omega) (by kernel_rfl)
            clear hb hd
            rw [d1, d3, d5]
            clear d1 d3 d5
            obtain ⟨A', c', e8, q1, q2, r8⟩ := d12
            rw [e8]
            clear e8
            go_wp2_with (go_at_call 23; (with_reducible refine (HBK2.out _ _ _ (HD1.out.below HB1.out) (HA1.out.below HB1.out) (HV1.out.below HB1.out) q1 q2 r8).mono ?_); rintro e w2 ⟨v', rfl, hb2⟩)
            obtain ⟨hb3, hs⟩ := hb2
            exact ⟨_, rfl, hb3, ⟨v', rfl, fun _ => hs trivial⟩, fun h => absurd h (by decide)⟩
          · refine OpOk.now rfl ?_
            have d13 := hd 13 (by omega) (by kernel_rfl)
            clear hb hd
            obtain ⟨v', e9, hs⟩ := d13
            rw [e9]
            clear e9
            go_wp2
            exact ⟨_, rfl, RowKit.Below.refl _ _, ⟨v', rfl, fun _ => hs trivial⟩, fun h => absurd h (by decide)⟩
          · refine OpOk.now rfl ?_
            have d14 := hd 14 (by omega) (by kernel_rfl)
            clear hb hd
            obtain ⟨v', e9, hs⟩ := d14
            rw [e9]
            clear e9
            go_wp2
            exact ⟨_, rfl, RowKit.Below.refl _ _, fun _ => hs trivial, fun h => absurd h (by decide)⟩
          · have d14 := hd 14 (by omega) (by kernel_rfl)
            clear hb hd
            obtain ⟨v', e9, hs⟩ := d14
            rw [e9]
            clear e9
            refine OpOk.late rfl ?_
            exact ⟨_, yields_extract rfl _ _ rfl _ rfl _ rfl, rfl⟩
        case htail2 =>
          intro u A w1 hA hb hd hf
          simp only [putAll, dstOf, List.getElem?_toArray, List.getElem?_cons_succ, List.getElem?_cons_zero, Option.bind_some, Option.bind, Act.put, List.setIfInBounds_toArray, List.set_cons_succ, List.set_cons_zero] at hA; subst hA
          have e0 : u 0 = _ := hd 0 (by omega)
          have e1 : u 1 = _ := hd 1 (by omega)
          have e2 : u 2 = _ := hd 2 (by omega)
          have e3 : u 3 = _ := hd 3 (by omega)
          have e4 : u 4 = _ := hd 4 (by omega)
          have e5 : u 5 = _ := hd 5 (by omega)
          have p6 := hd 6 (by omega)
          have e7 : u 7 = _ := hd 7 (by omega)
          have e8 : u 8 = _ := hd 8 (by omega)
          have e9 : u 9 = _ := hd 9 (by omega)
          have e10 : u 10 = _ := hd 10 (by omega)
          have e11 : u 11 = _ := hd 11 (by omega)
          have p12 := hd 12 (by omega)
          have p13 := hd 13 (by omega)
          have p14 := hd 14 (by omega)
          have p15 := hd 15 (by omega)
          have e16 : u 16 = _ := hd 16 (by omega)
          first | rw [e0, e1, e2, e3, e4, e5, e7, e8, e9, e10, e11, e16] | simp only [e0, e1, e2, e3, e4, e5, e7, e8, e9, e10, e11, e16]
          clear e0 e1 e2 e3 e4 e5 e7 e8 e9 e10 e11 e16
          clear hd hf
          clear p6 p12 p13 p14
          generalize u 15 = vL at *
          go_wp2_with (fail)
          dsimp only [NoPanic]
          have nHQ := Lib.hid (HQ.out.below hb)
          have nHD1 := Lib.hid (HD1.out.below hb)
          have nHA1 := Lib.hid (HA1.out.below hb)
          have nHV1 := Lib.hid (HV1.out.below hb)
          have nHO := Lib.hid (HO.out.below hb)
          have nHB := Lib.hid (bthen HB.out hb)
          clear HQ HD1 HA1 HV1 HO HB hb
          have HQ := nHQ
          have HD1 := nHD1
          have HA1 := nHA1
          have HV1 := nHV1
          have HO := nHO
          have HB := nHB
          clear nHQ nHD1 nHA1 nHV1 nHO nHB
          obtain ⟨Al, cl, rfl, l1, l2, hl⟩ := (p15 rfl).e
          clear p15
          have HLL := Lib.hid hl
          clear hl
          go_wp2_with (fail)
          rw [show n - 1 = m by omega]
          refine (dsame_c _ _ m (bkO D M Mo T B) (bkO D M Mo T B) _ ⟨⟨_, _, rfl, l1, l2, HLL.out⟩⟩ ⟨⟨_, _, rfl, by omega, o2, HO.out.less (Nat.le_of_lt hm1)⟩⟩ (by omega) (fun _ _ => rfl)).mono ?_
          rintro e w1 ⟨rfl, hb1⟩
          have K0 := Lib.hid (show OnK D A1 A2 A3 k1 k2 k3 M A4 A5 k4 k5 Mo A6 A7 A8 k6 k7 k8 T B (some ⟨bs, os, none⟩) n (some ⟨bo, oo, none⟩) gHQ w w1 from ⟨bthen HB.out hb1, HQ.out.below hb1, HD1.out.below hb1, HA1.out.below hb1, HV1.out.below hb1, (HL.out.below HB.out).below hb1, HO.out.below hb1⟩)
          clear HB HQ HD1 HA1 HV1 HO HLL hb1
          go_wp2_with (fail)
          go_loopg [13] n (fun gx v wr => ∃ k : Nat, v = .int .i64 k ∧ k ≤ n ∧ n - k ≤ gx ∧ Hid (OnK D A1 A2 A3 k1 k2 k3 M A4 A5 k4 k5 Mo A6 A7 A8 k6 k7 k8 T B (some ⟨bs, os, none⟩) n (some ⟨bo, oo, none⟩) gHQ w wr))
          case atStart => exact ⟨0, rfl, Nat.zero_le _, Nat.le_refl _, K0⟩
          case round =>
            clear K0
            obtain ⟨k, rfl, hk, hgx, K0⟩ := hrel
            by_cases hlt : k < n
            case neg =>
              obtain rfl : n = k := by omega
              have HB := Lib.hid K0.out.b
              clear K0
              go_wp2_with (first | (go_at_call 9; (with_reducible refine (dworks_c _).mono ?_); rintro e w1 ⟨rfl, hb1⟩; have nHB := Lib.hid (bthen HB.out hb1); have zz1 := hb1.size; clear HB hb1; have HB := nHB; clear nHB))
              go_ret
              exact ⟨rfl, HB.out⟩
            have hltz : (k : Int) < (n : Int) := by omega
            obtain ⟨hsp, ⟨g0, g1⟩, ⟨g2, g3⟩, ga⟩ := bkO_spec HE.out hlt
            obtain ⟨NF, hNF⟩ : ∃ F, F = whyN D M Mo (apK T B k) := ⟨_, rfl⟩
            obtain ⟨TO, hTO⟩ : ∃ F : Int → Bool, F = fun t => bkdB (bkO D M Mo T B) (fun j => T j 1) t k := ⟨_, rfl⟩
            have hwy := fun t h0 h1 w1 hd hm ho => dWhyK D (.slice A1 D.ns k1) (.slice A2 D.nh k2) (.slice A3 D.nu k3) M (.slice A4 M.n k4) (.slice A5 M.m k5) Mo (.slice A6 Mo.np k6) (.slice A7 Mo.nr k7) (.slice A8 Mo.nv k8) T B k (bookE_ok HE.out).1 ga t h0 h1 w1 hd hm ho
            have HBD := Lib.hid (show ∀ (t : Int) (w1 : World), RecsAt w1 (some ⟨bs, os, none⟩) n 12 (bkC T B) → RecsAt w1 (some ⟨bo, oo, none⟩) n 1 (lV (bkO D M Mo T B)) → Calls Tryz.prog 25 #[.slice (some ⟨bs, os, none⟩) n c, .slice (some ⟨bo, oo, none⟩) n co, .int .i64 k, .int .i64 t] w1 fun e w' => e = .returned (.bool (TO t)) ∧ RowKit.Below w1.heap.size w1 w' from fun t w1 h1 h2 => by
              rw [hTO]
              exact dbooked_c _ n c T B _ (bkO D M Mo T B) k t w1 h1 ⟨⟨_, _, rfl, o1, o2, h2⟩⟩ hc1 hc2 (by omega) (bkO_in HE.out))
            simp only [← hNF] at hwy hsp
            have hTO' : ∀ x, bkdB (bkO D M Mo T B) (fun j => T j 1) x k = TO x := fun x => by rw [hTO]
            simp only [hTO'] at hsp
            clear hNF hTO hTO' ga
            have HWY := Lib.hid hwy
            clear hwy
            obtain ⟨V, hV⟩ : ∃ V, V = bkO D M Mo T B k := ⟨_, rfl⟩
            rw [← hV] at hsp
            have HVQ := Lib.hid hV
            clear hV
            have cO := K0.out.s.get1 hlt
            rw [← HVQ.out] at cO
            have c0 := K0.out.l.bk0 hlt
            have c1 := K0.out.l.bk1 hlt
            rcases hsp with rfl | ⟨v0, v1, hs1, hs2⟩
            · go_wp2_with (fail)
              go_roundg (n - (k + 1))
              case measure => omega
              case rel => exact ⟨k + 1, by first | rfl | go_num | (congr 1; omega), by omega, Nat.le_refl _, K0⟩
            have HS1 := Lib.hid hs1
            have HS2 := Lib.hid hs2
            clear hs1 hs2
            have hw1 : IntKind.i64.wrap (V + T k 1) = V + T k 1 := wrap_id (by omega) (by omega)
            go_wp2_with (fail)
            go_quiet (fail)
            have nK0 := Lib.hid (K0.out.grow (bdn (RowKit.Below.refl _ _) nq))
            clear K0 cO c0 c1
            generalize wr.drewN nq = wr at *
            have K0 := nK0
            clear nK0
            have cO := K0.out.s.get1 hlt
            rw [← HVQ.out] at cO
            have c0 := K0.out.l.bk0 hlt
            have c1 := K0.out.l.bk1 hlt
            go_wp2_with (fail)
            go_loopg [14] (T k 1).toNat (fun gy v wr => ∃ t : Int, v = .int .i64 t ∧ V ≤ t ∧ t ≤ V + T k 1 ∧ (V + T k 1 - t).toNat ≤ gy ∧ Hid (OnK D A1 A2 A3 k1 k2 k3 M A4 A5 k4 k5 Mo A6 A7 A8 k6 k7 k8 T B (some ⟨bs, os, none⟩) n (some ⟨bo, oo, none⟩) gHQ w wr))
            case atStart => exact ⟨V, rfl, by omega, by omega, by omega, K0⟩
            case round =>
              clear K0 cO c0 c1
              obtain ⟨t, rfl, t0, t1, hgy, K0⟩ := hrel
              have cO := K0.out.s.get1 hlt
              rw [← HVQ.out] at cO
              have c0 := K0.out.l.bk0 hlt
              have c1 := K0.out.l.bk1 hlt
              by_cases htl : t < V + T k 1
              case pos =>
                obtain ⟨hto, hnf⟩ := HS1.out t t0 htl
                have HNF := Lib.hid hnf
                clear hnf
                go_wp2
                go_quiet (fail)
                have nK0 := Lib.hid (K0.out.grow (bdn (RowKit.Below.refl _ _) nq))
                clear K0 cO c0 c1
                generalize wr.drewN nq = wr at *
                have K0 := nK0
                clear nK0
                have cO := K0.out.s.get1 hlt
                rw [← HVQ.out] at cO
                have c0 := K0.out.l.bk0 hlt
                have c1 := K0.out.l.bk1 hlt
                go_wp2_with (fail)
                refine wp_region_specL 16 [15] (on3 gHQ (.agg #[.int .i64 D.size, .int .i64 D.load, .int .i64 D.wind, .slice A1 D.ns k1, .int .i64 D.pitch, .int .i64 D.roll, .int .i64 D.heave, .int .i64 D.fire, .slice A2 D.nh k2, .slice A3 D.nu k3]) (.agg #[.int .i64 M.places, .int .i64 M.any.a0, .int .i64 M.any.a1, .int .i64 M.any.a2, .int .i64 M.any.a3, .int .i64 M.any.a4, .int .i64 M.any.a5, .bool M.any.i, .bool M.any.s, .int .i64 M.mw, .int .i64 M.ms, .int .i64 M.mc, .slice A4 M.n k4, .slice A5 M.m k5]) (.agg #[.slice A6 Mo.np k6, .slice A7 Mo.nr k7, .slice A8 Mo.nv k8]) (.slice (some ⟨bs, os, none⟩) n c) (.int .i64 (k : Int)) (.pointer (some ⟨bs, os + k * 12, none⟩)) (.pointer (some ⟨bs, os + k * 12 + 2, none⟩)) (.agg #[.int .i64 (T k 2), .int .i64 (T k 3), .int .i64 (T k 4), .int .i64 (T k 5), .int .i64 (T k 6), .bool (B k 7), .bool (B k 8), .int .i64 (T k 9), .int .i64 (T k 10), .int .i64 (T k 11)]) (.int .i64 t) (NF t)) (fun i => false) (by kernel_rfl) (by kernel_rfl) (by decide) on3_below ?hop3 ?htail3
                case hop3 =>
                  simp only [List.take_succ_cons, List.take_zero, allOps]
                  refine ⟨?_, ?_, ?_, ?_, ?_, ?_, ?_, ?_, ?_, ?_, ?_, ?_, ?_, ?_, ?_, ?_, trivial⟩
                  all_goals intro u A w1 hA hb hd
                  all_goals simp only [putAll, dstOf, List.getElem?_toArray, List.getElem?_cons_succ, List.getElem?_cons_zero, Option.bind_some, Option.bind, Act.put, List.setIfInBounds_toArray, List.set_cons_succ, List.set_cons_zero] at hA; subst hA
                  all_goals have HB1 := Lib.hid hb
                  · refine OpOk.now rfl ?_
                    clear hb hd
                    go_wp2
                    exact ⟨_, rfl, Below.refl _ _, rfl, fun h => absurd h (by decide)⟩
                  · refine OpOk.now rfl ?_
                    have d0 : u 0 = _ := hd 0 (by omega) (by kernel_rfl)
                    clear hb hd
                    rw [d0]
                    clear d0
                    go_wp2_with (refine wpl_mid rfl 26 _ rfl _ 0 rfl 39 #[.int .i64 D.size, .int .i64 D.load, .int .i64 D.wind, .slice A1 D.ns k1, .int .i64 D.pitch, .int .i64 D.roll, .int .i64 D.heave, .int .i64 D.fire, .slice A2 D.nh k2, .slice A3 D.nu k3, .int .i64 M.places, .int .i64 M.any.a0, .int .i64 M.any.a1, .int .i64 M.any.a2, .int .i64 M.any.a3, .int .i64 M.any.a4, .int .i64 M.any.a5, .bool M.any.i, .bool M.any.s, .int .i64 M.mw, .int .i64 M.ms, .int .i64 M.mc, .slice A4 M.n k4, .slice A5 M.m k5, .slice A6 Mo.np k6, .slice A7 Mo.nr k7, .slice A8 Mo.nv k8] #[.int .i64 D.size, .int .i64 D.load, .int .i64 D.wind, .slice A1 D.ns k1, .int .i64 D.pitch, .int .i64 D.roll, .int .i64 D.heave, .int .i64 D.fire, .slice A2 D.nh k2, .slice A3 D.nu k3] 10 (K0.out.q.below HB1.out) Tryz.rowDek [] [.int .i64 M.places, .int .i64 M.any.a0, .int .i64 M.any.a1, .int .i64 M.any.a2, .int .i64 M.any.a3, .int .i64 M.any.a4, .int .i64 M.any.a5, .bool M.any.i, .bool M.any.s, .int .i64 M.mw, .int .i64 M.ms, .int .i64 M.mc, .slice A4 M.n k4, .slice A5 M.m k5, .slice A6 Mo.np k6, .slice A7 Mo.nr k7, .slice A8 Mo.nv k8] rfl rfl rfl ?_; simp only [Act.put])
                    exact ⟨_, rfl, Below.refl _ _, rfl, fun h => absurd h (by decide)⟩
                  · refine OpOk.now rfl ?_
                    clear hb hd
                    go_wp2
                    exact ⟨_, rfl, Below.refl _ _, rfl, fun h => absurd h (by decide)⟩
                  · refine OpOk.now rfl ?_
                    have d2 : u 2 = _ := hd 2 (by omega) (by kernel_rfl)
                    clear hb hd
                    rw [d2]
                    clear d2
                    go_wp2_with (refine wpl_mid rfl 34 _ rfl _ 10 rfl 39 #[.int .i64 D.size, .int .i64 D.load, .int .i64 D.wind, .slice A1 D.ns k1, .int .i64 D.pitch, .int .i64 D.roll, .int .i64 D.heave, .int .i64 D.fire, .slice A2 D.nh k2, .slice A3 D.nu k3, .int .i64 M.places, .int .i64 M.any.a0, .int .i64 M.any.a1, .int .i64 M.any.a2, .int .i64 M.any.a3, .int .i64 M.any.a4, .int .i64 M.any.a5, .bool M.any.i, .bool M.any.s, .int .i64 M.mw, .int .i64 M.ms, .int .i64 M.mc, .slice A4 M.n k4, .slice A5 M.m k5, .slice A6 Mo.np k6, .slice A7 Mo.nr k7, .slice A8 Mo.nv k8] #[.int .i64 M.places, .int .i64 M.any.a0, .int .i64 M.any.a1, .int .i64 M.any.a2, .int .i64 M.any.a3, .int .i64 M.any.a4, .int .i64 M.any.a5, .bool M.any.i, .bool M.any.s, .int .i64 M.mw, .int .i64 M.ms, .int .i64 M.mc, .slice A4 M.n k4, .slice A5 M.m k5] 14 (K0.out.q.below HB1.out) Tryz.rowMet [.int .i64 D.size, .int .i64 D.load, .int .i64 D.wind, .slice A1 D.ns k1, .int .i64 D.pitch, .int .i64 D.roll, .int .i64 D.heave, .int .i64 D.fire, .slice A2 D.nh k2, .slice A3 D.nu k3] [.slice A6 Mo.np k6, .slice A7 Mo.nr k7, .slice A8 Mo.nv k8] rfl rfl rfl ?_; simp only [Act.put])
                    exact ⟨_, rfl, Below.refl _ _, rfl, fun h => absurd h (by decide)⟩
                  · refine OpOk.now rfl ?_
                    clear hb hd
                    go_wp2
                    exact ⟨_, rfl, Below.refl _ _, rfl, fun h => absurd h (by decide)⟩
                  · refine OpOk.now rfl ?_
                    have d4 : u 4 = _ := hd 4 (by omega) (by kernel_rfl)
                    clear hb hd
                    rw [d4]
                    clear d4
                    go_wp2_with (refine wpl_mid rfl 37 _ rfl _ 24 rfl 39 #[.int .i64 D.size, .int .i64 D.load, .int .i64 D.wind, .slice A1 D.ns k1, .int .i64 D.pitch, .int .i64 D.roll, .int .i64 D.heave, .int .i64 D.fire, .slice A2 D.nh k2, .slice A3 D.nu k3, .int .i64 M.places, .int .i64 M.any.a0, .int .i64 M.any.a1, .int .i64 M.any.a2, .int .i64 M.any.a3, .int .i64 M.any.a4, .int .i64 M.any.a5, .bool M.any.i, .bool M.any.s, .int .i64 M.mw, .int .i64 M.ms, .int .i64 M.mc, .slice A4 M.n k4, .slice A5 M.m k5, .slice A6 Mo.np k6, .slice A7 Mo.nr k7, .slice A8 Mo.nv k8] #[.slice A6 Mo.np k6, .slice A7 Mo.nr k7, .slice A8 Mo.nv k8] 3 (K0.out.q.below HB1.out) Tryz.rowMov [.int .i64 D.size, .int .i64 D.load, .int .i64 D.wind, .slice A1 D.ns k1, .int .i64 D.pitch, .int .i64 D.roll, .int .i64 D.heave, .int .i64 D.fire, .slice A2 D.nh k2, .slice A3 D.nu k3, .int .i64 M.places, .int .i64 M.any.a0, .int .i64 M.any.a1, .int .i64 M.any.a2, .int .i64 M.any.a3, .int .i64 M.any.a4, .int .i64 M.any.a5, .bool M.any.i, .bool M.any.s, .int .i64 M.mw, .int .i64 M.ms, .int .i64 M.mc, .slice A4 M.n k4, .slice A5 M.m k5] [] rfl rfl rfl ?_; simp only [Act.put])
                    exact ⟨_, rfl, Below.refl _ _, rfl, fun h => absurd h (by decide)⟩
                  · refine OpOk.now rfl ?_
                    clear hb hd
                    go_wp2
                    exact ⟨_, rfl, Below.refl _ _, rfl, fun h => absurd h (by decide)⟩
                  · refine OpOk.now rfl ?_
                    clear hb hd
                    go_wp2
                    exact ⟨_, rfl, Below.refl _ _, rfl, fun h => absurd h (by decide)⟩
                  · refine OpOk.now rfl ?_
                    have d6 : u 6 = _ := hd 6 (by omega) (by kernel_rfl)
                    have d7 : u 7 = _ := hd 7 (by omega) (by kernel_rfl)
                    clear hb hd
                    rw [d6, d7]
                    clear d6 d7
                    go_wp2
                    exact ⟨_, rfl, Below.refl _ _, rfl, fun h => absurd h (by decide)⟩
                  · refine OpOk.now rfl ?_
                    have d8 : u 8 = _ := hd 8 (by omega) (by kernel_rfl)
                    clear hb hd
                    rw [d8]
                    clear d8
                    go_wp2
                    exact ⟨_, rfl, Below.refl _ _, rfl, fun h => absurd h (by decide)⟩
                  · refine OpOk.now rfl ?_
                    have d9 : u 9 = _ := hd 9 (by omega) (by kernel_rfl)
                    clear hb hd
                    rw [d9]
                    clear d9
                    have q2 : w1.cell? ⟨bs, os + k * 12 + 2, none⟩ = some (.int .i64 (T k 2)) := (K0.out.l.below HB1.out).get hlt (by omega)
                    have q3 : w1.cell? ⟨bs, os + k * 12 + 3, none⟩ = some (.int .i64 (T k 3)) := (K0.out.l.below HB1.out).get hlt (by omega)
                    have q4 : w1.cell? ⟨bs, os + k * 12 + 4, none⟩ = some (.int .i64 (T k 4)) := (K0.out.l.below HB1.out).get hlt (by omega)
                    have q5 : w1.cell? ⟨bs, os + k * 12 + 5, none⟩ = some (.int .i64 (T k 5)) := (K0.out.l.below HB1.out).get hlt (by omega)
                    have q6 : w1.cell? ⟨bs, os + k * 12 + 6, none⟩ = some (.int .i64 (T k 6)) := (K0.out.l.below HB1.out).get hlt (by omega)
                    have q7 : w1.cell? ⟨bs, os + k * 12 + 7, none⟩ = some (.bool (B k 7)) := (K0.out.l.below HB1.out).get hlt (by omega)
                    have q8 : w1.cell? ⟨bs, os + k * 12 + 8, none⟩ = some (.bool (B k 8)) := (K0.out.l.below HB1.out).get hlt (by omega)
                    have q9 : w1.cell? ⟨bs, os + k * 12 + 9, none⟩ = some (.int .i64 (T k 9)) := (K0.out.l.below HB1.out).get hlt (by omega)
                    have q10 : w1.cell? ⟨bs, os + k * 12 + 10, none⟩ = some (.int .i64 (T k 10)) := (K0.out.l.below HB1.out).get hlt (by omega)
                    have q11 : w1.cell? ⟨bs, os + k * 12 + 11, none⟩ = some (.int .i64 (T k 11)) := (K0.out.l.below HB1.out).get hlt (by omega)
                    go_wp2
                    exact ⟨_, rfl, Below.refl _ _, rfl, fun h => absurd h (by decide)⟩
                  · refine OpOk.now rfl ?_
                    clear hb hd
                    go_wp2
                    exact ⟨_, rfl, Below.refl _ _, rfl, fun h => absurd h (by decide)⟩
                  · refine OpOk.now rfl ?_
                    have d1 : u 1 = _ := hd 1 (by omega) (by kernel_rfl)
                    have d3 : u 3 = _ := hd 3 (by omega) (by kernel_rfl)
                    have d5 : u 5 = _ := hd 5 (by omega) (by kernel_rfl)
                    have d10 : u 10 = _ := hd 10 (by omega) (by kernel_rfl)
                    have d11 : u 11 = _ := hd 11 (by omega) (by kernel_rfl)
                    clear hb hd
                    rw [d1, d3, d5, d10, d11]
                    clear d1 d3 d5 d10 d11
                    go_wp2_with (go_at_call 11; (with_reducible refine (HWY.out t (by omega) (by omega) _ (K0.out.d.below HB1.out) (K0.out.m.below HB1.out) (K0.out.o.below HB1.out)).mono ?_); rintro e w2 ⟨A9, c9, rfl, hb2⟩)
                    exact ⟨_, rfl, hb2, ⟨A9, c9, rfl⟩, fun h => absurd h (by decide)⟩
                  · refine OpOk.now rfl ?_
                    have d12 := hd 12 (by omega) (by kernel_rfl)
                    clear hb hd
                    obtain ⟨A9, c9, e9⟩ := d12
                    rw [e9]
                    clear e9
                    go_wp2
                    exact ⟨_, rfl, RowKit.Below.refl _ _, ⟨A9, c9, rfl⟩, fun h => absurd h (by decide)⟩
                  · refine OpOk.now rfl ?_
                    have d13 := hd 13 (by omega) (by kernel_rfl)
                    clear hb hd
                    obtain ⟨A9, c9, e9⟩ := d13
                    rw [e9]
                    clear e9
                    go_wp2
                    exact ⟨_, rfl, RowKit.Below.refl _ _, ⟨A9, c9, rfl⟩, fun h => absurd h (by decide)⟩
                  · have d13 := hd 13 (by omega) (by kernel_rfl)
                    clear hb hd
                    obtain ⟨A9, c9, e9⟩ := d13
                    rw [e9]
                    clear e9
                    refine OpOk.late rfl ?_
                    exact ⟨_, yields_extract rfl _ _ rfl _ rfl _ rfl, rfl⟩
                case htail3 =>
                  intro u A w1 hA hb hd hf
                  simp only [putAll, dstOf, List.getElem?_toArray, List.getElem?_cons_succ, List.getElem?_cons_zero, Option.bind_some, Option.bind, Act.put, List.setIfInBounds_toArray, List.set_cons_succ, List.set_cons_zero] at hA; subst hA
                  have e0 : u 0 = _ := hd 0 (by omega)
                  have e1 : u 1 = _ := hd 1 (by omega)
                  have e2 : u 2 = _ := hd 2 (by omega)
                  have e3 : u 3 = _ := hd 3 (by omega)
                  have e4 : u 4 = _ := hd 4 (by omega)
                  have e5 : u 5 = _ := hd 5 (by omega)
                  have e6 : u 6 = _ := hd 6 (by omega)
                  have e7 : u 7 = _ := hd 7 (by omega)
                  have e8 : u 8 = _ := hd 8 (by omega)
                  have e9 : u 9 = _ := hd 9 (by omega)
                  have e10 : u 10 = _ := hd 10 (by omega)
                  have e11 : u 11 = _ := hd 11 (by omega)
                  have p12 := hd 12 (by omega)
                  have p13 := hd 13 (by omega)
                  have p14 := hd 14 (by omega)
                  have e15 : u 15 = _ := hd 15 (by omega)
                  first | rw [e0, e1, e2, e3, e4, e5, e6, e7, e8, e9, e10, e11, e15] | simp only [e0, e1, e2, e3, e4, e5, e6, e7, e8, e9, e10, e11, e15]
                  clear e0 e1 e2 e3 e4 e5 e6 e7 e8 e9 e10 e11 e15
                  clear hd hf
                  clear p12 p13
                  obtain ⟨A9, c9, e14⟩ := p14
                  rw [e14]
                  clear e14
                  have nK0 := Lib.hid (K0.out.grow hb)
                  clear K0 cO c0 c1
                  have K0 := nK0
                  clear nK0 hb
                  have cO := K0.out.s.get1 hlt
                  rw [← HVQ.out] at cO
                  have c0 := K0.out.l.bk0 hlt
                  have c1 := K0.out.l.bk1 hlt
                  rw [HNF.out]
                  go_wp2_with (fail)
                  dsimp only [NoPanic]
                  go_wp2_with (first | (refine (HBD.out t _ K0.out.l K0.out.s).mono ?_; rintro e w2 ⟨rfl, hb2⟩; have nK0 := Lib.hid (K0.out.grow hb2); clear K0 hb2 cO c0 c1; have K0 := nK0; clear nK0; (try rw [hto])))
                  go_roundg (V + T k 1 - (t + 1)).toNat
                  case measure => omega
                  case rel => exact ⟨t + 1, by first | rfl | go_num | (congr 1; omega), by omega, by omega, Nat.le_refl _, K0⟩
              clear t0 t1 hgy
              go_wp2
              go_quiet (fail)
              have nK0 := Lib.hid (K0.out.grow (bdn (RowKit.Below.refl _ _) nq))
              clear K0 cO c0 c1
              generalize wr.drewN nq = wr at *
              have K0 := nK0
              clear nK0
              have cO := K0.out.s.get1 hlt
              rw [← HVQ.out] at cO
              have c0 := K0.out.l.bk0 hlt
              have c1 := K0.out.l.bk1 hlt
              go_wp2_with (fail)
              clear htl
              by_cases hW : V = T k 0
              · have hwd : IntKind.i64.wrap (V - T k 0) = 0 := by rw [hW, Int.sub_self]; rfl
                clear hW
                (refine wp_region_drawnt 10 (by kernel_rfl) (by kernel_rfl) ?_; simp only [List.take_succ_cons, List.take_zero, List.drop_succ_cons, List.drop_zero]; (repeat (go_big_quiet_step ( fail))); refine wpQuiet_nil ?_; rintro _ ⟨nq, rfl⟩)
                have nK0 := Lib.hid (K0.out.grow (bdn (RowKit.Below.refl _ _) nq))
                clear K0 cO c0 c1
                have K0 := nK0
                clear nK0
                generalize wr.drewN nq = wr at *
                go_wp2_with (fail)
                go_roundg (n - (k + 1))
                case measure => omega
                case rel => exact ⟨k + 1, by first | rfl | go_num | (congr 1; omega), by omega, Nat.le_refl _, K0⟩
              have hwd : IntKind.i64.wrap (V - T k 0) = V - T k 0 := wrap_id (by omega) (by omega)
              have hWp : 1 ≤ V - T k 0 := by omega
              have hWz : ((V - T k 0) == 0) = false := by simp; omega
              have hee : (r.tmod (V - T k 0) + (V - T k 0)) % (V - T k 0) = r.tmod (V - T k 0) % (V - T k 0) := by simp
              obtain ⟨K, hK, x1, y1, u1, z1⟩ := dpicks r (V - T k 0) hWp
              clear hW
              (refine wp_region_drawnt 10 (by kernel_rfl) (by kernel_rfl) ?_; simp only [List.take_succ_cons, List.take_zero, List.drop_succ_cons, List.drop_zero]; (repeat (go_big_quiet_step ( fail))); refine wpQuiet_nil ?_; rintro _ ⟨nq, rfl⟩)
              have nK0 := Lib.hid (K0.out.grow (bdn (RowKit.Below.refl _ _) nq))
              clear K0 cO c0 c1
              have K0 := nK0
              clear nK0
              generalize wr.drewN nq = wr at *
              have cO := K0.out.s.get1 hlt
              rw [← HVQ.out] at cO
              have c0 := K0.out.l.bk0 hlt
              have c1 := K0.out.l.bk1 hlt
              go_wp2_with (fail)
              have hwa : IntKind.i64.wrap (T k 0 + K) = T k 0 + K := wrap_id (by omega) (by omega)
              have hwb : IntKind.i64.wrap (r.tmod (V - T k 0) + (V - T k 0)) = r.tmod (V - T k 0) + (V - T k 0) := wrap_id (by omega) (by omega)
              (refine wp_region_drawnt 13 (by kernel_rfl) (by kernel_rfl) ?_; simp only [List.take_succ_cons, List.take_zero, List.drop_succ_cons, List.drop_zero]; (repeat (go_big_quiet_step ( fail))); refine wpQuiet_nil ?_; rintro _ ⟨nq, rfl⟩)
              have nK0 := Lib.hid (K0.out.grow (bdn (RowKit.Below.refl _ _) nq))
              clear K0 cO c0 c1
              have K0 := nK0
              clear nK0 hwa hwb
              generalize wr.drewN nq = wr at *
              go_wp2_with (fail)
              (try rw [hee])
              (try rw [hK])
              clear hee hWz
              have ha0 : T k 0 ≤ T k 0 + K := by omega
              have ha1 : T k 0 + K < V := by omega
              generalize T k 0 + K = a0 at *
              clear hK x1 y1 u1 z1 hwd
              have hw2 : IntKind.i64.wrap (a0 + T k 1) = a0 + T k 1 := wrap_id (by omega) (by omega)
              go_loopg [19, 20] (T k 1).toNat (fun gy f v wr => ∃ (t : Int) (b : Bool), f = .bool b ∧ v = .int .i64 t ∧ a0 ≤ t ∧ t ≤ a0 + T k 1 ∧ (a0 + T k 1 - t).toNat ≤ gy ∧ Hid (OnK D A1 A2 A3 k1 k2 k3 M A4 A5 k4 k5 Mo A6 A7 A8 k6 k7 k8 T B (some ⟨bs, os, none⟩) n (some ⟨bo, oo, none⟩) gHQ w wr) ∧ Hid ((∃ x, a0 ≤ x ∧ x < t ∧ ¬ (TO x = false ∧ NF x = 0)) → b = false))
              case atStart => exact ⟨a0, true, rfl, rfl, by omega, by omega, by omega, K0, Lib.hid (fun ⟨x, q1, q2, _⟩ => absurd q1 (by omega))⟩
              case round =>
                clear K0
                obtain ⟨t, b, rfl, rfl, t0, t1, hgy, K0, HFR2⟩ := hrel
                have cO := K0.out.s.get1 hlt
                rw [← HVQ.out] at cO
                have c0 := K0.out.l.bk0 hlt
                have c1 := K0.out.l.bk1 hlt
                by_cases htl : t < a0 + T k 1
                case pos =>
                  go_wp2_with (fail)
                  refine wp_region_specL 16 [15] (on3 gHQ (.agg #[.int .i64 D.size, .int .i64 D.load, .int .i64 D.wind, .slice A1 D.ns k1, .int .i64 D.pitch, .int .i64 D.roll, .int .i64 D.heave, .int .i64 D.fire, .slice A2 D.nh k2, .slice A3 D.nu k3]) (.agg #[.int .i64 M.places, .int .i64 M.any.a0, .int .i64 M.any.a1, .int .i64 M.any.a2, .int .i64 M.any.a3, .int .i64 M.any.a4, .int .i64 M.any.a5, .bool M.any.i, .bool M.any.s, .int .i64 M.mw, .int .i64 M.ms, .int .i64 M.mc, .slice A4 M.n k4, .slice A5 M.m k5]) (.agg #[.slice A6 Mo.np k6, .slice A7 Mo.nr k7, .slice A8 Mo.nv k8]) (.slice (some ⟨bs, os, none⟩) n c) (.int .i64 (k : Int)) (.pointer (some ⟨bs, os + k * 12, none⟩)) (.pointer (some ⟨bs, os + k * 12 + 2, none⟩)) (.agg #[.int .i64 (T k 2), .int .i64 (T k 3), .int .i64 (T k 4), .int .i64 (T k 5), .int .i64 (T k 6), .bool (B k 7), .bool (B k 8), .int .i64 (T k 9), .int .i64 (T k 10), .int .i64 (T k 11)]) (.int .i64 t) (NF t)) (fun i => false) (by kernel_rfl) (by kernel_rfl) (by decide) on3_below ?hop4 ?htail4
                  case hop4 =>
                    simp only [List.take_succ_cons, List.take_zero, allOps]
                    refine ⟨?_, ?_, ?_, ?_, ?_, ?_, ?_, ?_, ?_, ?_, ?_, ?_, ?_, ?_, ?_, ?_, trivial⟩
                    all_goals intro u A w1 hA hb hd
                    all_goals simp only [putAll, dstOf, List.getElem?_toArray, List.getElem?_cons_succ, List.getElem?_cons_zero, Option.bind_some, Option.bind, Act.put, List.setIfInBounds_toArray, List.set_cons_succ, List.set_cons_zero] at hA; subst hA
                    all_goals have HB1 := Lib.hid hb
                    · refine OpOk.now rfl ?_
                      clear hb hd
                      go_wp2
                      exact ⟨_, rfl, Below.refl _ _, rfl, fun h => absurd h (by decide)⟩
                    · refine OpOk.now rfl ?_
                      have d0 : u 0 = _ := hd 0 (by omega) (by kernel_rfl)
                      clear hb hd
                      rw [d0]
                      clear d0
                      go_wp2_with (refine wpl_mid rfl 26 _ rfl _ 0 rfl 39 #[.int .i64 D.size, .int .i64 D.load, .int .i64 D.wind, .slice A1 D.ns k1, .int .i64 D.pitch, .int .i64 D.roll, .int .i64 D.heave, .int .i64 D.fire, .slice A2 D.nh k2, .slice A3 D.nu k3, .int .i64 M.places, .int .i64 M.any.a0, .int .i64 M.any.a1, .int .i64 M.any.a2, .int .i64 M.any.a3, .int .i64 M.any.a4, .int .i64 M.any.a5, .bool M.any.i, .bool M.any.s, .int .i64 M.mw, .int .i64 M.ms, .int .i64 M.mc, .slice A4 M.n k4, .slice A5 M.m k5, .slice A6 Mo.np k6, .slice A7 Mo.nr k7, .slice A8 Mo.nv k8] #[.int .i64 D.size, .int .i64 D.load, .int .i64 D.wind, .slice A1 D.ns k1, .int .i64 D.pitch, .int .i64 D.roll, .int .i64 D.heave, .int .i64 D.fire, .slice A2 D.nh k2, .slice A3 D.nu k3] 10 (K0.out.q.below HB1.out) Tryz.rowDek [] [.int .i64 M.places, .int .i64 M.any.a0, .int .i64 M.any.a1, .int .i64 M.any.a2, .int .i64 M.any.a3, .int .i64 M.any.a4, .int .i64 M.any.a5, .bool M.any.i, .bool M.any.s, .int .i64 M.mw, .int .i64 M.ms, .int .i64 M.mc, .slice A4 M.n k4, .slice A5 M.m k5, .slice A6 Mo.np k6, .slice A7 Mo.nr k7, .slice A8 Mo.nv k8] rfl rfl rfl ?_; simp only [Act.put])
                      exact ⟨_, rfl, Below.refl _ _, rfl, fun h => absurd h (by decide)⟩
                    · refine OpOk.now rfl ?_
                      clear hb hd
                      go_wp2
                      exact ⟨_, rfl, Below.refl _ _, rfl, fun h => absurd h (by decide)⟩
                    · refine OpOk.now rfl ?_
                      have d2 : u 2 = _ := hd 2 (by omega) (by kernel_rfl)
                      clear hb hd
                      rw [d2]
                      clear d2
                      go_wp2_with (refine wpl_mid rfl 34 _ rfl _ 10 rfl 39 #[.int .i64 D.size, .int .i64 D.load, .int .i64 D.wind, .slice A1 D.ns k1, .int .i64 D.pitch, .int .i64 D.roll, .int .i64 D.heave, .int .i64 D.fire, .slice A2 D.nh k2, .slice A3 D.nu k3, .int .i64 M.places, .int .i64 M.any.a0, .int .i64 M.any.a1, .int .i64 M.any.a2, .int .i64 M.any.a3, .int .i64 M.any.a4, .int .i64 M.any.a5, .bool M.any.i, .bool M.any.s, .int .i64 M.mw, .int .i64 M.ms, .int .i64 M.mc, .slice A4 M.n k4, .slice A5 M.m k5, .slice A6 Mo.np k6, .slice A7 Mo.nr k7, .slice A8 Mo.nv k8] #[.int .i64 M.places, .int .i64 M.any.a0, .int .i64 M.any.a1, .int .i64 M.any.a2, .int .i64 M.any.a3, .int .i64 M.any.a4, .int .i64 M.any.a5, .bool M.any.i, .bool M.any.s, .int .i64 M.mw, .int .i64 M.ms, .int .i64 M.mc, .slice A4 M.n k4, .slice A5 M.m k5] 14 (K0.out.q.below HB1.out) Tryz.rowMet [.int .i64 D.size, .int .i64 D.load, .int .i64 D.wind, .slice A1 D.ns k1, .int .i64 D.pitch, .int .i64 D.roll, .int .i64 D.heave, .int .i64 D.fire, .slice A2 D.nh k2, .slice A3 D.nu k3] [.slice A6 Mo.np k6, .slice A7 Mo.nr k7, .slice A8 Mo.nv k8] rfl rfl rfl ?_; simp only [Act.put])
                      exact ⟨_, rfl, Below.refl _ _, rfl, fun h => absurd h (by decide)⟩
                    · refine OpOk.now rfl ?_
                      clear hb hd
                      go_wp2
                      exact ⟨_, rfl, Below.refl _ _, rfl, fun h => absurd h (by decide)⟩
                    · refine OpOk.now rfl ?_
                      have d4 : u 4 = _ := hd 4 (by omega) (by kernel_rfl)
                      clear hb hd
                      rw [d4]
                      clear d4
                      go_wp2_with (refine wpl_mid rfl 37 _ rfl _ 24 rfl 39 #[.int .i64 D.size, .int .i64 D.load, .int .i64 D.wind, .slice A1 D.ns k1, .int .i64 D.pitch, .int .i64 D.roll, .int .i64 D.heave, .int .i64 D.fire, .slice A2 D.nh k2, .slice A3 D.nu k3, .int .i64 M.places, .int .i64 M.any.a0, .int .i64 M.any.a1, .int .i64 M.any.a2, .int .i64 M.any.a3, .int .i64 M.any.a4, .int .i64 M.any.a5, .bool M.any.i, .bool M.any.s, .int .i64 M.mw, .int .i64 M.ms, .int .i64 M.mc, .slice A4 M.n k4, .slice A5 M.m k5, .slice A6 Mo.np k6, .slice A7 Mo.nr k7, .slice A8 Mo.nv k8] #[.slice A6 Mo.np k6, .slice A7 Mo.nr k7, .slice A8 Mo.nv k8] 3 (K0.out.q.below HB1.out) Tryz.rowMov [.int .i64 D.size, .int .i64 D.load, .int .i64 D.wind, .slice A1 D.ns k1, .int .i64 D.pitch, .int .i64 D.roll, .int .i64 D.heave, .int .i64 D.fire, .slice A2 D.nh k2, .slice A3 D.nu k3, .int .i64 M.places, .int .i64 M.any.a0, .int .i64 M.any.a1, .int .i64 M.any.a2, .int .i64 M.any.a3, .int .i64 M.any.a4, .int .i64 M.any.a5, .bool M.any.i, .bool M.any.s, .int .i64 M.mw, .int .i64 M.ms, .int .i64 M.mc, .slice A4 M.n k4, .slice A5 M.m k5] [] rfl rfl rfl ?_; simp only [Act.put])
                      exact ⟨_, rfl, Below.refl _ _, rfl, fun h => absurd h (by decide)⟩
                    · refine OpOk.now rfl ?_
                      clear hb hd
                      go_wp2
                      exact ⟨_, rfl, Below.refl _ _, rfl, fun h => absurd h (by decide)⟩
                    · refine OpOk.now rfl ?_
                      clear hb hd
                      go_wp2
                      exact ⟨_, rfl, Below.refl _ _, rfl, fun h => absurd h (by decide)⟩
                    · refine OpOk.now rfl ?_
                      have d6 : u 6 = _ := hd 6 (by omega) (by kernel_rfl)
                      have d7 : u 7 = _ := hd 7 (by omega) (by kernel_rfl)
                      clear hb hd
                      rw [d6, d7]
                      clear d6 d7
                      go_wp2
                      exact ⟨_, rfl, Below.refl _ _, rfl, fun h => absurd h (by decide)⟩
                    · refine OpOk.now rfl ?_
                      have d8 : u 8 = _ := hd 8 (by omega) (by kernel_rfl)
                      clear hb hd
                      rw [d8]
                      clear d8
                      go_wp2
                      exact ⟨_, rfl, Below.refl _ _, rfl, fun h => absurd h (by decide)⟩
                    · refine OpOk.now rfl ?_
                      have d9 : u 9 = _ := hd 9 (by omega) (by kernel_rfl)
                      clear hb hd
                      rw [d9]
                      clear d9
                      have q2 : w1.cell? ⟨bs, os + k * 12 + 2, none⟩ = some (.int .i64 (T k 2)) := (K0.out.l.below HB1.out).get hlt (by omega)
                      have q3 : w1.cell? ⟨bs, os + k * 12 + 3, none⟩ = some (.int .i64 (T k 3)) := (K0.out.l.below HB1.out).get hlt (by omega)
                      have q4 : w1.cell? ⟨bs, os + k * 12 + 4, none⟩ = some (.int .i64 (T k 4)) := (K0.out.l.below HB1.out).get hlt (by omega)
                      have q5 : w1.cell? ⟨bs, os + k * 12 + 5, none⟩ = some (.int .i64 (T k 5)) := (K0.out.l.below HB1.out).get hlt (by omega)
                      have q6 : w1.cell? ⟨bs, os + k * 12 + 6, none⟩ = some (.int .i64 (T k 6)) := (K0.out.l.below HB1.out).get hlt (by omega)
                      have q7 : w1.cell? ⟨bs, os + k * 12 + 7, none⟩ = some (.bool (B k 7)) := (K0.out.l.below HB1.out).get hlt (by omega)
                      have q8 : w1.cell? ⟨bs, os + k * 12 + 8, none⟩ = some (.bool (B k 8)) := (K0.out.l.below HB1.out).get hlt (by omega)
                      have q9 : w1.cell? ⟨bs, os + k * 12 + 9, none⟩ = some (.int .i64 (T k 9)) := (K0.out.l.below HB1.out).get hlt (by omega)
                      have q10 : w1.cell? ⟨bs, os + k * 12 + 10, none⟩ = some (.int .i64 (T k 10)) := (K0.out.l.below HB1.out).get hlt (by omega)
                      have q11 : w1.cell? ⟨bs, os + k * 12 + 11, none⟩ = some (.int .i64 (T k 11)) := (K0.out.l.below HB1.out).get hlt (by omega)
                      go_wp2
                      exact ⟨_, rfl, Below.refl _ _, rfl, fun h => absurd h (by decide)⟩
                    · refine OpOk.now rfl ?_
                      clear hb hd
                      go_wp2
                      exact ⟨_, rfl, Below.refl _ _, rfl, fun h => absurd h (by decide)⟩
                    · refine OpOk.now rfl ?_
                      have d1 : u 1 = _ := hd 1 (by omega) (by kernel_rfl)
                      have d3 : u 3 = _ := hd 3 (by omega) (by kernel_rfl)
                      have d5 : u 5 = _ := hd 5 (by omega) (by kernel_rfl)
                      have d10 : u 10 = _ := hd 10 (by omega) (by kernel_rfl)
                      have d11 : u 11 = _ := hd 11 (by omega) (by kernel_rfl)
                      clear hb hd
                      rw [d1, d3, d5, d10, d11]
                      clear d1 d3 d5 d10 d11
                      go_wp2_with (go_at_call 11; (with_reducible refine (HWY.out t (by omega) (by omega) _ (K0.out.d.below HB1.out) (K0.out.m.below HB1.out) (K0.out.o.below HB1.out)).mono ?_); rintro e w2 ⟨A9, c9, rfl, hb2⟩)
                      exact ⟨_, rfl, hb2, ⟨A9, c9, rfl⟩, fun h => absurd h (by decide)⟩
                    · refine OpOk.now rfl ?_
                      have d12 := hd 12 (by omega) (by kernel_rfl)
                      clear hb hd
                      obtain ⟨A9, c9, e9⟩ := d12
                      rw [e9]
                      clear e9
                      go_wp2
                      exact ⟨_, rfl, RowKit.Below.refl _ _, ⟨A9, c9, rfl⟩, fun h => absurd h (by decide)⟩
                    · refine OpOk.now rfl ?_
                      have d13 := hd 13 (by omega) (by kernel_rfl)
                      clear hb hd
                      obtain ⟨A9, c9, e9⟩ := d13
                      rw [e9]
                      clear e9
                      go_wp2
                      exact ⟨_, rfl, RowKit.Below.refl _ _, ⟨A9, c9, rfl⟩, fun h => absurd h (by decide)⟩
                    · have d13 := hd 13 (by omega) (by kernel_rfl)
                      clear hb hd
                      obtain ⟨A9, c9, e9⟩ := d13
                      rw [e9]
                      clear e9
                      refine OpOk.late rfl ?_
                      exact ⟨_, yields_extract rfl _ _ rfl _ rfl _ rfl, rfl⟩
                  case htail4 =>
                    intro u A w1 hA hb hd hf
                    simp only [putAll, dstOf, List.getElem?_toArray, List.getElem?_cons_succ, List.getElem?_cons_zero, Option.bind_some, Option.bind, Act.put, List.setIfInBounds_toArray, List.set_cons_succ, List.set_cons_zero] at hA; subst hA
                    have e0 : u 0 = _ := hd 0 (by omega)
                    have e1 : u 1 = _ := hd 1 (by omega)
                    have e2 : u 2 = _ := hd 2 (by omega)
                    have e3 : u 3 = _ := hd 3 (by omega)
                    have e4 : u 4 = _ := hd 4 (by omega)
                    have e5 : u 5 = _ := hd 5 (by omega)
                    have e6 : u 6 = _ := hd 6 (by omega)
                    have e7 : u 7 = _ := hd 7 (by omega)
                    have e8 : u 8 = _ := hd 8 (by omega)
                    have e9 : u 9 = _ := hd 9 (by omega)
                    have e10 : u 10 = _ := hd 10 (by omega)
                    have e11 : u 11 = _ := hd 11 (by omega)
                    have p12 := hd 12 (by omega)
                    have p13 := hd 13 (by omega)
                    have p14 := hd 14 (by omega)
                    have e15 : u 15 = _ := hd 15 (by omega)
                    first | rw [e0, e1, e2, e3, e4, e5, e6, e7, e8, e9, e10, e11, e15] | simp only [e0, e1, e2, e3, e4, e5, e6, e7, e8, e9, e10, e11, e15]
                    clear e0 e1 e2 e3 e4 e5 e6 e7 e8 e9 e10 e11 e15
                    clear hd hf
                    clear p12 p13
                    obtain ⟨A9, c9, e14⟩ := p14
                    rw [e14]
                    clear e14
                    have nK0 := Lib.hid (K0.out.grow hb)
                    clear K0 cO c0 c1
                    have K0 := nK0
                    clear nK0 hb
                    have cO := K0.out.s.get1 hlt
                    rw [← HVQ.out] at cO
                    have c0 := K0.out.l.bk0 hlt
                    have c1 := K0.out.l.bk1 hlt
                    go_wp2_with (fail)
                    dsimp only [NoPanic]
                    cases b
                    case false =>
                      go_wp2_with (fail)
                      go_roundg (a0 + T k 1 - (t + 1)).toNat
                      case measure => omega
                      case rel => exact ⟨t + 1, false, by first | rfl | (congr 1; simp), by first | rfl | go_num | (congr 1; omega), by omega, by omega, Nat.le_refl _, K0, Lib.hid (fun ⟨x, x1, x2, x3⟩ => rfl)⟩
                    case true =>
                      by_cases hnf : NF t = 0
                      case neg =>
                        have zn : ((NF t : Int) == 0) = false := by simp; omega
                        go_wp2_with (fail)
                        go_roundg (a0 + T k 1 - (t + 1)).toNat
                        case measure => omega
                        case rel => exact ⟨t + 1, false, by first | rfl | (congr 1; simp), by first | rfl | go_num | (congr 1; omega), by omega, by omega, Nat.le_refl _, K0, Lib.hid (fun ⟨x, x1, x2, x3⟩ => rfl)⟩
                      case pos =>
                        rw [hnf]
                        cases hto : TO t
                        case true =>
                          go_wp2_with (first | (refine (HBD.out t _ K0.out.l K0.out.s).mono ?_; rintro e w2 ⟨rfl, hb2⟩; have nK0 := Lib.hid (K0.out.grow hb2); clear K0 hb2 cO c0 c1; have K0 := nK0; clear nK0; (try rw [hto])))
                          go_roundg (a0 + T k 1 - (t + 1)).toNat
                          case measure => omega
                          case rel => exact ⟨t + 1, false, by first | rfl | (congr 1; simp), by first | rfl | go_num | (congr 1; omega), by omega, by omega, Nat.le_refl _, K0, Lib.hid (fun ⟨x, x1, x2, x3⟩ => rfl)⟩
                        case false =>
                          have HQ2 := Lib.hid (And.intro hto hnf)
                          go_wp2_with (first | (refine (HBD.out t _ K0.out.l K0.out.s).mono ?_; rintro e w2 ⟨rfl, hb2⟩; have nK0 := Lib.hid (K0.out.grow hb2); clear K0 hb2 cO c0 c1; have K0 := nK0; clear nK0; (try rw [hto])))
                          go_roundg (a0 + T k 1 - (t + 1)).toNat
                          case measure => omega
                          case rel => exact ⟨t + 1, true, by first | rfl | (congr 1; simp), by first | rfl | go_num | (congr 1; omega), by omega, by omega, Nat.le_refl _, K0, Lib.hid (fun ⟨x, x1, x2, x3⟩ => (by by_cases e : x = t; ( subst e; exact absurd HQ2.out x3 ); exact HFR2.out ⟨x, x1, by omega, x3⟩))⟩
                have hbf : b = false := by
                  obtain ⟨x, q1, q2, q3⟩ := HS2.out a0 (by omega) ha1
                  exact HFR2.out ⟨x, q1, by omega, q3⟩
                subst hbf
                go_wp2_with (fail)
                go_roundg (n - (k + 1))
                case measure => omega
                case rel => exact ⟨k + 1, by first | rfl | go_num | (congr 1; omega), by omega, Nat.le_refl _, K0⟩
end Go.Proofs.YtafkifjebimdaaaGreat
